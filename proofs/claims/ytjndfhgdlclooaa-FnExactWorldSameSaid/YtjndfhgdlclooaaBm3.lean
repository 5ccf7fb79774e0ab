/- Contracts: sizes, copies and equality of worlds; no condition. -/
import Derived.Test.YtjndfhgdlclooaaBm2
namespace Go.Proofs.Ytjndfhgdlclooaa
set_option linter.unusedSimpArgs false
set_option linter.unusedVariables false
open Go Go.RowKit

def szLease (e : Lease) (l : Int) : Int := szStr e.path l
def szHold (e : Hold) (l : Int) : Int := if l - e.path.length < 0 then -1 else if szEnt e.ent (l - e.path.length) < 0 then -1 else szEnt e.ent (l - e.path.length)
def szMsg (m : Msg) (l : Int) : Int := if szHold m.hold l < 0 then -1 else szHold m.hold l
def szInts (t : List Int) (l : Int) : Int := if l - t.length < 0 then -1 else l - t.length
def szOp (o : Op) (l : Int) : Int := if l - o.path.length < 0 then -1 else if l - o.path.length - o.dest.length < 0 then -1 else szStr o.data (l - o.path.length - o.dest.length)

theorem szLease_le {e : Lease} {l : Int} (h : -1 ≤ l) : -1 ≤ szLease e l ∧ szLease e l ≤ l := szStr_le h
theorem szHold_le {e : Hold} {l : Int} (h : -1 ≤ l) : -1 ≤ szHold e l ∧ szHold e l ≤ l := by
  unfold szHold; split
  · omega
  · have := @szEnt_le e.ent (l - e.path.length) (by omega)
    split <;> omega
theorem szMsg_le {e : Msg} {l : Int} (h : -1 ≤ l) : -1 ≤ szMsg e l ∧ szMsg e l ≤ l := by
  have := @szHold_le e.hold l h
  unfold szMsg; split <;> omega
theorem szInts_le {t : List Int} {l : Int} (h : -1 ≤ l) : -1 ≤ szInts t l ∧ szInts t l ≤ l := by unfold szInts; split <;> omega
theorem szOp_le {e : Op} {l : Int} (h : -1 ≤ l) : -1 ≤ szOp e l ∧ szOp e l ≤ l := by
  unfold szOp; split
  · omega
  split
  · omega
  · have := @szStr_le e.data (l - e.path.length - e.dest.length) (by omega); omega


def c_laws_szLease : XC := (.s (.r [.ex 2 (.box (.t 0)), .ex 4 (.mv (.i 0))]) (.s (.r [.mv 5 1, .ex 6 (.fa 1 (.t 2)), .ex 7 (.ld false 1 (.t 6)), .ex 8 (.len true (.t 7)), .ex 9 (.bin .sub (.t 5) (.t 8)), .mv 1 9]) (.s (.s (.r [.mv 10 1, .ex 11 (.bin .lss (.t 10) (.i 0))]) (.cnd (.t 11) (.s (.r [.ex 4 (.mv (.k (.c (.sc (.int .i64 (.negSucc 0))))))]) .ret) .skip)) (.s (.r [.mv 12 1, .mv 4 12]) .ret))))
theorem c_laws_szLease_eq : compF Go.Proofs.Try.prog [] 80 = some (c_laws_szLease.ac, [(.t 4)], 13) := by kernel_rfl

theorem f_szLease (W0 : World) (e : Lease) (l : Int) (h : -1 ≤ l ∧ l ≤ 1048576) : Fn Go.Proofs.Try.prog W0 80 [eLease e, CI l] (.c (CI (szLease e l))) [] := by
  refine fnX (c := c_laws_szLease) mixed c_laws_szLease_eq (by simp) rfl fun hg => ?_
  have g1 := goodS (goodAgg (hg _ (by simp : eLease e ∈ _)) _ (by simp : CS e.path ∈ _))
  conv => whnf
  repeat ((first | refine oB (by first | omega | rfl | exact zM fun _ => rfl) ?_ | refine lM ?_ | refine lA ?_ | refine aM rfl (by omega) ?_ | refine aA rfl (by omega) ?_ | refine nC ?_); conv => whnf)
  refine cP (fun h1 => ?_) (fun h1 => ?_)
  · conv => whnf
    repeat ((first | refine oB (by first | omega | rfl | exact zM fun _ => rfl) ?_ | refine lM ?_ | refine lA ?_ | refine aM rfl (by omega) ?_ | refine aA rfl (by omega) ?_ | refine nC ?_); conv => whnf)
    simp only [szLease, szStr, h1, if_true] <;> rfl
  · conv => whnf
    repeat ((first | refine oB (by first | omega | rfl | exact zM fun _ => rfl) ?_ | refine lM ?_ | refine lA ?_ | refine aM rfl (by omega) ?_ | refine aA rfl (by omega) ?_ | refine nC ?_); conv => whnf)
    simp only [szLease, szStr, Int.not_lt.2 h1, if_false]


def c_laws_szHold : XC := (.s (.r [.ex 2 (.box (.t 0)), .ex 4 (.mv (.i 0))]) (.s (.r [.mv 5 1, .ex 6 (.fa 0 (.t 2)), .ex 7 (.ld false 1 (.t 6)), .ex 8 (.len true (.t 7)), .ex 9 (.bin .sub (.t 5) (.t 8)), .mv 1 9]) (.s (.s (.r [.mv 10 1, .ex 11 (.bin .lss (.t 10) (.i 0))]) (.cnd (.t 11) (.s (.r [.ex 4 (.mv (.k (.c (.sc (.int .i64 (.negSucc 0))))))]) .ret) .skip)) (.s (.r [.ex 12 (.fa 2 (.t 2)), .ex 13 (.ld true 3 (.t 12)), .mv 14 1, .ex 15 (.call 72 [(.t 13), (.t 14)]), .mv 1 15]) (.s (.s (.r [.mv 16 1, .ex 17 (.bin .lss (.t 16) (.i 0))]) (.cnd (.t 17) (.s (.r [.ex 4 (.mv (.k (.c (.sc (.int .i64 (.negSucc 0))))))]) .ret) .skip)) (.s (.r [.mv 18 1, .mv 4 18]) .ret))))))
theorem c_laws_szHold_eq : compF Go.Proofs.Try.prog [] 97 = some (c_laws_szHold.ac, [(.t 4)], 19) := by kernel_rfl

theorem f_szHold (W0 : World) (e : Hold) (l : Int) (h : -1 ≤ l ∧ l ≤ 1048576) : Fn Go.Proofs.Try.prog W0 97 [eHold e, CI l] (.c (CI (szHold e l))) [] := by
  refine fnX (c := c_laws_szHold) mixed c_laws_szHold_eq (by simp) rfl fun hg => ?_
  have g1 := goodS (goodAgg (hg _ (by simp : eHold e ∈ _)) _ (by simp : CS e.path ∈ _))
  conv => whnf
  repeat ((first | refine oB (by first | omega | rfl | exact zM fun _ => rfl) ?_ | refine lM ?_ | refine lA ?_ | refine aM rfl (by omega) ?_ | refine aA rfl (by omega) ?_ | refine nC ?_); conv => whnf)
  refine cP (fun h1 => ?_) (fun h1 => ?_)
  · conv => whnf
    repeat ((first | refine oB (by first | omega | rfl | exact zM fun _ => rfl) ?_ | refine lM ?_ | refine lA ?_ | refine aM rfl (by omega) ?_ | refine aA rfl (by omega) ?_ | refine nC ?_); conv => whnf)
    simp only [szHold, h1, if_true] <;> rfl
  conv => whnf
  repeat ((first | refine oB (by first | omega | rfl | exact zM fun _ => rfl) ?_ | refine lM ?_ | refine lA ?_ | refine aM rfl (by omega) ?_ | refine aA rfl (by omega) ?_ | refine nC ?_ | refine c0 (f_szEnt W0 e.ent _ (by omega)) rfl ?_ | intro _); conv => whnf)
  refine cP (fun h2 => ?_) (fun h2 => ?_)
  · conv => whnf
    repeat ((first | refine oB (by first | omega | rfl | exact zM fun _ => rfl) ?_ | refine lM ?_ | refine lA ?_ | refine aM rfl (by omega) ?_ | refine aA rfl (by omega) ?_ | refine nC ?_); conv => whnf)
    simp only [szHold, Int.not_lt.2 h1, if_false, h2, if_true] <;> rfl
  · conv => whnf
    repeat ((first | refine oB (by first | omega | rfl | exact zM fun _ => rfl) ?_ | refine lM ?_ | refine lA ?_ | refine aM rfl (by omega) ?_ | refine aA rfl (by omega) ?_ | refine nC ?_); conv => whnf)
    simp only [szHold, Int.not_lt.2 h1, Int.not_lt.2 h2, if_false]


def c_laws_szMsg : XC := (.s (.r [.ex 2 (.box (.t 0)), .ex 4 (.mv (.i 0))]) (.s (.r [.ex 5 (.fa 2 (.t 2)), .ex 6 (.ld true 7 (.t 5)), .mv 7 1, .ex 8 (.call 97 [(.t 6), (.t 7)]), .mv 1 8]) (.s (.s (.r [.mv 9 1, .ex 10 (.bin .lss (.t 9) (.i 0))]) (.cnd (.t 10) (.s (.r [.ex 4 (.mv (.k (.c (.sc (.int .i64 (.negSucc 0))))))]) .ret) .skip)) (.s (.r [.mv 11 1, .mv 4 11]) .ret))))
theorem c_laws_szMsg_eq : compF Go.Proofs.Try.prog [] 82 = some (c_laws_szMsg.ac, [(.t 4)], 12) := by kernel_rfl

theorem f_szMsg (W0 : World) (e : Msg) (l : Int) (h : -1 ≤ l ∧ l ≤ 1048576) : Fn Go.Proofs.Try.prog W0 82 [eMsg e, CI l] (.c (CI (szMsg e l))) [] := by
  refine fnX (c := c_laws_szMsg) mixed c_laws_szMsg_eq (by simp) rfl fun hg => ?_
  conv => whnf
  repeat ((first | refine oB (by first | omega | rfl | exact zM fun _ => rfl) ?_ | refine lM ?_ | refine lA ?_ | refine aM rfl (by omega) ?_ | refine aA rfl (by omega) ?_ | refine nC ?_ | refine c0 (f_szHold W0 e.hold _ h) rfl ?_ | intro _); conv => whnf)
  refine cP (fun h2 => ?_) (fun h2 => ?_)
  · conv => whnf
    repeat ((first | refine oB (by first | omega | rfl | exact zM fun _ => rfl) ?_ | refine lM ?_ | refine lA ?_ | refine aM rfl (by omega) ?_ | refine aA rfl (by omega) ?_ | refine nC ?_); conv => whnf)
    simp only [szMsg, h2, if_true] <;> rfl
  · conv => whnf
    repeat ((first | refine oB (by first | omega | rfl | exact zM fun _ => rfl) ?_ | refine lM ?_ | refine lA ?_ | refine aM rfl (by omega) ?_ | refine aA rfl (by omega) ?_ | refine nC ?_); conv => whnf)
    simp only [szMsg, Int.not_lt.2 h2, if_false]


def c_laws_szIntS : XC := (.s (.r [.ex 4 (.mv (.i 0))]) (.s (.r [.mv 5 1, .mv 6 0, .ex 7 (.len false (.t 6)), .ex 8 (.bin .sub (.t 5) (.t 7)), .mv 1 8]) (.s (.s (.r [.mv 9 1, .ex 10 (.bin .lss (.t 9) (.i 0))]) (.cnd (.t 10) (.s (.r [.ex 4 (.mv (.k (.c (.sc (.int .i64 (.negSucc 0))))))]) .ret) .skip)) (.s (.r [.mv 11 1, .mv 4 11]) .ret))))
theorem c_laws_szIntS_eq : compF Go.Proofs.Try.prog [] 37 = some (c_laws_szIntS.ac, [(.t 4)], 12) := by kernel_rfl

theorem f_szInts (W0 : World) (t : List Int) (l : Int) (h : -1 ≤ l ∧ l ≤ 1048576) : Fn Go.Proofs.Try.prog W0 37 [eInts t, CI l] (.c (CI (szInts t l))) [] := by
  refine fnX (c := c_laws_szIntS) mixed c_laws_szIntS_eq (by simp) rfl fun hg => ?_
  have g1 := goodRow (hg _ (by simp : eInts t ∈ _))
  conv => whnf
  repeat ((first | refine oB (by first | omega | rfl | exact zM fun _ => rfl) ?_ | refine lM ?_ | refine lA ?_ | refine aM rfl (by omega) ?_ | refine aA rfl (by omega) ?_ | refine nC ?_); conv => whnf)
  refine cP (fun h1 => ?_) (fun h1 => ?_)
  · conv => whnf
    repeat ((first | refine oB (by first | omega | rfl | exact zM fun _ => rfl) ?_ | refine lM ?_ | refine lA ?_ | refine aM rfl (by omega) ?_ | refine aA rfl (by omega) ?_ | refine nC ?_); conv => whnf)
    simp only [szInts, h1, if_true] <;> rfl
  · conv => whnf
    repeat ((first | refine oB (by first | omega | rfl | exact zM fun _ => rfl) ?_ | refine lM ?_ | refine lA ?_ | refine aM rfl (by omega) ?_ | refine aA rfl (by omega) ?_ | refine nC ?_); conv => whnf)
    simp only [szInts, Int.not_lt.2 h1, if_false]


def c_laws_szOp : XC := (.s (.r [.ex 2 (.box (.t 0)), .ex 4 (.mv (.i 0))]) (.s (.r [.mv 5 1, .ex 6 (.fa 1 (.t 2)), .ex 7 (.ld false 1 (.t 6)), .ex 8 (.len true (.t 7)), .ex 9 (.bin .sub (.t 5) (.t 8)), .mv 1 9]) (.s (.s (.r [.mv 10 1, .ex 11 (.bin .lss (.t 10) (.i 0))]) (.cnd (.t 11) (.s (.r [.ex 4 (.mv (.k (.c (.sc (.int .i64 (.negSucc 0))))))]) .ret) .skip)) (.s (.r [.mv 12 1, .ex 13 (.fa 2 (.t 2)), .ex 14 (.ld false 1 (.t 13)), .ex 15 (.len true (.t 14)), .ex 16 (.bin .sub (.t 12) (.t 15)), .mv 1 16]) (.s (.s (.r [.mv 17 1, .ex 18 (.bin .lss (.t 17) (.i 0))]) (.cnd (.t 18) (.s (.r [.ex 4 (.mv (.k (.c (.sc (.int .i64 (.negSucc 0))))))]) .ret) .skip)) (.s (.r [.mv 19 1, .ex 20 (.fa 3 (.t 2)), .ex 21 (.ld false 1 (.t 20)), .ex 22 (.len true (.t 21)), .ex 23 (.bin .sub (.t 19) (.t 22)), .mv 1 23]) (.s (.s (.r [.mv 24 1, .ex 25 (.bin .lss (.t 24) (.i 0))]) (.cnd (.t 25) (.s (.r [.ex 4 (.mv (.k (.c (.sc (.int .i64 (.negSucc 0))))))]) .ret) .skip)) (.s (.r [.mv 26 1, .mv 4 26]) .ret))))))))
theorem c_laws_szOp_eq : compF Go.Proofs.Try.prog [] 39 = some (c_laws_szOp.ac, [(.t 4)], 27) := by kernel_rfl

theorem f_szOp (W0 : World) (e : Op) (l : Int) (h : -1 ≤ l ∧ l ≤ 1048576) : Fn Go.Proofs.Try.prog W0 39 [eOp e, CI l] (.c (CI (szOp e l))) [] := by
  refine fnX (c := c_laws_szOp) mixed c_laws_szOp_eq (by simp) rfl fun hg => ?_
  have g0 := goodAgg (hg _ (by simp : eOp e ∈ _))
  have g1 := goodS (g0 _ (by simp : CS e.path ∈ _))
  have g2 := goodS (g0 _ (by simp : CS e.dest ∈ _))
  have g3 := goodS (g0 _ (by simp : CS e.data ∈ _))
  conv => whnf
  repeat ((first | refine oB (by first | omega | rfl | exact zM fun _ => rfl) ?_ | refine lM ?_ | refine lA ?_ | refine aM rfl (by omega) ?_ | refine aA rfl (by omega) ?_ | refine nC ?_); conv => whnf)
  refine cP (fun h1 => ?_) (fun h1 => ?_)
  · conv => whnf
    repeat ((first | refine oB (by first | omega | rfl | exact zM fun _ => rfl) ?_ | refine lM ?_ | refine lA ?_ | refine aM rfl (by omega) ?_ | refine aA rfl (by omega) ?_ | refine nC ?_); conv => whnf)
    simp only [szOp, h1, if_true] <;> rfl
  conv => whnf
  repeat ((first | refine oB (by first | omega | rfl | exact zM fun _ => rfl) ?_ | refine lM ?_ | refine lA ?_ | refine aM rfl (by omega) ?_ | refine aA rfl (by omega) ?_ | refine nC ?_); conv => whnf)
  refine cP (fun h2 => ?_) (fun h2 => ?_)
  · conv => whnf
    repeat ((first | refine oB (by first | omega | rfl | exact zM fun _ => rfl) ?_ | refine lM ?_ | refine lA ?_ | refine aM rfl (by omega) ?_ | refine aA rfl (by omega) ?_ | refine nC ?_); conv => whnf)
    simp only [szOp, Int.not_lt.2 h1, if_false, h2, if_true] <;> rfl
  conv => whnf
  repeat ((first | refine oB (by first | omega | rfl | exact zM fun _ => rfl) ?_ | refine lM ?_ | refine lA ?_ | refine aM rfl (by omega) ?_ | refine aA rfl (by omega) ?_ | refine nC ?_); conv => whnf)
  refine cP (fun h3 => ?_) (fun h3 => ?_)
  · conv => whnf
    repeat ((first | refine oB (by first | omega | rfl | exact zM fun _ => rfl) ?_ | refine lM ?_ | refine lA ?_ | refine aM rfl (by omega) ?_ | refine aA rfl (by omega) ?_ | refine nC ?_); conv => whnf)
    simp only [szOp, szStr, Int.not_lt.2 h1, Int.not_lt.2 h2, if_false, h3, if_true] <;> rfl
  · conv => whnf
    repeat ((first | refine oB (by first | omega | rfl | exact zM fun _ => rfl) ?_ | refine lM ?_ | refine lA ?_ | refine aM rfl (by omega) ?_ | refine aA rfl (by omega) ?_ | refine nC ?_); conv => whnf)
    simp only [szOp, szStr, Int.not_lt.2 h1, Int.not_lt.2 h2, Int.not_lt.2 h3, if_false]


def c_laws_szLeaseS : XC := (.s (.r [.ex 4 (.mv (.i 0))]) (.s (.r [.mv 6 1, .mv 7 0, .ex 8 (.len false (.t 7)), .ex 9 (.bin .sub (.t 6) (.t 8)), .mv 1 9]) (.s (.s (.r [.mv 10 1, .ex 11 (.bin .lss (.t 10) (.i 0))]) (.cnd (.t 11) (.s (.r [.ex 4 (.mv (.k (.c (.sc (.int .i64 (.negSucc 0))))))]) .ret) .skip)) (.s (.s (.r [.ex 5 (.mv (.i 0))]) (.blk 0 (.loop (.s (.s (.r [.mv 12 5, .mv 13 0, .ex 14 (.len false (.t 13)), .ex 15 (.bin .lss (.t 12) (.t 14))]) (.cnd (.t 15) .skip (.exit 0))) (.s (.blk 1 (.s (.r [.mv 18 0, .mv 19 5, .ex 20 (.ia 4 (.t 18) (.t 19)), .ex 21 (.ld true 4 (.t 20)), .mv 22 1, .ex 23 (.call 80 [(.t 21), (.t 22)]), .mv 1 23]) (.s (.r [.mv 24 1, .ex 25 (.bin .lss (.t 24) (.i 0))]) (.cnd (.t 25) (.s (.r [.ex 4 (.mv (.k (.c (.sc (.int .i64 (.negSucc 0))))))]) .ret) .skip)))) (.r [.mv 16 5, .ex 17 (.bin .add (.t 16) (.i 1)), .mv 5 17])))))) (.s (.r [.mv 26 1, .mv 4 26]) .ret)))))
theorem c_laws_szLeaseS_eq : compF Go.Proofs.Try.prog [] 35 = some (c_laws_szLeaseS.ac, [(.t 4)], 27) := by kernel_rfl

theorem f_szLeaseS (W0 : World) (t : List Lease) (l : Int) (h : -1 ≤ l ∧ l ≤ 1048576) : Fn Go.Proofs.Try.prog W0 35 [eLeases t, CI l] (.c (CI (szR szLease t l))) [] := by
  refine fnX (c := c_laws_szLeaseS) mixed c_laws_szLeaseS_eq (by simp) rfl fun hg => ?_
  have g1 := goodRow (hg _ (by simp : eLeases t ∈ _))
  conv => whnf
  repeat ((first | refine oB (by first | omega | rfl | exact zM fun _ => rfl) ?_ | refine lM ?_ | refine lA ?_ | refine aM rfl (by omega) ?_ | refine aA rfl (by omega) ?_ | refine nC ?_); conv => whnf)
  refine cP (fun h1 => ?_) (fun h1 => ?_)
  · conv => whnf
    rw [szR.eq_def szLease t, if_pos h1] <;> rfl
  conv => whnf
  refine lp (σ := Nat × Int) (fun x => [(0, .c (eLeases t)), (1, I x.2), (5, I x.1)]) (fun _ => []) (fun x => x.1 ≤ t.length ∧ -1 ≤ x.2 ∧ x.2 ≤ 1048576 ∧ szL szLease (t.drop x.1) x.2 = szR szLease t l)
    (fun x => t.length - x.1) (0, l - t.length) ⟨by simp, by simp; omega, by simp; omega, by rw [szR.eq_def szLease t, if_neg (by omega)]; rfl⟩ ?_ ?_
  · conv => whnf
    repeat ((first | refine oB (by first | omega | rfl | exact zM fun _ => rfl) ?_ | refine lM ?_ | refine lA ?_ | refine aM rfl (by omega) ?_ | refine aA rfl (by omega) ?_ | refine nC ?_); conv => whnf)
    trivial
  rintro ⟨k, r⟩ ⟨hk, hr1, hr2, hr⟩
  dsimp only at hk hr1 hr2 hr
  conv => whnf
  repeat ((first | refine oB (by first | omega | rfl | exact zM fun _ => rfl) ?_ | refine lM ?_ | refine lA ?_ | refine aM rfl (by omega) ?_ | refine aA rfl (by omega) ?_ | refine nC ?_); conv => whnf)
  refine cP (fun h2 => ?_) (fun h2 => ?_)
  · have hk' : k < t.length := by omega
    have hs : -1 ≤ szLease t[k] r ∧ szLease t[k] r ≤ r := szLease_le hr1
    rw [szL_at hk'] at hr
    conv => whnf
    repeat ((first | refine oB (by first | omega | rfl | exact zM fun _ => rfl) ?_ | refine lM ?_ | refine lA ?_ | refine aM rfl (by omega) ?_ | refine aA rfl (by omega) ?_ | refine nC ?_ | refine c0 (f_szLease W0 t[k] r (by omega)) rfl ?_ | intro _); conv => whnf)
    refine cP (fun h3 => ?_) (fun h3 => ?_)
    · conv => whnf
      rw [if_pos h3] at hr
      rw [← hr]; rfl
    · rw [if_neg (Int.not_lt.2 h3)] at hr
      conv => whnf
      repeat ((first | refine oB (by first | omega | rfl | exact zM fun _ => rfl) ?_ | refine lM ?_ | refine lA ?_ | refine aM rfl (by omega) ?_ | refine aA rfl (by omega) ?_ | refine nC ?_); conv => whnf)
      refine ⟨(k + 1, szLease t[k] r), ⟨by dsimp only; omega, by dsimp only; omega, by dsimp only; omega, hr⟩, by dsimp only; omega, ?_⟩
      conv => whnf
      repeat ((first | refine oB (by first | omega | rfl | exact zM fun _ => rfl) ?_ | refine lM ?_ | refine lA ?_ | refine aM rfl (by omega) ?_ | refine aA rfl (by omega) ?_ | refine nC ?_); conv => whnf)
      trivial
  · have : k = t.length := by omega
    subst this
    rw [List.drop_length] at hr
    conv => whnf
    repeat ((first | refine oB (by first | omega | rfl | exact zM fun _ => rfl) ?_ | refine lM ?_ | refine lA ?_ | refine aM rfl (by omega) ?_ | refine aA rfl (by omega) ?_ | refine nC ?_); conv => whnf)
    exact congrArg CI hr


def c_laws_szHoldS : XC := (.s (.r [.ex 4 (.mv (.i 0))]) (.s (.r [.mv 6 1, .mv 7 0, .ex 8 (.len false (.t 7)), .ex 9 (.bin .sub (.t 6) (.t 8)), .mv 1 9]) (.s (.s (.r [.mv 10 1, .ex 11 (.bin .lss (.t 10) (.i 0))]) (.cnd (.t 11) (.s (.r [.ex 4 (.mv (.k (.c (.sc (.int .i64 (.negSucc 0))))))]) .ret) .skip)) (.s (.s (.r [.ex 5 (.mv (.i 0))]) (.blk 0 (.loop (.s (.s (.r [.mv 12 5, .mv 13 0, .ex 14 (.len false (.t 13)), .ex 15 (.bin .lss (.t 12) (.t 14))]) (.cnd (.t 15) .skip (.exit 0))) (.s (.blk 1 (.s (.r [.mv 18 0, .mv 19 5, .ex 20 (.ia 7 (.t 18) (.t 19)), .ex 21 (.ld true 7 (.t 20)), .mv 22 1, .ex 23 (.call 97 [(.t 21), (.t 22)]), .mv 1 23]) (.s (.r [.mv 24 1, .ex 25 (.bin .lss (.t 24) (.i 0))]) (.cnd (.t 25) (.s (.r [.ex 4 (.mv (.k (.c (.sc (.int .i64 (.negSucc 0))))))]) .ret) .skip)))) (.r [.mv 16 5, .ex 17 (.bin .add (.t 16) (.i 1)), .mv 5 17])))))) (.s (.r [.mv 26 1, .mv 4 26]) .ret)))))
theorem c_laws_szHoldS_eq : compF Go.Proofs.Try.prog [] 81 = some (c_laws_szHoldS.ac, [(.t 4)], 27) := by kernel_rfl

theorem f_szHoldS (W0 : World) (t : List Hold) (l : Int) (h : -1 ≤ l ∧ l ≤ 1048576) : Fn Go.Proofs.Try.prog W0 81 [eHolds t, CI l] (.c (CI (szR szHold t l))) [] := by
  refine fnX (c := c_laws_szHoldS) mixed c_laws_szHoldS_eq (by simp) rfl fun hg => ?_
  have g1 := goodRow (hg _ (by simp : eHolds t ∈ _))
  conv => whnf
  repeat ((first | refine oB (by first | omega | rfl | exact zM fun _ => rfl) ?_ | refine lM ?_ | refine lA ?_ | refine aM rfl (by omega) ?_ | refine aA rfl (by omega) ?_ | refine nC ?_); conv => whnf)
  refine cP (fun h1 => ?_) (fun h1 => ?_)
  · conv => whnf
    rw [szR.eq_def szHold t, if_pos h1] <;> rfl
  conv => whnf
  refine lp (σ := Nat × Int) (fun x => [(0, .c (eHolds t)), (1, I x.2), (5, I x.1)]) (fun _ => []) (fun x => x.1 ≤ t.length ∧ -1 ≤ x.2 ∧ x.2 ≤ 1048576 ∧ szL szHold (t.drop x.1) x.2 = szR szHold t l)
    (fun x => t.length - x.1) (0, l - t.length) ⟨by simp, by simp; omega, by simp; omega, by rw [szR.eq_def szHold t, if_neg (by omega)]; rfl⟩ ?_ ?_
  · conv => whnf
    repeat ((first | refine oB (by first | omega | rfl | exact zM fun _ => rfl) ?_ | refine lM ?_ | refine lA ?_ | refine aM rfl (by omega) ?_ | refine aA rfl (by omega) ?_ | refine nC ?_); conv => whnf)
    trivial
  rintro ⟨k, r⟩ ⟨hk, hr1, hr2, hr⟩
  dsimp only at hk hr1 hr2 hr
  conv => whnf
  repeat ((first | refine oB (by first | omega | rfl | exact zM fun _ => rfl) ?_ | refine lM ?_ | refine lA ?_ | refine aM rfl (by omega) ?_ | refine aA rfl (by omega) ?_ | refine nC ?_); conv => whnf)
  refine cP (fun h2 => ?_) (fun h2 => ?_)
  · have hk' : k < t.length := by omega
    have hs : -1 ≤ szHold t[k] r ∧ szHold t[k] r ≤ r := szHold_le hr1
    rw [szL_at hk'] at hr
    conv => whnf
    repeat ((first | refine oB (by first | omega | rfl | exact zM fun _ => rfl) ?_ | refine lM ?_ | refine lA ?_ | refine aM rfl (by omega) ?_ | refine aA rfl (by omega) ?_ | refine nC ?_ | refine c0 (f_szHold W0 t[k] r (by omega)) rfl ?_ | intro _); conv => whnf)
    refine cP (fun h3 => ?_) (fun h3 => ?_)
    · conv => whnf
      rw [if_pos h3] at hr
      rw [← hr]; rfl
    · rw [if_neg (Int.not_lt.2 h3)] at hr
      conv => whnf
      repeat ((first | refine oB (by first | omega | rfl | exact zM fun _ => rfl) ?_ | refine lM ?_ | refine lA ?_ | refine aM rfl (by omega) ?_ | refine aA rfl (by omega) ?_ | refine nC ?_); conv => whnf)
      refine ⟨(k + 1, szHold t[k] r), ⟨by dsimp only; omega, by dsimp only; omega, by dsimp only; omega, hr⟩, by dsimp only; omega, ?_⟩
      conv => whnf
      repeat ((first | refine oB (by first | omega | rfl | exact zM fun _ => rfl) ?_ | refine lM ?_ | refine lA ?_ | refine aM rfl (by omega) ?_ | refine aA rfl (by omega) ?_ | refine nC ?_); conv => whnf)
      trivial
  · have : k = t.length := by omega
    subst this
    rw [List.drop_length] at hr
    conv => whnf
    repeat ((first | refine oB (by first | omega | rfl | exact zM fun _ => rfl) ?_ | refine lM ?_ | refine lA ?_ | refine aM rfl (by omega) ?_ | refine aA rfl (by omega) ?_ | refine nC ?_); conv => whnf)
    exact congrArg CI hr


def c_laws_szMsgS : XC := (.s (.r [.ex 4 (.mv (.i 0))]) (.s (.r [.mv 6 1, .mv 7 0, .ex 8 (.len false (.t 7)), .ex 9 (.bin .sub (.t 6) (.t 8)), .mv 1 9]) (.s (.s (.r [.mv 10 1, .ex 11 (.bin .lss (.t 10) (.i 0))]) (.cnd (.t 11) (.s (.r [.ex 4 (.mv (.k (.c (.sc (.int .i64 (.negSucc 0))))))]) .ret) .skip)) (.s (.s (.r [.ex 5 (.mv (.i 0))]) (.blk 0 (.loop (.s (.s (.r [.mv 12 5, .mv 13 0, .ex 14 (.len false (.t 13)), .ex 15 (.bin .lss (.t 12) (.t 14))]) (.cnd (.t 15) .skip (.exit 0))) (.s (.blk 1 (.s (.r [.mv 18 0, .mv 19 5, .ex 20 (.ia 9 (.t 18) (.t 19)), .ex 21 (.ld true 9 (.t 20)), .mv 22 1, .ex 23 (.call 82 [(.t 21), (.t 22)]), .mv 1 23]) (.s (.r [.mv 24 1, .ex 25 (.bin .lss (.t 24) (.i 0))]) (.cnd (.t 25) (.s (.r [.ex 4 (.mv (.k (.c (.sc (.int .i64 (.negSucc 0))))))]) .ret) .skip)))) (.r [.mv 16 5, .ex 17 (.bin .add (.t 16) (.i 1)), .mv 5 17])))))) (.s (.r [.mv 26 1, .mv 4 26]) .ret)))))
theorem c_laws_szMsgS_eq : compF Go.Proofs.Try.prog [] 38 = some (c_laws_szMsgS.ac, [(.t 4)], 27) := by kernel_rfl

theorem f_szMsgS (W0 : World) (t : List Msg) (l : Int) (h : -1 ≤ l ∧ l ≤ 1048576) : Fn Go.Proofs.Try.prog W0 38 [eMsgs t, CI l] (.c (CI (szR szMsg t l))) [] := by
  refine fnX (c := c_laws_szMsgS) mixed c_laws_szMsgS_eq (by simp) rfl fun hg => ?_
  have g1 := goodRow (hg _ (by simp : eMsgs t ∈ _))
  conv => whnf
  repeat ((first | refine oB (by first | omega | rfl | exact zM fun _ => rfl) ?_ | refine lM ?_ | refine lA ?_ | refine aM rfl (by omega) ?_ | refine aA rfl (by omega) ?_ | refine nC ?_); conv => whnf)
  refine cP (fun h1 => ?_) (fun h1 => ?_)
  · conv => whnf
    rw [szR.eq_def szMsg t, if_pos h1] <;> rfl
  conv => whnf
  refine lp (σ := Nat × Int) (fun x => [(0, .c (eMsgs t)), (1, I x.2), (5, I x.1)]) (fun _ => []) (fun x => x.1 ≤ t.length ∧ -1 ≤ x.2 ∧ x.2 ≤ 1048576 ∧ szL szMsg (t.drop x.1) x.2 = szR szMsg t l)
    (fun x => t.length - x.1) (0, l - t.length) ⟨by simp, by simp; omega, by simp; omega, by rw [szR.eq_def szMsg t, if_neg (by omega)]; rfl⟩ ?_ ?_
  · conv => whnf
    repeat ((first | refine oB (by first | omega | rfl | exact zM fun _ => rfl) ?_ | refine lM ?_ | refine lA ?_ | refine aM rfl (by omega) ?_ | refine aA rfl (by omega) ?_ | refine nC ?_); conv => whnf)
    trivial
  rintro ⟨k, r⟩ ⟨hk, hr1, hr2, hr⟩
  dsimp only at hk hr1 hr2 hr
  conv => whnf
  repeat ((first | refine oB (by first | omega | rfl | exact zM fun _ => rfl) ?_ | refine lM ?_ | refine lA ?_ | refine aM rfl (by omega) ?_ | refine aA rfl (by omega) ?_ | refine nC ?_); conv => whnf)
  refine cP (fun h2 => ?_) (fun h2 => ?_)
  · have hk' : k < t.length := by omega
    have hs : -1 ≤ szMsg t[k] r ∧ szMsg t[k] r ≤ r := szMsg_le hr1
    rw [szL_at hk'] at hr
    conv => whnf
    repeat ((first | refine oB (by first | omega | rfl | exact zM fun _ => rfl) ?_ | refine lM ?_ | refine lA ?_ | refine aM rfl (by omega) ?_ | refine aA rfl (by omega) ?_ | refine nC ?_ | refine c0 (f_szMsg W0 t[k] r (by omega)) rfl ?_ | intro _); conv => whnf)
    refine cP (fun h3 => ?_) (fun h3 => ?_)
    · conv => whnf
      rw [if_pos h3] at hr
      rw [← hr]; rfl
    · rw [if_neg (Int.not_lt.2 h3)] at hr
      conv => whnf
      repeat ((first | refine oB (by first | omega | rfl | exact zM fun _ => rfl) ?_ | refine lM ?_ | refine lA ?_ | refine aM rfl (by omega) ?_ | refine aA rfl (by omega) ?_ | refine nC ?_); conv => whnf)
      refine ⟨(k + 1, szMsg t[k] r), ⟨by dsimp only; omega, by dsimp only; omega, by dsimp only; omega, hr⟩, by dsimp only; omega, ?_⟩
      conv => whnf
      repeat ((first | refine oB (by first | omega | rfl | exact zM fun _ => rfl) ?_ | refine lM ?_ | refine lA ?_ | refine aM rfl (by omega) ?_ | refine aA rfl (by omega) ?_ | refine nC ?_); conv => whnf)
      trivial
  · have : k = t.length := by omega
    subst this
    rw [List.drop_length] at hr
    conv => whnf
    repeat ((first | refine oB (by first | omega | rfl | exact zM fun _ => rfl) ?_ | refine lM ?_ | refine lA ?_ | refine aM rfl (by omega) ?_ | refine aA rfl (by omega) ?_ | refine nC ?_); conv => whnf)
    exact congrArg CI hr


def c_laws_szHoldSS : XC := (.s (.r [.ex 4 (.mv (.i 0))]) (.s (.r [.mv 6 1, .mv 7 0, .ex 8 (.len false (.t 7)), .ex 9 (.bin .sub (.t 6) (.t 8)), .mv 1 9]) (.s (.s (.r [.mv 10 1, .ex 11 (.bin .lss (.t 10) (.i 0))]) (.cnd (.t 11) (.s (.r [.ex 4 (.mv (.k (.c (.sc (.int .i64 (.negSucc 0))))))]) .ret) .skip)) (.s (.s (.r [.ex 5 (.mv (.i 0))]) (.blk 0 (.loop (.s (.s (.r [.mv 12 5, .mv 13 0, .ex 14 (.len false (.t 13)), .ex 15 (.bin .lss (.t 12) (.t 14))]) (.cnd (.t 15) .skip (.exit 0))) (.s (.blk 1 (.s (.r [.mv 18 0, .mv 19 5, .ex 20 (.ia 1 (.t 18) (.t 19)), .ex 21 (.ld false 1 (.t 20)), .mv 22 1, .ex 23 (.call 81 [(.t 21), (.t 22)]), .mv 1 23]) (.s (.r [.mv 24 1, .ex 25 (.bin .lss (.t 24) (.i 0))]) (.cnd (.t 25) (.s (.r [.ex 4 (.mv (.k (.c (.sc (.int .i64 (.negSucc 0))))))]) .ret) .skip)))) (.r [.mv 16 5, .ex 17 (.bin .add (.t 16) (.i 1)), .mv 5 17])))))) (.s (.r [.mv 26 1, .mv 4 26]) .ret)))))
theorem c_laws_szHoldSS_eq : compF Go.Proofs.Try.prog [] 36 = some (c_laws_szHoldSS.ac, [(.t 4)], 27) := by kernel_rfl

theorem f_szHoldSS (W0 : World) (t : List (List Hold)) (l : Int) (h : -1 ≤ l ∧ l ≤ 1048576) : Fn Go.Proofs.Try.prog W0 36 [eHoldss t, CI l] (.c (CI (szR (szR szHold) t l))) [] := by
  refine fnX (c := c_laws_szHoldSS) mixed c_laws_szHoldSS_eq (by simp) rfl fun hg => ?_
  have g1 := goodRow (hg _ (by simp : eHoldss t ∈ _))
  conv => whnf
  repeat ((first | refine oB (by first | omega | rfl | exact zM fun _ => rfl) ?_ | refine lM ?_ | refine lA ?_ | refine aM rfl (by omega) ?_ | refine aA rfl (by omega) ?_ | refine nC ?_); conv => whnf)
  refine cP (fun h1 => ?_) (fun h1 => ?_)
  · conv => whnf
    rw [szR.eq_def (szR szHold) t, if_pos h1] <;> rfl
  conv => whnf
  refine lp (σ := Nat × Int) (fun x => [(0, .c (eHoldss t)), (1, I x.2), (5, I x.1)]) (fun _ => []) (fun x => x.1 ≤ t.length ∧ -1 ≤ x.2 ∧ x.2 ≤ 1048576 ∧ szL (szR szHold) (t.drop x.1) x.2 = szR (szR szHold) t l)
    (fun x => t.length - x.1) (0, l - t.length) ⟨by simp, by simp; omega, by simp; omega, by rw [szR.eq_def (szR szHold) t, if_neg (by omega)]; rfl⟩ ?_ ?_
  · conv => whnf
    repeat ((first | refine oB (by first | omega | rfl | exact zM fun _ => rfl) ?_ | refine lM ?_ | refine lA ?_ | refine aM rfl (by omega) ?_ | refine aA rfl (by omega) ?_ | refine nC ?_); conv => whnf)
    trivial
  rintro ⟨k, r⟩ ⟨hk, hr1, hr2, hr⟩
  dsimp only at hk hr1 hr2 hr
  conv => whnf
  repeat ((first | refine oB (by first | omega | rfl | exact zM fun _ => rfl) ?_ | refine lM ?_ | refine lA ?_ | refine aM rfl (by omega) ?_ | refine aA rfl (by omega) ?_ | refine nC ?_); conv => whnf)
  refine cP (fun h2 => ?_) (fun h2 => ?_)
  · have hk' : k < t.length := by omega
    have hs : -1 ≤ (szR szHold) t[k] r ∧ (szR szHold) t[k] r ≤ r := (szR_le (fun a l => @szHold_le a l)) hr1
    rw [szL_at hk'] at hr
    conv => whnf
    repeat ((first | refine oB (by first | omega | rfl | exact zM fun _ => rfl) ?_ | refine lM ?_ | refine lA ?_ | refine aM rfl (by omega) ?_ | refine aA rfl (by omega) ?_ | refine nC ?_ | refine c0 (f_szHoldS W0 t[k] r (by omega)) rfl ?_ | intro _); conv => whnf)
    refine cP (fun h3 => ?_) (fun h3 => ?_)
    · conv => whnf
      rw [if_pos h3] at hr
      rw [← hr]; rfl
    · rw [if_neg (Int.not_lt.2 h3)] at hr
      conv => whnf
      repeat ((first | refine oB (by first | omega | rfl | exact zM fun _ => rfl) ?_ | refine lM ?_ | refine lA ?_ | refine aM rfl (by omega) ?_ | refine aA rfl (by omega) ?_ | refine nC ?_); conv => whnf)
      refine ⟨(k + 1, (szR szHold) t[k] r), ⟨by dsimp only; omega, by dsimp only; omega, by dsimp only; omega, hr⟩, by dsimp only; omega, ?_⟩
      conv => whnf
      repeat ((first | refine oB (by first | omega | rfl | exact zM fun _ => rfl) ?_ | refine lM ?_ | refine lA ?_ | refine aM rfl (by omega) ?_ | refine aA rfl (by omega) ?_ | refine nC ?_); conv => whnf)
      trivial
  · have : k = t.length := by omega
    subst this
    rw [List.drop_length] at hr
    conv => whnf
    repeat ((first | refine oB (by first | omega | rfl | exact zM fun _ => rfl) ?_ | refine lM ?_ | refine lA ?_ | refine aM rfl (by omega) ?_ | refine aA rfl (by omega) ?_ | refine nC ?_); conv => whnf)
    exact congrArg CI hr


/-- Steps of a size, each of which may say no. -/
def szC : List (Int → Int) → Int → Int
  | [], l => l
  | f :: fs, l => if f l < 0 then -1 else szC fs (f l)
def szWld (w : Wld) : Int → Int := szC [szOver w.over, szR szLease w.leases, szR (szR szHold) w.holds, szInts w.floors, szR szMsg w.net, szOp w.op]


def c_laws_szWorld : XC := (.s (.r [.ex 2 (.box (.t 0)), .ex 4 (.mv (.i 0))]) (.s (.r [.ex 5 (.fa 0 (.t 2)), .ex 6 (.ld true 3 (.t 5)), .mv 7 1, .ex 8 (.call 6 [(.t 6), (.t 7)]), .mv 1 8]) (.s (.s (.r [.mv 9 1, .ex 10 (.bin .lss (.t 9) (.i 0))]) (.cnd (.t 10) (.s (.r [.ex 4 (.mv (.k (.c (.sc (.int .i64 (.negSucc 0))))))]) .ret) .skip)) (.s (.r [.ex 11 (.fa 5 (.t 2)), .ex 12 (.ld false 1 (.t 11)), .mv 13 1, .ex 14 (.call 35 [(.t 12), (.t 13)]), .mv 1 14]) (.s (.s (.r [.mv 15 1, .ex 16 (.bin .lss (.t 15) (.i 0))]) (.cnd (.t 16) (.s (.r [.ex 4 (.mv (.k (.c (.sc (.int .i64 (.negSucc 0))))))]) .ret) .skip)) (.s (.r [.ex 17 (.fa 6 (.t 2)), .ex 18 (.ld false 1 (.t 17)), .mv 19 1, .ex 20 (.call 36 [(.t 18), (.t 19)]), .mv 1 20]) (.s (.s (.r [.mv 21 1, .ex 22 (.bin .lss (.t 21) (.i 0))]) (.cnd (.t 22) (.s (.r [.ex 4 (.mv (.k (.c (.sc (.int .i64 (.negSucc 0))))))]) .ret) .skip)) (.s (.r [.ex 23 (.fa 7 (.t 2)), .ex 24 (.ld false 1 (.t 23)), .mv 25 1, .ex 26 (.call 37 [(.t 24), (.t 25)]), .mv 1 26]) (.s (.s (.r [.mv 27 1, .ex 28 (.bin .lss (.t 27) (.i 0))]) (.cnd (.t 28) (.s (.r [.ex 4 (.mv (.k (.c (.sc (.int .i64 (.negSucc 0))))))]) .ret) .skip)) (.s (.r [.ex 29 (.fa 8 (.t 2)), .ex 30 (.ld false 1 (.t 29)), .mv 31 1, .ex 32 (.call 38 [(.t 30), (.t 31)]), .mv 1 32]) (.s (.s (.r [.mv 33 1, .ex 34 (.bin .lss (.t 33) (.i 0))]) (.cnd (.t 34) (.s (.r [.ex 4 (.mv (.k (.c (.sc (.int .i64 (.negSucc 0))))))]) .ret) .skip)) (.s (.r [.ex 35 (.fa 10 (.t 2)), .ex 36 (.ld true 4 (.t 35)), .mv 37 1, .ex 38 (.call 39 [(.t 36), (.t 37)]), .mv 1 38]) (.s (.s (.r [.mv 39 1, .ex 40 (.bin .lss (.t 39) (.i 0))]) (.cnd (.t 40) (.s (.r [.ex 4 (.mv (.k (.c (.sc (.int .i64 (.negSucc 0))))))]) .ret) .skip)) (.s (.r [.mv 41 1, .mv 4 41]) .ret))))))))))))))
theorem c_laws_szWorld_eq : compF Go.Proofs.Try.prog [] 11 = some (c_laws_szWorld.ac, [(.t 4)], 42) := by kernel_rfl

theorem f_szWorld (W0 : World) (w : Wld) (l : Int) (h : -1 ≤ l ∧ l ≤ 1048576) : Fn Go.Proofs.Try.prog W0 11 [eWld w, CI l] (.c (CI (szWld w l))) [] := by
  refine fnX (c := c_laws_szWorld) mixed c_laws_szWorld_eq (by simp) rfl fun hg => ?_
  have s1 := @szOver_le w.over l h.1
  conv => whnf
  repeat ((first | refine oB (by first | omega | rfl | exact zM fun _ => rfl) ?_ | refine lM ?_ | refine lA ?_ | refine aM rfl (by omega) ?_ | refine aA rfl (by omega) ?_ | refine nC ?_ | refine c0 (f_szOver W0 w.over l h) rfl ?_ | intro _); conv => whnf)
  refine cP (fun h1 => ?_) (fun h1 => ?_)
  · conv => whnf
    repeat ((first | refine oB (by first | omega | rfl | exact zM fun _ => rfl) ?_ | refine lM ?_ | refine lA ?_ | refine aM rfl (by omega) ?_ | refine aA rfl (by omega) ?_ | refine nC ?_); conv => whnf)
    simp only [szWld, szC, h1, if_true] <;> rfl
  have s2 := @szR_le _ _ (fun a l => @szLease_le a l) w.leases _ s1.1
  conv => whnf
  repeat ((first | refine oB (by first | omega | rfl | exact zM fun _ => rfl) ?_ | refine lM ?_ | refine lA ?_ | refine aM rfl (by omega) ?_ | refine aA rfl (by omega) ?_ | refine nC ?_ | refine c0 (f_szLeaseS W0 w.leases _ (by omega)) rfl ?_ | intro _); conv => whnf)
  refine cP (fun h2 => ?_) (fun h2 => ?_)
  · conv => whnf
    repeat ((first | refine oB (by first | omega | rfl | exact zM fun _ => rfl) ?_ | refine lM ?_ | refine lA ?_ | refine aM rfl (by omega) ?_ | refine aA rfl (by omega) ?_ | refine nC ?_); conv => whnf)
    simp only [szWld, szC, Int.not_lt.2 h1, if_false, h2, if_true] <;> rfl
  have s3 := @szR_le _ _ (fun a l => @szR_le _ _ (fun a l => @szHold_le a l) a l) w.holds _ s2.1
  conv => whnf
  repeat ((first | refine oB (by first | omega | rfl | exact zM fun _ => rfl) ?_ | refine lM ?_ | refine lA ?_ | refine aM rfl (by omega) ?_ | refine aA rfl (by omega) ?_ | refine nC ?_ | refine c0 (f_szHoldSS W0 w.holds _ (by omega)) rfl ?_ | intro _); conv => whnf)
  refine cP (fun h3 => ?_) (fun h3 => ?_)
  · conv => whnf
    repeat ((first | refine oB (by first | omega | rfl | exact zM fun _ => rfl) ?_ | refine lM ?_ | refine lA ?_ | refine aM rfl (by omega) ?_ | refine aA rfl (by omega) ?_ | refine nC ?_); conv => whnf)
    simp only [szWld, szC, Int.not_lt.2 h1, Int.not_lt.2 h2, if_false, h3, if_true] <;> rfl
  have s4 := @szInts_le w.floors _ s3.1
  conv => whnf
  repeat ((first | refine oB (by first | omega | rfl | exact zM fun _ => rfl) ?_ | refine lM ?_ | refine lA ?_ | refine aM rfl (by omega) ?_ | refine aA rfl (by omega) ?_ | refine nC ?_ | refine c0 (f_szInts W0 w.floors _ (by omega)) rfl ?_ | intro _); conv => whnf)
  refine cP (fun h4 => ?_) (fun h4 => ?_)
  · conv => whnf
    repeat ((first | refine oB (by first | omega | rfl | exact zM fun _ => rfl) ?_ | refine lM ?_ | refine lA ?_ | refine aM rfl (by omega) ?_ | refine aA rfl (by omega) ?_ | refine nC ?_); conv => whnf)
    simp only [szWld, szC, Int.not_lt.2 h1, Int.not_lt.2 h2, Int.not_lt.2 h3, if_false, h4, if_true] <;> rfl
  have s5 := @szR_le _ _ (fun a l => @szMsg_le a l) w.net _ s4.1
  conv => whnf
  repeat ((first | refine oB (by first | omega | rfl | exact zM fun _ => rfl) ?_ | refine lM ?_ | refine lA ?_ | refine aM rfl (by omega) ?_ | refine aA rfl (by omega) ?_ | refine nC ?_ | refine c0 (f_szMsgS W0 w.net _ (by omega)) rfl ?_ | intro _); conv => whnf)
  refine cP (fun h5 => ?_) (fun h5 => ?_)
  · conv => whnf
    repeat ((first | refine oB (by first | omega | rfl | exact zM fun _ => rfl) ?_ | refine lM ?_ | refine lA ?_ | refine aM rfl (by omega) ?_ | refine aA rfl (by omega) ?_ | refine nC ?_); conv => whnf)
    simp only [szWld, szC, Int.not_lt.2 h1, Int.not_lt.2 h2, Int.not_lt.2 h3, Int.not_lt.2 h4, if_false, h5, if_true] <;> rfl
  have s6 := @szOp_le w.op _ s5.1
  conv => whnf
  repeat ((first | refine oB (by first | omega | rfl | exact zM fun _ => rfl) ?_ | refine lM ?_ | refine lA ?_ | refine aM rfl (by omega) ?_ | refine aA rfl (by omega) ?_ | refine nC ?_ | refine c0 (f_szOp W0 w.op _ (by omega)) rfl ?_ | intro _); conv => whnf)
  refine cP (fun h6 => ?_) (fun h6 => ?_)
  · conv => whnf
    repeat ((first | refine oB (by first | omega | rfl | exact zM fun _ => rfl) ?_ | refine lM ?_ | refine lA ?_ | refine aM rfl (by omega) ?_ | refine aA rfl (by omega) ?_ | refine nC ?_); conv => whnf)
    simp only [szWld, szC, Int.not_lt.2 h1, Int.not_lt.2 h2, Int.not_lt.2 h3, Int.not_lt.2 h4, Int.not_lt.2 h5, if_false, h6, if_true] <;> rfl
  · conv => whnf
    repeat ((first | refine oB (by first | omega | rfl | exact zM fun _ => rfl) ?_ | refine lM ?_ | refine lA ?_ | refine aM rfl (by omega) ?_ | refine aA rfl (by omega) ?_ | refine nC ?_); conv => whnf)
    simp only [szWld, szC, Int.not_lt.2 h1, Int.not_lt.2 h2, Int.not_lt.2 h3, Int.not_lt.2 h4, Int.not_lt.2 h5, Int.not_lt.2 h6, if_false]


/-- What the room says of a world. -/
structure WlFit (w : Wld) : Prop where
  ov : OvFit w.over
  ls : w.leases.length ≤ 1048576
  hs : w.holds.length ≤ 1048576
  hh : ∀ l ∈ w.holds, l.length ≤ 1048576
  fl : w.floors.length ≤ 1048576
  nt : w.net.length ≤ 1048576

theorem szWld_le {w : Wld} {l : Int} (h : -1 ≤ l) : -1 ≤ szWld w l ∧ szWld w l ≤ l := by
  have key : ∀ (fs : List (Int → Int)), (∀ f ∈ fs, ∀ l, -1 ≤ l → -1 ≤ f l ∧ f l ≤ l) → ∀ l, -1 ≤ l → -1 ≤ szC fs l ∧ szC fs l ≤ l := by
    intro fs
    induction fs with
    | nil => intro _ l h; exact ⟨h, Int.le_refl _⟩
    | cons f fs ih =>
      intro hf l h
      have h1 := hf f (by simp) l h
      have h2 := ih (fun g hg => hf g (by simp [hg])) (f l) h1.1
      unfold szC
      split <;> omega
  refine key _ (fun f hf l hl => ?_) l h
  simp only [List.mem_cons, List.not_mem_nil, or_false] at hf
  rcases hf with rfl | rfl | rfl | rfl | rfl | rfl
  · exact @szOver_le w.over _ hl
  · exact szR_le (fun a l => @szLease_le a l) hl
  · exact szR_le (fun a l => @szR_le _ _ (fun a l => @szHold_le a l) a l) hl
  · exact szInts_le hl
  · exact szR_le (fun a l => @szMsg_le a l) hl
  · exact szOp_le hl

theorem szWld_fit {w : Wld} {l : Int} (h0 : 0 ≤ l) (hl : l ≤ 1048576) (h : 0 ≤ szWld w l) : WlFit w := by
  unfold szWld at h
  simp only [szC] at h
  have s1 := @szOver_le w.over l (by omega)
  have s2 := @szR_le _ _ (fun a l => @szLease_le a l) w.leases _ s1.1
  have s3 := @szR_le _ _ (fun a l => @szR_le _ _ (fun a l => @szHold_le a l) a l) w.holds _ s2.1
  have s4 := @szInts_le w.floors _ s3.1
  split at h
  · omega
  split at h
  · omega
  split at h
  · omega
  split at h
  · omega
  split at h
  · omega
  rename_i g1 g2 g3 g4 g5
  have k1 := szOver_fit (o := w.over) h0 hl (by omega)
  have k2 := szR_len (by omega) (by omega : 0 ≤ szR szLease w.leases (szOver w.over l))
  have k3 := szR_len (by omega) (by omega : 0 ≤ szR (szR szHold) w.holds (szR szLease w.leases (szOver w.over l)))
  have k4 : (w.floors.length : Int) ≤ 1048576 := by
    unfold szInts at g4
    split at g4 <;> omega
  have k5 := szR_len (by omega) (by omega : 0 ≤ szR szMsg w.net (szInts w.floors (szR (szR szHold) w.holds (szR szLease w.leases (szOver w.over l)))))
  refine ⟨k1, by omega, by omega, fun x hx => ?_, by omega, by omega⟩
  have := szL_len (f := szR szHold) (p := fun a l => (a.length : Int) ≤ l) (fun a l => @szR_le _ _ (fun a l => @szHold_le a l) a l) (fun a l h0 h => (szR_len h0 h).1) (fun a l l' h h' => Int.le_trans h h') (by omega) k3.2 x hx
  omega


def c_laws_eqOp : XC := (.s (.r [.ex 2 (.box (.t 0)), .ex 3 (.box (.t 1)), .ex 4 (.mv .n)]) (.s (.s (.r [.ex 5 (.fa 0 (.t 2)), .ex 6 (.ld false 1 (.t 5)), .ex 7 (.fa 0 (.t 3)), .ex 8 (.ld false 1 (.t 7)), .ex 9 (.bin .neq (.t 6) (.t 8))]) (.cnd (.t 9) (.s (.r [.ex 4 (.mv .n)]) .ret) .skip)) (.s (.s (.r [.ex 10 (.fa 1 (.t 2)), .ex 11 (.ld false 1 (.t 10)), .ex 12 (.fa 1 (.t 3)), .ex 13 (.ld false 1 (.t 12)), .ex 14 (.bin .neq (.t 11) (.t 13))]) (.cnd (.t 14) (.s (.r [.ex 4 (.mv .n)]) .ret) .skip)) (.s (.s (.r [.ex 15 (.fa 2 (.t 2)), .ex 16 (.ld false 1 (.t 15)), .ex 17 (.fa 2 (.t 3)), .ex 18 (.ld false 1 (.t 17)), .ex 19 (.bin .neq (.t 16) (.t 18))]) (.cnd (.t 19) (.s (.r [.ex 4 (.mv .n)]) .ret) .skip)) (.s (.s (.r [.ex 20 (.fa 3 (.t 2)), .ex 21 (.ld false 1 (.t 20)), .ex 22 (.fa 3 (.t 3)), .ex 23 (.ld false 1 (.t 22)), .ex 24 (.bin .neq (.t 21) (.t 23))]) (.cnd (.t 24) (.s (.r [.ex 4 (.mv .n)]) .ret) .skip)) (.s (.r [.ex 4 (.mv .y)]) .ret))))))
theorem c_laws_eqOp_eq : compF Go.Proofs.Try.prog [] 57 = some (c_laws_eqOp.ac, [(.t 4)], 25) := by kernel_rfl

theorem f_eqOp (W0 : World) (a b : Op) : Fn Go.Proofs.Try.prog W0 57 [eOp a, eOp b] (.c (CB (decide (a = b)))) [] := by
  refine fnX (c := c_laws_eqOp) mixed c_laws_eqOp_eq (by simp) rfl fun hg => ?_
  conv => whnf
  repeat ((first | refine oB (by first | omega | rfl | exact zM fun _ => rfl) ?_ | refine lM ?_ | refine lA ?_ | refine aM rfl (by omega) ?_ | refine aA rfl (by omega) ?_ | refine nC ?_ | intro _); conv => whnf)
  refine cP (fun h0 => ?_) (fun h0 => ?_)
  · conv => whnf
    repeat ((first | refine oB (by first | omega | rfl | exact zM fun _ => rfl) ?_ | refine lM ?_ | refine lA ?_ | refine aM rfl (by omega) ?_ | refine aA rfl (by omega) ?_ | refine nC ?_); conv => whnf)
    exact dF fun e => by simp [e] at h0
  conv => whnf
  repeat ((first | refine oB (by first | omega | rfl | exact zM fun _ => rfl) ?_ | refine lM ?_ | refine lA ?_ | refine aM rfl (by omega) ?_ | refine aA rfl (by omega) ?_ | refine nC ?_ | intro _); conv => whnf)
  refine cP (fun h1 => ?_) (fun h1 => ?_)
  · conv => whnf
    repeat ((first | refine oB (by first | omega | rfl | exact zM fun _ => rfl) ?_ | refine lM ?_ | refine lA ?_ | refine aM rfl (by omega) ?_ | refine aA rfl (by omega) ?_ | refine nC ?_); conv => whnf)
    exact dF fun e => by simp [e] at h1
  conv => whnf
  repeat ((first | refine oB (by first | omega | rfl | exact zM fun _ => rfl) ?_ | refine lM ?_ | refine lA ?_ | refine aM rfl (by omega) ?_ | refine aA rfl (by omega) ?_ | refine nC ?_ | intro _); conv => whnf)
  refine cP (fun h2 => ?_) (fun h2 => ?_)
  · conv => whnf
    repeat ((first | refine oB (by first | omega | rfl | exact zM fun _ => rfl) ?_ | refine lM ?_ | refine lA ?_ | refine aM rfl (by omega) ?_ | refine aA rfl (by omega) ?_ | refine nC ?_); conv => whnf)
    exact dF fun e => by simp [e] at h2
  conv => whnf
  repeat ((first | refine oB (by first | omega | rfl | exact zM fun _ => rfl) ?_ | refine lM ?_ | refine lA ?_ | refine aM rfl (by omega) ?_ | refine aA rfl (by omega) ?_ | refine nC ?_ | intro _); conv => whnf)
  refine cP (fun h3 => ?_) (fun h3 => ?_)
  · conv => whnf
    repeat ((first | refine oB (by first | omega | rfl | exact zM fun _ => rfl) ?_ | refine lM ?_ | refine lA ?_ | refine aM rfl (by omega) ?_ | refine aA rfl (by omega) ?_ | refine nC ?_); conv => whnf)
    exact dF fun e => by simp [e] at h3
  conv => whnf
  repeat ((first | refine oB (by first | omega | rfl | exact zM fun _ => rfl) ?_ | refine lM ?_ | refine lA ?_ | refine aM rfl (by omega) ?_ | refine aA rfl (by omega) ?_ | refine nC ?_); conv => whnf)
  exact dT (by cases a; cases b; simp_all)


def c_laws_eqLease : XC := (.s (.r [.ex 2 (.box (.t 0)), .ex 3 (.box (.t 1)), .ex 4 (.mv .n)]) (.s (.s (.r [.ex 5 (.fa 0 (.t 2)), .ex 6 (.ld false 1 (.t 5)), .ex 7 (.fa 0 (.t 3)), .ex 8 (.ld false 1 (.t 7)), .ex 9 (.bin .neq (.t 6) (.t 8))]) (.cnd (.t 9) (.s (.r [.ex 4 (.mv .n)]) .ret) .skip)) (.s (.s (.r [.ex 10 (.fa 1 (.t 2)), .ex 11 (.ld false 1 (.t 10)), .ex 12 (.fa 1 (.t 3)), .ex 13 (.ld false 1 (.t 12)), .ex 14 (.bin .neq (.t 11) (.t 13))]) (.cnd (.t 14) (.s (.r [.ex 4 (.mv .n)]) .ret) .skip)) (.s (.s (.r [.ex 15 (.fa 2 (.t 2)), .ex 16 (.ld false 1 (.t 15)), .ex 17 (.fa 2 (.t 3)), .ex 18 (.ld false 1 (.t 17)), .ex 19 (.bin .neq (.t 16) (.t 18))]) (.cnd (.t 19) (.s (.r [.ex 4 (.mv .n)]) .ret) .skip)) (.s (.s (.r [.ex 20 (.fa 3 (.t 2)), .ex 21 (.ld false 1 (.t 20)), .ex 22 (.fa 3 (.t 3)), .ex 23 (.ld false 1 (.t 22)), .ex 24 (.bin .neq (.t 21) (.t 23))]) (.cnd (.t 24) (.s (.r [.ex 4 (.mv .n)]) .ret) .skip)) (.s (.r [.ex 4 (.mv .y)]) .ret))))))
theorem c_laws_eqLease_eq : compF Go.Proofs.Try.prog [] 86 = some (c_laws_eqLease.ac, [(.t 4)], 25) := by kernel_rfl

theorem f_eqLease (W0 : World) (a b : Lease) : Fn Go.Proofs.Try.prog W0 86 [eLease a, eLease b] (.c (CB (decide (a = b)))) [] := by
  refine fnX (c := c_laws_eqLease) mixed c_laws_eqLease_eq (by simp) rfl fun hg => ?_
  conv => whnf
  repeat ((first | refine oB (by first | omega | rfl | exact zM fun _ => rfl) ?_ | refine lM ?_ | refine lA ?_ | refine aM rfl (by omega) ?_ | refine aA rfl (by omega) ?_ | refine nC ?_ | intro _); conv => whnf)
  refine cP (fun h0 => ?_) (fun h0 => ?_)
  · conv => whnf
    repeat ((first | refine oB (by first | omega | rfl | exact zM fun _ => rfl) ?_ | refine lM ?_ | refine lA ?_ | refine aM rfl (by omega) ?_ | refine aA rfl (by omega) ?_ | refine nC ?_); conv => whnf)
    exact dF fun e => by simp [e] at h0
  conv => whnf
  repeat ((first | refine oB (by first | omega | rfl | exact zM fun _ => rfl) ?_ | refine lM ?_ | refine lA ?_ | refine aM rfl (by omega) ?_ | refine aA rfl (by omega) ?_ | refine nC ?_ | intro _); conv => whnf)
  refine cP (fun h1 => ?_) (fun h1 => ?_)
  · conv => whnf
    repeat ((first | refine oB (by first | omega | rfl | exact zM fun _ => rfl) ?_ | refine lM ?_ | refine lA ?_ | refine aM rfl (by omega) ?_ | refine aA rfl (by omega) ?_ | refine nC ?_); conv => whnf)
    exact dF fun e => by simp [e] at h1
  conv => whnf
  repeat ((first | refine oB (by first | omega | rfl | exact zM fun _ => rfl) ?_ | refine lM ?_ | refine lA ?_ | refine aM rfl (by omega) ?_ | refine aA rfl (by omega) ?_ | refine nC ?_ | intro _); conv => whnf)
  refine cP (fun h2 => ?_) (fun h2 => ?_)
  · conv => whnf
    repeat ((first | refine oB (by first | omega | rfl | exact zM fun _ => rfl) ?_ | refine lM ?_ | refine lA ?_ | refine aM rfl (by omega) ?_ | refine aA rfl (by omega) ?_ | refine nC ?_); conv => whnf)
    exact dF fun e => by simp [e] at h2
  conv => whnf
  repeat ((first | refine oB (by first | omega | rfl | exact zM fun _ => rfl) ?_ | refine lM ?_ | refine lA ?_ | refine aM rfl (by omega) ?_ | refine aA rfl (by omega) ?_ | refine nC ?_ | intro _); conv => whnf)
  refine cP (fun h3 => ?_) (fun h3 => ?_)
  · conv => whnf
    repeat ((first | refine oB (by first | omega | rfl | exact zM fun _ => rfl) ?_ | refine lM ?_ | refine lA ?_ | refine aM rfl (by omega) ?_ | refine aA rfl (by omega) ?_ | refine nC ?_); conv => whnf)
    exact dF fun e => by simp [e] at h3
  conv => whnf
  repeat ((first | refine oB (by first | omega | rfl | exact zM fun _ => rfl) ?_ | refine lM ?_ | refine lA ?_ | refine aM rfl (by omega) ?_ | refine aA rfl (by omega) ?_ | refine nC ?_); conv => whnf)
  exact dT (by cases a; cases b; simp_all)


def c_laws_eqHold : XC := (.s (.r [.ex 2 (.box (.t 0)), .ex 3 (.box (.t 1)), .ex 4 (.mv .n)]) (.s (.s (.r [.ex 5 (.fa 0 (.t 2)), .ex 6 (.ld false 1 (.t 5)), .ex 7 (.fa 0 (.t 3)), .ex 8 (.ld false 1 (.t 7)), .ex 9 (.bin .neq (.t 6) (.t 8))]) (.cnd (.t 9) (.s (.r [.ex 4 (.mv .n)]) .ret) .skip)) (.s (.s (.r [.ex 10 (.fa 1 (.t 2)), .ex 11 (.ld false 1 (.t 10)), .ex 12 (.fa 1 (.t 3)), .ex 13 (.ld false 1 (.t 12)), .ex 14 (.bb true (.t 11) (.t 13))]) (.cnd (.t 14) (.s (.r [.ex 4 (.mv .n)]) .ret) .skip)) (.s (.s (.r [.ex 15 (.fa 2 (.t 2)), .ex 16 (.ld true 3 (.t 15)), .ex 17 (.fa 2 (.t 3)), .ex 18 (.ld true 3 (.t 17)), .ex 19 (.call 78 [(.t 16), (.t 18)]), .ex 20 (.un .not (.t 19))]) (.cnd (.t 20) (.s (.r [.ex 4 (.mv .n)]) .ret) .skip)) (.s (.s (.r [.ex 21 (.fa 5 (.t 2)), .ex 22 (.ld false 1 (.t 21)), .ex 23 (.fa 5 (.t 3)), .ex 24 (.ld false 1 (.t 23)), .ex 25 (.bin .neq (.t 22) (.t 24))]) (.cnd (.t 25) (.s (.r [.ex 4 (.mv .n)]) .ret) .skip)) (.s (.s (.r [.ex 26 (.fa 6 (.t 2)), .ex 27 (.ld false 1 (.t 26)), .ex 28 (.fa 6 (.t 3)), .ex 29 (.ld false 1 (.t 28)), .ex 30 (.bin .neq (.t 27) (.t 29))]) (.cnd (.t 30) (.s (.r [.ex 4 (.mv .n)]) .ret) .skip)) (.s (.r [.ex 4 (.mv .y)]) .ret)))))))
theorem c_laws_eqHold_eq : compF Go.Proofs.Try.prog [] 99 = some (c_laws_eqHold.ac, [(.t 4)], 31) := by kernel_rfl

theorem f_eqHold (W0 : World) (a b : Hold) : Fn Go.Proofs.Try.prog W0 99 [eHold a, eHold b] (.c (CB (decide (a = b)))) [] := by
  refine fnX (c := c_laws_eqHold) mixed c_laws_eqHold_eq (by simp) rfl fun hg => ?_
  conv => whnf
  repeat ((first | refine oB (by first | omega | rfl | exact zM fun _ => rfl) ?_ | refine lM ?_ | refine lA ?_ | refine aM rfl (by omega) ?_ | refine aA rfl (by omega) ?_ | refine nC ?_ | refine c0 (f_eqEnt W0 a.ent b.ent) rfl ?_ | intro _); conv => whnf)
  refine cP (fun h0 => ?_) (fun h0 => ?_)
  · conv => whnf
    repeat ((first | refine oB (by first | omega | rfl | exact zM fun _ => rfl) ?_ | refine lM ?_ | refine lA ?_ | refine aM rfl (by omega) ?_ | refine aA rfl (by omega) ?_ | refine nC ?_); conv => whnf)
    exact dF fun e => by simp [e] at h0
  conv => whnf
  repeat ((first | refine oB (by first | omega | rfl | exact zM fun _ => rfl) ?_ | refine lM ?_ | refine lA ?_ | refine aM rfl (by omega) ?_ | refine aA rfl (by omega) ?_ | refine nC ?_ | refine c0 (f_eqEnt W0 a.ent b.ent) rfl ?_ | intro _); conv => whnf)
  refine cP (fun h1 => ?_) (fun h1 => ?_)
  · conv => whnf
    repeat ((first | refine oB (by first | omega | rfl | exact zM fun _ => rfl) ?_ | refine lM ?_ | refine lA ?_ | refine aM rfl (by omega) ?_ | refine aA rfl (by omega) ?_ | refine nC ?_); conv => whnf)
    exact dF fun e => by simp [e] at h1
  conv => whnf
  repeat ((first | refine oB (by first | omega | rfl | exact zM fun _ => rfl) ?_ | refine lM ?_ | refine lA ?_ | refine aM rfl (by omega) ?_ | refine aA rfl (by omega) ?_ | refine nC ?_ | refine c0 (f_eqEnt W0 a.ent b.ent) rfl ?_ | intro _); conv => whnf)
  refine cP (fun h2 => ?_) (fun h2 => ?_)
  · conv => whnf
    repeat ((first | refine oB (by first | omega | rfl | exact zM fun _ => rfl) ?_ | refine lM ?_ | refine lA ?_ | refine aM rfl (by omega) ?_ | refine aA rfl (by omega) ?_ | refine nC ?_); conv => whnf)
    exact dF fun e => by simp [e] at h2
  conv => whnf
  repeat ((first | refine oB (by first | omega | rfl | exact zM fun _ => rfl) ?_ | refine lM ?_ | refine lA ?_ | refine aM rfl (by omega) ?_ | refine aA rfl (by omega) ?_ | refine nC ?_ | refine c0 (f_eqEnt W0 a.ent b.ent) rfl ?_ | intro _); conv => whnf)
  refine cP (fun h3 => ?_) (fun h3 => ?_)
  · conv => whnf
    repeat ((first | refine oB (by first | omega | rfl | exact zM fun _ => rfl) ?_ | refine lM ?_ | refine lA ?_ | refine aM rfl (by omega) ?_ | refine aA rfl (by omega) ?_ | refine nC ?_); conv => whnf)
    exact dF fun e => by simp [e] at h3
  conv => whnf
  repeat ((first | refine oB (by first | omega | rfl | exact zM fun _ => rfl) ?_ | refine lM ?_ | refine lA ?_ | refine aM rfl (by omega) ?_ | refine aA rfl (by omega) ?_ | refine nC ?_ | refine c0 (f_eqEnt W0 a.ent b.ent) rfl ?_ | intro _); conv => whnf)
  refine cP (fun h4 => ?_) (fun h4 => ?_)
  · conv => whnf
    repeat ((first | refine oB (by first | omega | rfl | exact zM fun _ => rfl) ?_ | refine lM ?_ | refine lA ?_ | refine aM rfl (by omega) ?_ | refine aA rfl (by omega) ?_ | refine nC ?_); conv => whnf)
    exact dF fun e => by simp [e] at h4
  conv => whnf
  repeat ((first | refine oB (by first | omega | rfl | exact zM fun _ => rfl) ?_ | refine lM ?_ | refine lA ?_ | refine aM rfl (by omega) ?_ | refine aA rfl (by omega) ?_ | refine nC ?_); conv => whnf)
  exact dT (by cases a; cases b; simp_all)


def c_laws_eqMsg : XC := (.s (.r [.ex 2 (.box (.t 0)), .ex 3 (.box (.t 1)), .ex 4 (.mv .n)]) (.s (.s (.r [.ex 5 (.fa 0 (.t 2)), .ex 6 (.ld false 1 (.t 5)), .ex 7 (.fa 0 (.t 3)), .ex 8 (.ld false 1 (.t 7)), .ex 9 (.bin .neq (.t 6) (.t 8))]) (.cnd (.t 9) (.s (.r [.ex 4 (.mv .n)]) .ret) .skip)) (.s (.s (.r [.ex 10 (.fa 1 (.t 2)), .ex 11 (.ld false 1 (.t 10)), .ex 12 (.fa 1 (.t 3)), .ex 13 (.ld false 1 (.t 12)), .ex 14 (.bin .neq (.t 11) (.t 13))]) (.cnd (.t 14) (.s (.r [.ex 4 (.mv .n)]) .ret) .skip)) (.s (.s (.r [.ex 15 (.fa 2 (.t 2)), .ex 16 (.ld true 7 (.t 15)), .ex 17 (.fa 2 (.t 3)), .ex 18 (.ld true 7 (.t 17)), .ex 19 (.call 99 [(.t 16), (.t 18)]), .ex 20 (.un .not (.t 19))]) (.cnd (.t 20) (.s (.r [.ex 4 (.mv .n)]) .ret) .skip)) (.s (.r [.ex 4 (.mv .y)]) .ret)))))
theorem c_laws_eqMsg_eq : compF Go.Proofs.Try.prog [] 88 = some (c_laws_eqMsg.ac, [(.t 4)], 21) := by kernel_rfl

theorem f_eqMsg (W0 : World) (a b : Msg) : Fn Go.Proofs.Try.prog W0 88 [eMsg a, eMsg b] (.c (CB (decide (a = b)))) [] := by
  refine fnX (c := c_laws_eqMsg) mixed c_laws_eqMsg_eq (by simp) rfl fun hg => ?_
  conv => whnf
  repeat ((first | refine oB (by first | omega | rfl | exact zM fun _ => rfl) ?_ | refine lM ?_ | refine lA ?_ | refine aM rfl (by omega) ?_ | refine aA rfl (by omega) ?_ | refine nC ?_ | refine c0 (f_eqHold W0 a.hold b.hold) rfl ?_ | intro _); conv => whnf)
  refine cP (fun h0 => ?_) (fun h0 => ?_)
  · conv => whnf
    repeat ((first | refine oB (by first | omega | rfl | exact zM fun _ => rfl) ?_ | refine lM ?_ | refine lA ?_ | refine aM rfl (by omega) ?_ | refine aA rfl (by omega) ?_ | refine nC ?_); conv => whnf)
    exact dF fun e => by simp [e] at h0
  conv => whnf
  repeat ((first | refine oB (by first | omega | rfl | exact zM fun _ => rfl) ?_ | refine lM ?_ | refine lA ?_ | refine aM rfl (by omega) ?_ | refine aA rfl (by omega) ?_ | refine nC ?_ | refine c0 (f_eqHold W0 a.hold b.hold) rfl ?_ | intro _); conv => whnf)
  refine cP (fun h1 => ?_) (fun h1 => ?_)
  · conv => whnf
    repeat ((first | refine oB (by first | omega | rfl | exact zM fun _ => rfl) ?_ | refine lM ?_ | refine lA ?_ | refine aM rfl (by omega) ?_ | refine aA rfl (by omega) ?_ | refine nC ?_); conv => whnf)
    exact dF fun e => by simp [e] at h1
  conv => whnf
  repeat ((first | refine oB (by first | omega | rfl | exact zM fun _ => rfl) ?_ | refine lM ?_ | refine lA ?_ | refine aM rfl (by omega) ?_ | refine aA rfl (by omega) ?_ | refine nC ?_ | refine c0 (f_eqHold W0 a.hold b.hold) rfl ?_ | intro _); conv => whnf)
  refine cP (fun h2 => ?_) (fun h2 => ?_)
  · conv => whnf
    repeat ((first | refine oB (by first | omega | rfl | exact zM fun _ => rfl) ?_ | refine lM ?_ | refine lA ?_ | refine aM rfl (by omega) ?_ | refine aA rfl (by omega) ?_ | refine nC ?_); conv => whnf)
    exact dF fun e => by simp [e] at h2
  conv => whnf
  repeat ((first | refine oB (by first | omega | rfl | exact zM fun _ => rfl) ?_ | refine lM ?_ | refine lA ?_ | refine aM rfl (by omega) ?_ | refine aA rfl (by omega) ?_ | refine nC ?_); conv => whnf)
  exact dT (by cases a; cases b; simp_all)


def c_laws_eqLeaseS : XC := (.s (.r [.ex 4 (.mv .n)]) (.s (.s (.r [.mv 6 0, .ex 7 (.len false (.t 6)), .mv 8 1, .ex 9 (.len false (.t 8)), .ex 10 (.bin .neq (.t 7) (.t 9))]) (.cnd (.t 10) (.s (.r [.ex 4 (.mv .n)]) .ret) .skip)) (.s (.s (.r [.ex 5 (.mv (.i 0))]) (.blk 0 (.loop (.s (.s (.r [.mv 11 5, .mv 12 0, .ex 13 (.len false (.t 12)), .ex 14 (.bin .lss (.t 11) (.t 13))]) (.cnd (.t 14) .skip (.exit 0))) (.s (.blk 1 (.s (.d [.mv 17 0, .mv 18 5, .ex 19 (.ia 4 (.t 17) (.t 18)), .ex 20 (.ld true 4 (.t 19)), .mv 21 1, .mv 22 5, .ex 23 (.ia 4 (.t 21) (.t 22)), .ex 24 (.ld true 4 (.t 23)), .ex 25 (.call 86 [(.t 20), (.t 24)]), .ex 26 (.un .not (.t 25))]) (.cnd (.t 26) (.s (.r [.ex 4 (.mv .n)]) .ret) .skip))) (.r [.mv 15 5, .ex 16 (.bin .add (.t 15) (.i 1)), .mv 5 16])))))) (.s (.r [.ex 4 (.mv .y)]) .ret))))
theorem c_laws_eqLeaseS_eq : compF Go.Proofs.Try.prog [] 53 = some (c_laws_eqLeaseS.ac, [(.t 4)], 27) := by kernel_rfl

theorem f_laws_eqLeaseS (W0 : World) (a b : List Lease) : Fn Go.Proofs.Try.prog W0 53 [eLeases a, eLeases b] (.c (CB (decide (a = b)))) [] := by
  refine fnX (c := c_laws_eqLeaseS) mixed c_laws_eqLeaseS_eq (by simp) rfl fun hg => ?_
  have g1 := goodRow (hg _ (by simp : eLeases a ∈ _))
  conv => whnf
  repeat ((first | refine oB (by first | omega | rfl | exact zM fun _ => rfl) ?_ | refine lM ?_ | refine lA ?_ | refine aM rfl (by omega) ?_ | refine aA rfl (by omega) ?_ | refine nC ?_); conv => whnf)
  refine cP (fun h1 => ?_) (fun h1 => ?_)
  · conv => whnf
    exact dF (ne_len (by omega))
  conv => whnf
  refine lp (σ := Nat) (fun k => [(0, .c (eLeases a)), (1, .c (eLeases b)), (5, I k)]) (fun _ => []) (fun k => k ≤ a.length ∧ a.take k = b.take k) (fun k => a.length - k) 0 ⟨by simp, by simp⟩ ?_ ?_
  · conv => whnf
    repeat ((first | refine oB (by first | omega | rfl | exact zM fun _ => rfl) ?_ | refine lM ?_ | refine lA ?_ | refine aM rfl (by omega) ?_ | refine aA rfl (by omega) ?_ | refine nC ?_); conv => whnf)
    trivial
  rintro k ⟨hk, he⟩
  conv => whnf
  repeat ((first | refine oB (by first | omega | rfl | exact zM fun _ => rfl) ?_ | refine lM ?_ | refine lA ?_ | refine aM rfl (by omega) ?_ | refine aA rfl (by omega) ?_ | refine nC ?_); conv => whnf)
  refine cP (fun h2 => ?_) (fun h2 => ?_)
  · conv => whnf
    repeat ((first | refine oB (by first | omega | rfl | exact zM fun _ => rfl) ?_ | refine lM ?_ | refine lA ?_ | refine aM rfl (by omega) ?_ | refine aA rfl (by omega) ?_ | refine nC ?_ | refine c0 (f_eqLease W0 _ _) rfl ?_); conv => whnf)
    refine cP (fun h3 => ?_) (fun h3 => ?_)
    rotate_left
    · conv => whnf
      repeat ((first | refine oB (by first | omega | rfl | exact zM fun _ => rfl) ?_ | refine lM ?_ | refine lA ?_ | refine aM rfl (by omega) ?_ | refine aA rfl (by omega) ?_ | refine nC ?_); conv => whnf)
      refine ⟨k + 1, ⟨by omega, take_next (by omega) (by omega) he (by simpa using h3)⟩, by omega, ?_⟩
      conv => whnf
      repeat ((first | refine oB (by first | omega | rfl | exact zM fun _ => rfl) ?_ | refine lM ?_ | refine lA ?_ | refine aM rfl (by omega) ?_ | refine aA rfl (by omega) ?_ | refine nC ?_); conv => whnf)
      trivial
    · conv => whnf
      exact dF (ne_at (k := k) (by omega) (by omega) (by simpa using h3))
  · conv => whnf
    repeat ((first | refine oB (by first | omega | rfl | exact zM fun _ => rfl) ?_ | refine lM ?_ | refine lA ?_ | refine aM rfl (by omega) ?_ | refine aA rfl (by omega) ?_ | refine nC ?_); conv => whnf)
    have : k = a.length := by omega
    subst this
    exact dT (eq_of_takes (by omega) he)


def c_laws_eqHoldS : XC := (.s (.r [.ex 4 (.mv .n)]) (.s (.s (.r [.mv 6 0, .ex 7 (.len false (.t 6)), .mv 8 1, .ex 9 (.len false (.t 8)), .ex 10 (.bin .neq (.t 7) (.t 9))]) (.cnd (.t 10) (.s (.r [.ex 4 (.mv .n)]) .ret) .skip)) (.s (.s (.r [.ex 5 (.mv (.i 0))]) (.blk 0 (.loop (.s (.s (.r [.mv 11 5, .mv 12 0, .ex 13 (.len false (.t 12)), .ex 14 (.bin .lss (.t 11) (.t 13))]) (.cnd (.t 14) .skip (.exit 0))) (.s (.blk 1 (.s (.d [.mv 17 0, .mv 18 5, .ex 19 (.ia 7 (.t 17) (.t 18)), .ex 20 (.ld true 7 (.t 19)), .mv 21 1, .mv 22 5, .ex 23 (.ia 7 (.t 21) (.t 22)), .ex 24 (.ld true 7 (.t 23)), .ex 25 (.call 99 [(.t 20), (.t 24)]), .ex 26 (.un .not (.t 25))]) (.cnd (.t 26) (.s (.r [.ex 4 (.mv .n)]) .ret) .skip))) (.r [.mv 15 5, .ex 16 (.bin .add (.t 15) (.i 1)), .mv 5 16])))))) (.s (.r [.ex 4 (.mv .y)]) .ret))))
theorem c_laws_eqHoldS_eq : compF Go.Proofs.Try.prog [] 87 = some (c_laws_eqHoldS.ac, [(.t 4)], 27) := by kernel_rfl

theorem f_laws_eqHoldS (W0 : World) (a b : List Hold) : Fn Go.Proofs.Try.prog W0 87 [eHolds a, eHolds b] (.c (CB (decide (a = b)))) [] := by
  refine fnX (c := c_laws_eqHoldS) mixed c_laws_eqHoldS_eq (by simp) rfl fun hg => ?_
  have g1 := goodRow (hg _ (by simp : eHolds a ∈ _))
  conv => whnf
  repeat ((first | refine oB (by first | omega | rfl | exact zM fun _ => rfl) ?_ | refine lM ?_ | refine lA ?_ | refine aM rfl (by omega) ?_ | refine aA rfl (by omega) ?_ | refine nC ?_); conv => whnf)
  refine cP (fun h1 => ?_) (fun h1 => ?_)
  · conv => whnf
    exact dF (ne_len (by omega))
  conv => whnf
  refine lp (σ := Nat) (fun k => [(0, .c (eHolds a)), (1, .c (eHolds b)), (5, I k)]) (fun _ => []) (fun k => k ≤ a.length ∧ a.take k = b.take k) (fun k => a.length - k) 0 ⟨by simp, by simp⟩ ?_ ?_
  · conv => whnf
    repeat ((first | refine oB (by first | omega | rfl | exact zM fun _ => rfl) ?_ | refine lM ?_ | refine lA ?_ | refine aM rfl (by omega) ?_ | refine aA rfl (by omega) ?_ | refine nC ?_); conv => whnf)
    trivial
  rintro k ⟨hk, he⟩
  conv => whnf
  repeat ((first | refine oB (by first | omega | rfl | exact zM fun _ => rfl) ?_ | refine lM ?_ | refine lA ?_ | refine aM rfl (by omega) ?_ | refine aA rfl (by omega) ?_ | refine nC ?_); conv => whnf)
  refine cP (fun h2 => ?_) (fun h2 => ?_)
  · conv => whnf
    repeat ((first | refine oB (by first | omega | rfl | exact zM fun _ => rfl) ?_ | refine lM ?_ | refine lA ?_ | refine aM rfl (by omega) ?_ | refine aA rfl (by omega) ?_ | refine nC ?_ | refine c0 (f_eqHold W0 _ _) rfl ?_); conv => whnf)
    refine cP (fun h3 => ?_) (fun h3 => ?_)
    rotate_left
    · conv => whnf
      repeat ((first | refine oB (by first | omega | rfl | exact zM fun _ => rfl) ?_ | refine lM ?_ | refine lA ?_ | refine aM rfl (by omega) ?_ | refine aA rfl (by omega) ?_ | refine nC ?_); conv => whnf)
      refine ⟨k + 1, ⟨by omega, take_next (by omega) (by omega) he (by simpa using h3)⟩, by omega, ?_⟩
      conv => whnf
      repeat ((first | refine oB (by first | omega | rfl | exact zM fun _ => rfl) ?_ | refine lM ?_ | refine lA ?_ | refine aM rfl (by omega) ?_ | refine aA rfl (by omega) ?_ | refine nC ?_); conv => whnf)
      trivial
    · conv => whnf
      exact dF (ne_at (k := k) (by omega) (by omega) (by simpa using h3))
  · conv => whnf
    repeat ((first | refine oB (by first | omega | rfl | exact zM fun _ => rfl) ?_ | refine lM ?_ | refine lA ?_ | refine aM rfl (by omega) ?_ | refine aA rfl (by omega) ?_ | refine nC ?_); conv => whnf)
    have : k = a.length := by omega
    subst this
    exact dT (eq_of_takes (by omega) he)


def c_laws_eqMsgS : XC := (.s (.r [.ex 4 (.mv .n)]) (.s (.s (.r [.mv 6 0, .ex 7 (.len false (.t 6)), .mv 8 1, .ex 9 (.len false (.t 8)), .ex 10 (.bin .neq (.t 7) (.t 9))]) (.cnd (.t 10) (.s (.r [.ex 4 (.mv .n)]) .ret) .skip)) (.s (.s (.r [.ex 5 (.mv (.i 0))]) (.blk 0 (.loop (.s (.s (.r [.mv 11 5, .mv 12 0, .ex 13 (.len false (.t 12)), .ex 14 (.bin .lss (.t 11) (.t 13))]) (.cnd (.t 14) .skip (.exit 0))) (.s (.blk 1 (.s (.d [.mv 17 0, .mv 18 5, .ex 19 (.ia 9 (.t 17) (.t 18)), .ex 20 (.ld true 9 (.t 19)), .mv 21 1, .mv 22 5, .ex 23 (.ia 9 (.t 21) (.t 22)), .ex 24 (.ld true 9 (.t 23)), .ex 25 (.call 88 [(.t 20), (.t 24)]), .ex 26 (.un .not (.t 25))]) (.cnd (.t 26) (.s (.r [.ex 4 (.mv .n)]) .ret) .skip))) (.r [.mv 15 5, .ex 16 (.bin .add (.t 15) (.i 1)), .mv 5 16])))))) (.s (.r [.ex 4 (.mv .y)]) .ret))))
theorem c_laws_eqMsgS_eq : compF Go.Proofs.Try.prog [] 56 = some (c_laws_eqMsgS.ac, [(.t 4)], 27) := by kernel_rfl

theorem f_laws_eqMsgS (W0 : World) (a b : List Msg) : Fn Go.Proofs.Try.prog W0 56 [eMsgs a, eMsgs b] (.c (CB (decide (a = b)))) [] := by
  refine fnX (c := c_laws_eqMsgS) mixed c_laws_eqMsgS_eq (by simp) rfl fun hg => ?_
  have g1 := goodRow (hg _ (by simp : eMsgs a ∈ _))
  conv => whnf
  repeat ((first | refine oB (by first | omega | rfl | exact zM fun _ => rfl) ?_ | refine lM ?_ | refine lA ?_ | refine aM rfl (by omega) ?_ | refine aA rfl (by omega) ?_ | refine nC ?_); conv => whnf)
  refine cP (fun h1 => ?_) (fun h1 => ?_)
  · conv => whnf
    exact dF (ne_len (by omega))
  conv => whnf
  refine lp (σ := Nat) (fun k => [(0, .c (eMsgs a)), (1, .c (eMsgs b)), (5, I k)]) (fun _ => []) (fun k => k ≤ a.length ∧ a.take k = b.take k) (fun k => a.length - k) 0 ⟨by simp, by simp⟩ ?_ ?_
  · conv => whnf
    repeat ((first | refine oB (by first | omega | rfl | exact zM fun _ => rfl) ?_ | refine lM ?_ | refine lA ?_ | refine aM rfl (by omega) ?_ | refine aA rfl (by omega) ?_ | refine nC ?_); conv => whnf)
    trivial
  rintro k ⟨hk, he⟩
  conv => whnf
  repeat ((first | refine oB (by first | omega | rfl | exact zM fun _ => rfl) ?_ | refine lM ?_ | refine lA ?_ | refine aM rfl (by omega) ?_ | refine aA rfl (by omega) ?_ | refine nC ?_); conv => whnf)
  refine cP (fun h2 => ?_) (fun h2 => ?_)
  · conv => whnf
    repeat ((first | refine oB (by first | omega | rfl | exact zM fun _ => rfl) ?_ | refine lM ?_ | refine lA ?_ | refine aM rfl (by omega) ?_ | refine aA rfl (by omega) ?_ | refine nC ?_ | refine c0 (f_eqMsg W0 _ _) rfl ?_); conv => whnf)
    refine cP (fun h3 => ?_) (fun h3 => ?_)
    rotate_left
    · conv => whnf
      repeat ((first | refine oB (by first | omega | rfl | exact zM fun _ => rfl) ?_ | refine lM ?_ | refine lA ?_ | refine aM rfl (by omega) ?_ | refine aA rfl (by omega) ?_ | refine nC ?_); conv => whnf)
      refine ⟨k + 1, ⟨by omega, take_next (by omega) (by omega) he (by simpa using h3)⟩, by omega, ?_⟩
      conv => whnf
      repeat ((first | refine oB (by first | omega | rfl | exact zM fun _ => rfl) ?_ | refine lM ?_ | refine lA ?_ | refine aM rfl (by omega) ?_ | refine aA rfl (by omega) ?_ | refine nC ?_); conv => whnf)
      trivial
    · conv => whnf
      exact dF (ne_at (k := k) (by omega) (by omega) (by simpa using h3))
  · conv => whnf
    repeat ((first | refine oB (by first | omega | rfl | exact zM fun _ => rfl) ?_ | refine lM ?_ | refine lA ?_ | refine aM rfl (by omega) ?_ | refine aA rfl (by omega) ?_ | refine nC ?_); conv => whnf)
    have : k = a.length := by omega
    subst this
    exact dT (eq_of_takes (by omega) he)


def c_laws_eqHoldSS : XC := (.s (.r [.ex 4 (.mv .n)]) (.s (.s (.r [.mv 6 0, .ex 7 (.len false (.t 6)), .mv 8 1, .ex 9 (.len false (.t 8)), .ex 10 (.bin .neq (.t 7) (.t 9))]) (.cnd (.t 10) (.s (.r [.ex 4 (.mv .n)]) .ret) .skip)) (.s (.s (.r [.ex 5 (.mv (.i 0))]) (.blk 0 (.loop (.s (.s (.r [.mv 11 5, .mv 12 0, .ex 13 (.len false (.t 12)), .ex 14 (.bin .lss (.t 11) (.t 13))]) (.cnd (.t 14) .skip (.exit 0))) (.s (.blk 1 (.s (.d [.mv 17 0, .mv 18 5, .ex 19 (.ia 1 (.t 17) (.t 18)), .ex 20 (.ld false 1 (.t 19)), .mv 21 1, .mv 22 5, .ex 23 (.ia 1 (.t 21) (.t 22)), .ex 24 (.ld false 1 (.t 23)), .ex 25 (.call 87 [(.t 20), (.t 24)]), .ex 26 (.un .not (.t 25))]) (.cnd (.t 26) (.s (.r [.ex 4 (.mv .n)]) .ret) .skip))) (.r [.mv 15 5, .ex 16 (.bin .add (.t 15) (.i 1)), .mv 5 16])))))) (.s (.r [.ex 4 (.mv .y)]) .ret))))
theorem c_laws_eqHoldSS_eq : compF Go.Proofs.Try.prog [] 54 = some (c_laws_eqHoldSS.ac, [(.t 4)], 27) := by kernel_rfl

theorem f_laws_eqHoldSS (W0 : World) (a b : List (List Hold)) : Fn Go.Proofs.Try.prog W0 54 [eHoldss a, eHoldss b] (.c (CB (decide (a = b)))) [] := by
  refine fnX (c := c_laws_eqHoldSS) mixed c_laws_eqHoldSS_eq (by simp) rfl fun hg => ?_
  have g1 := goodRow (hg _ (by simp : eHoldss a ∈ _))
  conv => whnf
  repeat ((first | refine oB (by first | omega | rfl | exact zM fun _ => rfl) ?_ | refine lM ?_ | refine lA ?_ | refine aM rfl (by omega) ?_ | refine aA rfl (by omega) ?_ | refine nC ?_); conv => whnf)
  refine cP (fun h1 => ?_) (fun h1 => ?_)
  · conv => whnf
    exact dF (ne_len (by omega))
  conv => whnf
  refine lp (σ := Nat) (fun k => [(0, .c (eHoldss a)), (1, .c (eHoldss b)), (5, I k)]) (fun _ => []) (fun k => k ≤ a.length ∧ a.take k = b.take k) (fun k => a.length - k) 0 ⟨by simp, by simp⟩ ?_ ?_
  · conv => whnf
    repeat ((first | refine oB (by first | omega | rfl | exact zM fun _ => rfl) ?_ | refine lM ?_ | refine lA ?_ | refine aM rfl (by omega) ?_ | refine aA rfl (by omega) ?_ | refine nC ?_); conv => whnf)
    trivial
  rintro k ⟨hk, he⟩
  conv => whnf
  repeat ((first | refine oB (by first | omega | rfl | exact zM fun _ => rfl) ?_ | refine lM ?_ | refine lA ?_ | refine aM rfl (by omega) ?_ | refine aA rfl (by omega) ?_ | refine nC ?_); conv => whnf)
  refine cP (fun h2 => ?_) (fun h2 => ?_)
  · conv => whnf
    repeat ((first | refine oB (by first | omega | rfl | exact zM fun _ => rfl) ?_ | refine lM ?_ | refine lA ?_ | refine aM rfl (by omega) ?_ | refine aA rfl (by omega) ?_ | refine nC ?_ | refine c0 (f_laws_eqHoldS W0 _ _) rfl ?_); conv => whnf)
    refine cP (fun h3 => ?_) (fun h3 => ?_)
    rotate_left
    · conv => whnf
      repeat ((first | refine oB (by first | omega | rfl | exact zM fun _ => rfl) ?_ | refine lM ?_ | refine lA ?_ | refine aM rfl (by omega) ?_ | refine aA rfl (by omega) ?_ | refine nC ?_); conv => whnf)
      refine ⟨k + 1, ⟨by omega, take_next (by omega) (by omega) he (by simpa using h3)⟩, by omega, ?_⟩
      conv => whnf
      repeat ((first | refine oB (by first | omega | rfl | exact zM fun _ => rfl) ?_ | refine lM ?_ | refine lA ?_ | refine aM rfl (by omega) ?_ | refine aA rfl (by omega) ?_ | refine nC ?_); conv => whnf)
      trivial
    · conv => whnf
      exact dF (ne_at (k := k) (by omega) (by omega) (by simpa using h3))
  · conv => whnf
    repeat ((first | refine oB (by first | omega | rfl | exact zM fun _ => rfl) ?_ | refine lM ?_ | refine lA ?_ | refine aM rfl (by omega) ?_ | refine aA rfl (by omega) ?_ | refine nC ?_); conv => whnf)
    have : k = a.length := by omega
    subst this
    exact dT (eq_of_takes (by omega) he)


def c_laws_eqIntS : XC := (.s (.r [.ex 4 (.mv .n)]) (.s (.s (.r [.mv 6 0, .ex 7 (.len false (.t 6)), .mv 8 1, .ex 9 (.len false (.t 8)), .ex 10 (.bin .neq (.t 7) (.t 9))]) (.cnd (.t 10) (.s (.r [.ex 4 (.mv .n)]) .ret) .skip)) (.s (.s (.r [.ex 5 (.mv (.i 0))]) (.blk 0 (.loop (.s (.s (.r [.mv 11 5, .mv 12 0, .ex 13 (.len false (.t 12)), .ex 14 (.bin .lss (.t 11) (.t 13))]) (.cnd (.t 14) .skip (.exit 0))) (.s (.blk 1 (.s (.d [.mv 17 0, .mv 18 5, .ex 19 (.ia 1 (.t 17) (.t 18)), .ex 20 (.ld false 1 (.t 19)), .mv 21 1, .mv 22 5, .ex 23 (.ia 1 (.t 21) (.t 22)), .ex 24 (.ld false 1 (.t 23)), .ex 25 (.bin .neq (.t 20) (.t 24))]) (.cnd (.t 25) (.s (.r [.ex 4 (.mv .n)]) .ret) .skip))) (.r [.mv 15 5, .ex 16 (.bin .add (.t 15) (.i 1)), .mv 5 16])))))) (.s (.r [.ex 4 (.mv .y)]) .ret))))
theorem c_laws_eqIntS_eq : compF Go.Proofs.Try.prog [] 55 = some (c_laws_eqIntS.ac, [(.t 4)], 26) := by kernel_rfl

theorem f_laws_eqIntS (W0 : World) (a b : List Int) : Fn Go.Proofs.Try.prog W0 55 [eInts a, eInts b] (.c (CB (decide (a = b)))) [] := by
  refine fnX (c := c_laws_eqIntS) mixed c_laws_eqIntS_eq (by simp) rfl fun hg => ?_
  have g1 := goodRow (hg _ (by simp : eInts a ∈ _))
  conv => whnf
  repeat ((first | refine oB (by first | omega | rfl | exact zM fun _ => rfl) ?_ | refine lM ?_ | refine lA ?_ | refine aM rfl (by omega) ?_ | refine aA rfl (by omega) ?_ | refine nC ?_); conv => whnf)
  refine cP (fun h1 => ?_) (fun h1 => ?_)
  · conv => whnf
    exact dF (ne_len (by omega))
  conv => whnf
  refine lp (σ := Nat) (fun k => [(0, .c (eInts a)), (1, .c (eInts b)), (5, I k)]) (fun _ => []) (fun k => k ≤ a.length ∧ a.take k = b.take k) (fun k => a.length - k) 0 ⟨by simp, by simp⟩ ?_ ?_
  · conv => whnf
    repeat ((first | refine oB (by first | omega | rfl | exact zM fun _ => rfl) ?_ | refine lM ?_ | refine lA ?_ | refine aM rfl (by omega) ?_ | refine aA rfl (by omega) ?_ | refine nC ?_); conv => whnf)
    trivial
  rintro k ⟨hk, he⟩
  conv => whnf
  repeat ((first | refine oB (by first | omega | rfl | exact zM fun _ => rfl) ?_ | refine lM ?_ | refine lA ?_ | refine aM rfl (by omega) ?_ | refine aA rfl (by omega) ?_ | refine nC ?_); conv => whnf)
  refine cP (fun h2 => ?_) (fun h2 => ?_)
  · conv => whnf
    repeat ((first | refine oB (by first | omega | rfl | exact zM fun _ => rfl) ?_ | refine lM ?_ | refine lA ?_ | refine aM rfl (by omega) ?_ | refine aA rfl (by omega) ?_ | refine nC ?_); conv => whnf)
    refine cP (fun h3 => ?_) (fun h3 => ?_)
    rotate_left
    · conv => whnf
      repeat ((first | refine oB (by first | omega | rfl | exact zM fun _ => rfl) ?_ | refine lM ?_ | refine lA ?_ | refine aM rfl (by omega) ?_ | refine aA rfl (by omega) ?_ | refine nC ?_); conv => whnf)
      refine ⟨k + 1, ⟨by omega, take_next (by omega) (by omega) he h3⟩, by omega, ?_⟩
      conv => whnf
      repeat ((first | refine oB (by first | omega | rfl | exact zM fun _ => rfl) ?_ | refine lM ?_ | refine lA ?_ | refine aM rfl (by omega) ?_ | refine aA rfl (by omega) ?_ | refine nC ?_); conv => whnf)
      trivial
    · conv => whnf
      exact dF (ne_at (k := k) (by omega) (by omega) h3)
  · conv => whnf
    repeat ((first | refine oB (by first | omega | rfl | exact zM fun _ => rfl) ?_ | refine lM ?_ | refine lA ?_ | refine aM rfl (by omega) ?_ | refine aA rfl (by omega) ?_ | refine nC ?_); conv => whnf)
    have : k = a.length := by omega
    subst this
    exact dT (eq_of_takes (by omega) he)


def c_EqInt : XC := (.s (.r [.ex 4 (.mv .n)]) (.s (.s (.r [.mv 6 0, .ex 7 (.len false (.t 6)), .mv 8 1, .ex 9 (.len false (.t 8)), .ex 10 (.bin .neq (.t 7) (.t 9))]) (.cnd (.t 10) (.s (.r [.ex 4 (.mv .n)]) .ret) .skip)) (.s (.s (.r [.mv 11 0, .ex 12 (.len false (.t 11)), .ex 13 (.mv (.i 0))]) (.blk 0 (.loop (.s (.r [.ex 14 (.bin .lss (.t 13) (.t 12))]) (.s (.cnd (.t 14) .skip (.exit 0)) (.s (.blk 1 (.s (.r [.mv 15 13, .mv 5 15]) (.s (.d [.mv 16 0, .mv 17 5, .ex 18 (.ia 1 (.t 16) (.t 17)), .ex 19 (.ld false 1 (.t 18)), .mv 20 1, .mv 21 5, .ex 22 (.ia 1 (.t 20) (.t 21)), .ex 23 (.ld false 1 (.t 22)), .ex 24 (.bin .neq (.t 19) (.t 23))]) (.cnd (.t 24) (.s (.r [.ex 4 (.mv .n)]) .ret) .skip)))) (.r [.ex 25 (.bin .add (.t 13) (.i 1)), .mv 13 25]))))))) (.s (.r [.ex 4 (.mv .y)]) .ret))))
theorem c_EqInt_eq : compF Go.Proofs.Try.prog [] 51 = some (c_EqInt.ac, [(.t 4)], 26) := by kernel_rfl

theorem f_EqInt (W0 : World) (a b : List Int) : Fn Go.Proofs.Try.prog W0 51 [eInts a, eInts b] (.c (CB (decide (a = b)))) [] := by
  refine fnX (c := c_EqInt) mixed c_EqInt_eq (by simp) rfl fun hg => ?_
  have g1 := goodRow (hg _ (by simp : eInts a ∈ _))
  conv => whnf
  repeat ((first | refine oB (by first | omega | rfl | exact zM fun _ => rfl) ?_ | refine lM ?_ | refine lA ?_ | refine aM rfl (by omega) ?_ | refine aA rfl (by omega) ?_ | refine nC ?_); conv => whnf)
  refine cP (fun h1 => ?_) (fun h1 => ?_)
  · conv => whnf
    exact dF (ne_len (by omega))
  conv => whnf
  repeat ((first | refine oB (by first | omega | rfl | exact zM fun _ => rfl) ?_ | refine lM ?_ | refine lA ?_ | refine aM rfl (by omega) ?_ | refine aA rfl (by omega) ?_ | refine nC ?_); conv => whnf)
  refine lp (σ := Nat) (fun k => [(0, .c (eInts a)), (1, .c (eInts b)), (12, I a.length), (13, I k)]) (fun _ => []) (fun k => k ≤ a.length ∧ a.take k = b.take k) (fun k => a.length - k) 0 ⟨by simp, by simp⟩ ?_ ?_
  · conv => whnf
    repeat ((first | refine oB (by first | omega | rfl | exact zM fun _ => rfl) ?_ | refine lM ?_ | refine lA ?_ | refine aM rfl (by omega) ?_ | refine aA rfl (by omega) ?_ | refine nC ?_); conv => whnf)
    trivial
  rintro k ⟨hk, he⟩
  conv => whnf
  repeat ((first | refine oB (by first | omega | rfl | exact zM fun _ => rfl) ?_ | refine lM ?_ | refine lA ?_ | refine aM rfl (by omega) ?_ | refine aA rfl (by omega) ?_ | refine nC ?_); conv => whnf)
  refine cP (fun h2 => ?_) (fun h2 => ?_)
  · conv => whnf
    repeat ((first | refine oB (by first | omega | rfl | exact zM fun _ => rfl) ?_ | refine lM ?_ | refine lA ?_ | refine aM rfl (by omega) ?_ | refine aA rfl (by omega) ?_ | refine nC ?_); conv => whnf)
    refine cP (fun h3 => ?_) (fun h3 => ?_)
    rotate_left
    · conv => whnf
      repeat ((first | refine oB (by first | omega | rfl | exact zM fun _ => rfl) ?_ | refine lM ?_ | refine lA ?_ | refine aM rfl (by omega) ?_ | refine aA rfl (by omega) ?_ | refine nC ?_); conv => whnf)
      refine ⟨k + 1, ⟨by omega, take_next (by omega) (by omega) he h3⟩, by omega, ?_⟩
      conv => whnf
      repeat ((first | refine oB (by first | omega | rfl | exact zM fun _ => rfl) ?_ | refine lM ?_ | refine lA ?_ | refine aM rfl (by omega) ?_ | refine aA rfl (by omega) ?_ | refine nC ?_); conv => whnf)
      trivial
    · conv => whnf
      exact dF (ne_at (k := k) (by omega) (by omega) h3)
  · conv => whnf
    repeat ((first | refine oB (by first | omega | rfl | exact zM fun _ => rfl) ?_ | refine lM ?_ | refine lA ?_ | refine aM rfl (by omega) ?_ | refine aA rfl (by omega) ?_ | refine nC ?_); conv => whnf)
    have : k = a.length := by omega
    subst this
    exact dT (eq_of_takes (by omega) he)


def c_WS1 : XC := (.s (.r [.ex 4 (.mv .n)]) (.s (.r [.mv 5 0, .mv 6 1, .ex 7 (.call 48 [(.t 5), (.t 6)]), .mv 4 7]) .ret))
theorem c_WS1_eq : compF Go.Proofs.Try.prog [] 47 = some (c_WS1.ac, [(.t 4)], 8) := by kernel_rfl

theorem f_WS1 (W0 : World) (a b : List Hold) : Fn Go.Proofs.Try.prog W0 47 [eHolds a, eHolds b] (.c (CB (decide (a = b)))) [] := by
  refine fnX (c := c_WS1) mixed c_WS1_eq (by simp) rfl fun hg => ?_
  conv => whnf
  repeat ((first | refine oB (by first | omega | rfl | exact zM fun _ => rfl) ?_ | refine lM ?_ | refine lA ?_ | refine aM rfl (by omega) ?_ | refine aA rfl (by omega) ?_ | refine nC ?_ | refine c0 (f_EqHold W0 a b) rfl ?_); conv => whnf)


def c_EqFH : XC := (.s (.r [.ex 6 (.mv .n)]) (.s (.s (.r [.mv 10 0, .ex 11 (.len false (.t 10)), .mv 12 1, .ex 13 (.len false (.t 12)), .ex 14 (.bin .neq (.t 11) (.t 13))]) (.cnd (.t 14) (.s (.r [.ex 6 (.mv .n)]) .ret) .skip)) (.s (.s (.r [.mv 15 0, .ex 16 (.len false (.t 15)), .ex 17 (.mv (.i 0))]) (.blk 0 (.loop (.s (.r [.ex 18 (.bin .lss (.t 17) (.t 16))]) (.s (.cnd (.t 18) .skip (.exit 0)) (.s (.blk 1 (.s (.r [.mv 19 17, .ex 20 (.ia 1 (.t 15) (.t 17)), .ex 21 (.ld false 1 (.t 20)), .mv 7 19, .ex 8 (.asn (.t 21) 7 83)]) (.s (.r [.mv 22 1, .mv 23 7, .ex 24 (.ia 1 (.t 22) (.t 23)), .ex 25 (.ld false 1 (.t 24)), .ex 9 (.asn (.t 25) 7 83)]) (.s (.r [.mv 26 2, .mv 27 8, .mv 28 9, .ex 29 (.callv (.t 26) [(.t 27), (.t 28)]), .ex 30 (.un .not (.t 29))]) (.cnd (.t 30) (.s (.r [.ex 6 (.mv .n)]) .ret) .skip))))) (.r [.ex 31 (.bin .add (.t 17) (.i 1)), .mv 17 31]))))))) (.s (.r [.ex 6 (.mv .y)]) .ret))))
theorem c_EqFH_eq : compF Go.Proofs.Try.prog [] 50 = some (c_EqFH.ac, [(.t 6)], 32) := by kernel_rfl

theorem f_EqFH (W0 : World) (a b : List (List Hold)) : Fn Go.Proofs.Try.prog W0 50 [eHoldss a, eHoldss b, .sc (.func (.func 47) #[] #[])] (.c (CB (decide (a = b)))) [] := by
  refine fnX (c := c_EqFH) mixed c_EqFH_eq (by simp) rfl fun hg => ?_
  have g1 := goodRow (hg _ (by simp : eHoldss a ∈ _))
  conv => whnf
  repeat ((first | refine oB (by first | omega | rfl | exact zM fun _ => rfl) ?_ | refine lM ?_ | refine lA ?_ | refine aM rfl (by omega) ?_ | refine aA rfl (by omega) ?_ | refine nC ?_); conv => whnf)
  refine cP (fun h1 => ?_) (fun h1 => ?_)
  · conv => whnf
    exact dF (ne_len (by omega))
  conv => whnf
  repeat ((first | refine oB (by first | omega | rfl | exact zM fun _ => rfl) ?_ | refine lM ?_ | refine lA ?_ | refine aM rfl (by omega) ?_ | refine aA rfl (by omega) ?_ | refine nC ?_); conv => whnf)
  refine lp (σ := Nat) (fun k => [(0, .c (eHoldss a)), (1, .c (eHoldss b)), (2, .c (.sc (.func (.func 47) #[] #[]))), (15, .c (eHoldss a)), (16, I a.length), (17, I k)]) (fun _ => []) (fun k => k ≤ a.length ∧ a.take k = b.take k) (fun k => a.length - k) 0 ⟨by simp, by simp⟩ ?_ ?_
  · conv => whnf
    repeat ((first | refine oB (by first | omega | rfl | exact zM fun _ => rfl) ?_ | refine lM ?_ | refine lA ?_ | refine aM rfl (by omega) ?_ | refine aA rfl (by omega) ?_ | refine nC ?_); conv => whnf)
    trivial
  rintro k ⟨hk, he⟩
  conv => whnf
  repeat ((first | refine oB (by first | omega | rfl | exact zM fun _ => rfl) ?_ | refine lM ?_ | refine lA ?_ | refine aM rfl (by omega) ?_ | refine aA rfl (by omega) ?_ | refine nC ?_); conv => whnf)
  refine cP (fun h2 => ?_) (fun h2 => ?_)
  · conv => whnf
    repeat ((first | refine oB (by first | omega | rfl | exact zM fun _ => rfl) ?_ | refine lM ?_ | refine lA ?_ | refine aM rfl (by omega) ?_ | refine aA rfl (by omega) ?_ | refine nC ?_ | refine oB ⟨by kernel_rfl, by simp⟩ ?_ | refine c0 (f_WS1 W0 _ _) rfl ?_); conv => whnf)
    refine cP (fun h3 => ?_) (fun h3 => ?_)
    rotate_left
    · conv => whnf
      repeat ((first | refine oB (by first | omega | rfl | exact zM fun _ => rfl) ?_ | refine lM ?_ | refine lA ?_ | refine aM rfl (by omega) ?_ | refine aA rfl (by omega) ?_ | refine nC ?_); conv => whnf)
      refine ⟨k + 1, ⟨by omega, take_next (by omega) (by omega) he (by simpa using h3)⟩, by omega, ?_⟩
      conv => whnf
      repeat ((first | refine oB (by first | omega | rfl | exact zM fun _ => rfl) ?_ | refine lM ?_ | refine lA ?_ | refine aM rfl (by omega) ?_ | refine aA rfl (by omega) ?_ | refine nC ?_); conv => whnf)
      trivial
    · conv => whnf
      exact dF (ne_at (k := k) (by omega) (by omega) (by simpa using h3))
  · conv => whnf
    repeat ((first | refine oB (by first | omega | rfl | exact zM fun _ => rfl) ?_ | refine lM ?_ | refine lA ?_ | refine aM rfl (by omega) ?_ | refine aA rfl (by omega) ?_ | refine nC ?_); conv => whnf)
    have : k = a.length := by omega
    subst this
    exact dT (eq_of_takes (by omega) he)


def c_laws_toLease : XC := (.s (.r [.ex 1 (.box (.t 0)), .ex 2 (.alloc [(.c (.sc (.int .i64 0))), (.c (.sc (.string ⟨#[]⟩))), (.c (.sc (.int .i64 0))), (.c (.sc (.int .i64 0)))])]) (.s (.r [.ex 3 (.alloc [(.c (.sc (.int .i64 0))), (.c (.sc (.string ⟨#[]⟩))), (.c (.sc (.int .i64 0))), (.c (.sc (.int .i64 0)))])]) (.s (.r [.ex 4 (.fa 0 (.t 1)), .ex 5 (.ld false 1 (.t 4)), .ex 6 (.fa 0 (.t 3)), .nu (.st 1 (.t 6) (.t 5))]) (.s (.r [.ex 7 (.fa 1 (.t 1)), .ex 8 (.ld false 1 (.t 7)), .ex 9 (.fa 1 (.t 3)), .nu (.st 1 (.t 9) (.t 8))]) (.s (.r [.ex 10 (.fa 2 (.t 1)), .ex 11 (.ld false 1 (.t 10)), .ex 12 (.fa 2 (.t 3)), .nu (.st 1 (.t 12) (.t 11))]) (.s (.r [.ex 13 (.fa 3 (.t 1)), .ex 14 (.ld false 1 (.t 13)), .ex 15 (.fa 3 (.t 3)), .nu (.st 1 (.t 15) (.t 14))]) (.s (.r [.ex 16 (.ld true 4 (.t 3)), .nu (.st 4 (.t 2) (.t 16))]) .ret)))))))
theorem c_laws_toLease_eq : compF Go.Proofs.Try.prog [] 83 = some (c_laws_toLease.ac, [(.cell 2 true 4)], 17) := by kernel_rfl

theorem f_toLease (W0 : World) (e : Lease) : Fn Go.Proofs.Try.prog W0 83 [eLease e] (.c (eLease e)) [] := by
  refine fnX (c := c_laws_toLease) mixed c_laws_toLease_eq (by simp) rfl fun hg => ?_
  conv => whnf
  repeat ((first | refine oB (by first | omega | rfl | exact zM fun _ => rfl) ?_ | refine lM ?_ | refine lA ?_ | refine aM rfl (by omega) ?_ | refine aA rfl (by omega) ?_ | refine nC ?_); conv => whnf)
  rfl


def c_laws_toOp : XC := (.s (.r [.ex 1 (.box (.t 0)), .ex 2 (.alloc [(.c (.sc (.int .i64 0))), (.c (.sc (.string ⟨#[]⟩))), (.c (.sc (.string ⟨#[]⟩))), (.c (.sc (.string ⟨#[]⟩)))])]) (.s (.r [.ex 3 (.alloc [(.c (.sc (.int .i64 0))), (.c (.sc (.string ⟨#[]⟩))), (.c (.sc (.string ⟨#[]⟩))), (.c (.sc (.string ⟨#[]⟩)))])]) (.s (.r [.ex 4 (.fa 0 (.t 1)), .ex 5 (.ld false 1 (.t 4)), .ex 6 (.fa 0 (.t 3)), .nu (.st 1 (.t 6) (.t 5))]) (.s (.r [.ex 7 (.fa 1 (.t 1)), .ex 8 (.ld false 1 (.t 7)), .ex 9 (.fa 1 (.t 3)), .nu (.st 1 (.t 9) (.t 8))]) (.s (.r [.ex 10 (.fa 2 (.t 1)), .ex 11 (.ld false 1 (.t 10)), .ex 12 (.fa 2 (.t 3)), .nu (.st 1 (.t 12) (.t 11))]) (.s (.r [.ex 13 (.fa 3 (.t 1)), .ex 14 (.ld false 1 (.t 13)), .ex 15 (.fa 3 (.t 3)), .nu (.st 1 (.t 15) (.t 14))]) (.s (.r [.ex 16 (.ld true 4 (.t 3)), .nu (.st 4 (.t 2) (.t 16))]) .ret)))))))
theorem c_laws_toOp_eq : compF Go.Proofs.Try.prog [] 46 = some (c_laws_toOp.ac, [(.cell 2 true 4)], 17) := by kernel_rfl

theorem f_toOp (W0 : World) (e : Op) : Fn Go.Proofs.Try.prog W0 46 [eOp e] (.c (eOp e)) [] := by
  refine fnX (c := c_laws_toOp) mixed c_laws_toOp_eq (by simp) rfl fun hg => ?_
  conv => whnf
  repeat ((first | refine oB (by first | omega | rfl | exact zM fun _ => rfl) ?_ | refine lM ?_ | refine lA ?_ | refine aM rfl (by omega) ?_ | refine aA rfl (by omega) ?_ | refine nC ?_); conv => whnf)
  rfl


def c_laws_toHold : XC := (.s (.r [.ex 1 (.box (.t 0)), .ex 2 (.alloc [(.c (.sc (.string ⟨#[]⟩))), (.c (.sc (.bool false))), (.c (.sc (.string ⟨#[]⟩))), (.c (.sc (.bool false))), (.c (.sc (.string ⟨#[]⟩))), (.c (.sc (.int .i64 0))), (.c (.sc (.int .i64 0)))])]) (.s (.r [.ex 3 (.alloc [(.c (.sc (.string ⟨#[]⟩))), (.c (.sc (.bool false))), (.c (.sc (.string ⟨#[]⟩))), (.c (.sc (.bool false))), (.c (.sc (.string ⟨#[]⟩))), (.c (.sc (.int .i64 0))), (.c (.sc (.int .i64 0)))])]) (.s (.r [.ex 4 (.fa 0 (.t 1)), .ex 5 (.ld false 1 (.t 4)), .ex 6 (.fa 0 (.t 3)), .nu (.st 1 (.t 6) (.t 5))]) (.s (.r [.ex 7 (.fa 1 (.t 1)), .ex 8 (.ld false 1 (.t 7)), .ex 9 (.fa 1 (.t 3)), .nu (.st 1 (.t 9) (.t 8))]) (.s (.r [.ex 10 (.fa 2 (.t 1)), .ex 11 (.ld true 3 (.t 10)), .ex 12 (.call 74 [(.t 11)]), .ex 13 (.fa 2 (.t 3)), .nu (.st 3 (.t 13) (.t 12))]) (.s (.r [.ex 14 (.fa 5 (.t 1)), .ex 15 (.ld false 1 (.t 14)), .ex 16 (.fa 5 (.t 3)), .nu (.st 1 (.t 16) (.t 15))]) (.s (.r [.ex 17 (.fa 6 (.t 1)), .ex 18 (.ld false 1 (.t 17)), .ex 19 (.fa 6 (.t 3)), .nu (.st 1 (.t 19) (.t 18))]) (.s (.r [.ex 20 (.ld true 7 (.t 3)), .nu (.st 7 (.t 2) (.t 20))]) .ret))))))))
theorem c_laws_toHold_eq : compF Go.Proofs.Try.prog [] 98 = some (c_laws_toHold.ac, [(.cell 2 true 7)], 21) := by kernel_rfl

theorem f_toHold (W0 : World) (e : Hold) : Fn Go.Proofs.Try.prog W0 98 [eHold e] (.c (eHold e)) [] := by
  refine fnX (c := c_laws_toHold) mixed c_laws_toHold_eq (by simp) rfl fun hg => ?_
  conv => whnf
  repeat ((first | refine oB (by first | omega | rfl | exact zM fun _ => rfl) ?_ | refine lM ?_ | refine lA ?_ | refine aM rfl (by omega) ?_ | refine aA rfl (by omega) ?_ | refine nC ?_ | refine c0 (f_toEnt W0 e.ent) rfl ?_ | intro _); conv => whnf)
  rfl


def c_laws_toMsg : XC := (.s (.r [.ex 1 (.box (.t 0)), .ex 2 (.alloc [(.c (.sc (.int .i64 0))), (.c (.sc (.int .i64 0))), (.c (.sc (.string ⟨#[]⟩))), (.c (.sc (.bool false))), (.c (.sc (.string ⟨#[]⟩))), (.c (.sc (.bool false))), (.c (.sc (.string ⟨#[]⟩))), (.c (.sc (.int .i64 0))), (.c (.sc (.int .i64 0)))])]) (.s (.r [.ex 3 (.alloc [(.c (.sc (.int .i64 0))), (.c (.sc (.int .i64 0))), (.c (.sc (.string ⟨#[]⟩))), (.c (.sc (.bool false))), (.c (.sc (.string ⟨#[]⟩))), (.c (.sc (.bool false))), (.c (.sc (.string ⟨#[]⟩))), (.c (.sc (.int .i64 0))), (.c (.sc (.int .i64 0)))])]) (.s (.r [.ex 4 (.fa 0 (.t 1)), .ex 5 (.ld false 1 (.t 4)), .ex 6 (.fa 0 (.t 3)), .nu (.st 1 (.t 6) (.t 5))]) (.s (.r [.ex 7 (.fa 1 (.t 1)), .ex 8 (.ld false 1 (.t 7)), .ex 9 (.fa 1 (.t 3)), .nu (.st 1 (.t 9) (.t 8))]) (.s (.r [.ex 10 (.fa 2 (.t 1)), .ex 11 (.ld true 7 (.t 10)), .ex 12 (.call 98 [(.t 11)]), .ex 13 (.fa 2 (.t 3)), .nu (.st 7 (.t 13) (.t 12))]) (.s (.r [.ex 14 (.ld true 9 (.t 3)), .nu (.st 9 (.t 2) (.t 14))]) .ret))))))
theorem c_laws_toMsg_eq : compF Go.Proofs.Try.prog [] 85 = some (c_laws_toMsg.ac, [(.cell 2 true 9)], 15) := by kernel_rfl

theorem f_toMsg (W0 : World) (e : Msg) : Fn Go.Proofs.Try.prog W0 85 [eMsg e] (.c (eMsg e)) [] := by
  refine fnX (c := c_laws_toMsg) mixed c_laws_toMsg_eq (by simp) rfl fun hg => ?_
  conv => whnf
  repeat ((first | refine oB (by first | omega | rfl | exact zM fun _ => rfl) ?_ | refine lM ?_ | refine lA ?_ | refine aM rfl (by omega) ?_ | refine aA rfl (by omega) ?_ | refine nC ?_ | refine c0 (f_toHold W0 e.hold) rfl ?_ | intro _); conv => whnf)
  rfl


def c_laws_toLeaseS : XC := (.s (.r [.ex 2 (.asn (.k .nil) 4 86)]) (.s (.r [.mv 5 0, .ex 6 (.len false (.t 5)), .ex 7 (.mks 4 40 86 (.c (.agg [(.sc (.int .i64 0)), (.sc (.string ⟨#[]⟩)), (.sc (.int .i64 0)), (.sc (.int .i64 0))])) (.t 6)), .ex 3 (.asn (.t 7) 4 86)]) (.s (.s (.r [.ex 4 (.mv (.i 0))]) (.blk 0 (.loop (.s (.s (.r [.mv 8 4, .mv 9 0, .ex 10 (.len false (.t 9)), .ex 11 (.bin .lss (.t 8) (.t 10))]) (.cnd (.t 11) .skip (.exit 0))) (.s (.blk 1 (.r [.mv 14 3, .mv 15 4, .mv 16 0, .mv 17 4, .ex 18 (.ia 4 (.t 16) (.t 17)), .ex 19 (.ld true 4 (.t 18)), .ex 20 (.call 83 [(.t 19)]), .ex 21 (.ia 4 (.t 14) (.t 15)), .nu (.st 4 (.t 21) (.t 20))])) (.r [.mv 12 4, .ex 13 (.bin .add (.t 12) (.i 1)), .mv 4 13])))))) (.s (.r [.mv 22 3, .ex 2 (.asn (.t 22) 4 86)]) .ret))))
theorem c_laws_toLeaseS_eq : compF Go.Proofs.Try.prog [] 42 = some (c_laws_toLeaseS.ac, [(.t 2)], 23) := by kernel_rfl

theorem f_toLeases (W0 : World) (t : List Lease) (ht : t.length ≤ 1048576) : Fn Go.Proofs.Try.prog W0 42 [eLeases t] (.c (eLeases t)) [] := by
  refine fnX (c := c_laws_toLeaseS) mixed c_laws_toLeaseS_eq (by simp) rfl fun hg => ?_
  conv => whnf
  repeat ((first | refine oB (by first | omega | rfl | exact zM fun _ => rfl) ?_ | refine lM ?_ | refine lA ?_ | refine aM rfl (by omega) ?_ | refine aA rfl (by omega) ?_ | refine nC ?_); conv => whnf)
  refine lp (σ := Nat) (fun k => [(0, .c (eLeases t)), (3, .own 112 t.length), (4, I k)]) (fun k => [(112, .row ((t.take k).map eLease ++ List.replicate (t.length - k) (eLease ⟨0,[],0,0⟩)) 4 86)]) (fun k => k ≤ t.length) (fun k => t.length - k) 0 (by simp) ?_ ?_
  · conv => whnf
    repeat ((first | refine oB (by first | omega | rfl | exact zM fun _ => rfl) ?_ | refine lM ?_ | refine lA ?_ | refine aM rfl (by omega) ?_ | refine aA rfl (by omega) ?_ | refine nC ?_); conv => whnf)
    trivial
  rintro k hk
  conv => whnf
  repeat ((first | refine oB (by first | omega | rfl | exact zM fun _ => rfl) ?_ | refine lM ?_ | refine lA ?_ | refine aM rfl (by omega) ?_ | refine aA rfl (by omega) ?_ | refine nC ?_); conv => whnf)
  refine cP (fun h2 => ?_) (fun h2 => ?_)
  · conv => whnf
    repeat ((first | refine oB (by first | omega | rfl | exact zM fun _ => rfl) ?_ | refine lM ?_ | refine lA ?_ | refine aM rfl (by omega) ?_ | refine aA rfl (by omega) ?_ | refine nC ?_ | refine c0 (f_toLease W0 _) rfl ?_ | refine oB (len_rep hk) ?_ | refine aE (j := k) rfl (get_rep (by omega)) ?_); conv => whnf)
    intro hg2
    conv => whnf
    repeat ((first | refine oB (by first | omega | rfl | exact zM fun _ => rfl) ?_ | refine lM ?_ | refine lA ?_ | refine aM rfl (by omega) ?_ | refine aA rfl (by omega) ?_ | refine nC ?_); conv => whnf)
    refine ⟨k + 1, by omega, by omega, ?_⟩
    conv => whnf
    repeat ((first | refine oB (by first | omega | rfl | exact zM fun _ => rfl) ?_ | refine lM ?_ | refine lA ?_ | refine aM rfl (by omega) ?_ | refine aA rfl (by omega) ?_ | refine nC ?_ | refine oB (by rw [← set_rep (f := eLease) (by omega : k < t.length)] <;> rfl) ?_); conv => whnf)
    trivial
  · have : k = t.length := by omega
    subst this
    conv => whnf
    repeat ((first | refine oB (by first | omega | rfl | exact zM fun _ => rfl) ?_ | refine lM ?_ | refine lA ?_ | refine aM rfl (by omega) ?_ | refine aA rfl (by omega) ?_ | refine nC ?_ | refine oB (len_rep (Nat.le_refl _)) ?_); conv => whnf)
    simp [eLeases]


def c_laws_toHoldS : XC := (.s (.r [.ex 2 (.asn (.k .nil) 7 83)]) (.s (.r [.mv 5 0, .ex 6 (.len false (.t 5)), .ex 7 (.mks 7 80 83 (.c (.agg [(.sc (.string ⟨#[]⟩)), (.sc (.bool false)), (.sc (.string ⟨#[]⟩)), (.sc (.bool false)), (.sc (.string ⟨#[]⟩)), (.sc (.int .i64 0)), (.sc (.int .i64 0))])) (.t 6)), .ex 3 (.asn (.t 7) 7 83)]) (.s (.s (.r [.ex 4 (.mv (.i 0))]) (.blk 0 (.loop (.s (.s (.r [.mv 8 4, .mv 9 0, .ex 10 (.len false (.t 9)), .ex 11 (.bin .lss (.t 8) (.t 10))]) (.cnd (.t 11) .skip (.exit 0))) (.s (.blk 1 (.r [.mv 14 3, .mv 15 4, .mv 16 0, .mv 17 4, .ex 18 (.ia 7 (.t 16) (.t 17)), .ex 19 (.ld true 7 (.t 18)), .ex 20 (.call 98 [(.t 19)]), .ex 21 (.ia 7 (.t 14) (.t 15)), .nu (.st 7 (.t 21) (.t 20))])) (.r [.mv 12 4, .ex 13 (.bin .add (.t 12) (.i 1)), .mv 4 13])))))) (.s (.r [.mv 22 3, .ex 2 (.asn (.t 22) 7 83)]) .ret))))
theorem c_laws_toHoldS_eq : compF Go.Proofs.Try.prog [] 84 = some (c_laws_toHoldS.ac, [(.t 2)], 23) := by kernel_rfl

theorem f_toHolds (W0 : World) (t : List Hold) (ht : t.length ≤ 1048576) : Fn Go.Proofs.Try.prog W0 84 [eHolds t] (.c (eHolds t)) [] := by
  refine fnX (c := c_laws_toHoldS) mixed c_laws_toHoldS_eq (by simp) rfl fun hg => ?_
  conv => whnf
  repeat ((first | refine oB (by first | omega | rfl | exact zM fun _ => rfl) ?_ | refine lM ?_ | refine lA ?_ | refine aM rfl (by omega) ?_ | refine aA rfl (by omega) ?_ | refine nC ?_); conv => whnf)
  refine lp (σ := Nat) (fun k => [(0, .c (eHolds t)), (3, .own 112 t.length), (4, I k)]) (fun k => [(112, .row ((t.take k).map eHold ++ List.replicate (t.length - k) (eHold ⟨[],false,⟨[],false,[]⟩,0,0⟩)) 7 83)]) (fun k => k ≤ t.length) (fun k => t.length - k) 0 (by simp) ?_ ?_
  · conv => whnf
    repeat ((first | refine oB (by first | omega | rfl | exact zM fun _ => rfl) ?_ | refine lM ?_ | refine lA ?_ | refine aM rfl (by omega) ?_ | refine aA rfl (by omega) ?_ | refine nC ?_); conv => whnf)
    trivial
  rintro k hk
  conv => whnf
  repeat ((first | refine oB (by first | omega | rfl | exact zM fun _ => rfl) ?_ | refine lM ?_ | refine lA ?_ | refine aM rfl (by omega) ?_ | refine aA rfl (by omega) ?_ | refine nC ?_); conv => whnf)
  refine cP (fun h2 => ?_) (fun h2 => ?_)
  · conv => whnf
    repeat ((first | refine oB (by first | omega | rfl | exact zM fun _ => rfl) ?_ | refine lM ?_ | refine lA ?_ | refine aM rfl (by omega) ?_ | refine aA rfl (by omega) ?_ | refine nC ?_ | refine c0 (f_toHold W0 _) rfl ?_ | refine oB (len_rep hk) ?_ | refine aE (j := k) rfl (get_rep (by omega)) ?_); conv => whnf)
    intro hg2
    conv => whnf
    repeat ((first | refine oB (by first | omega | rfl | exact zM fun _ => rfl) ?_ | refine lM ?_ | refine lA ?_ | refine aM rfl (by omega) ?_ | refine aA rfl (by omega) ?_ | refine nC ?_); conv => whnf)
    refine ⟨k + 1, by omega, by omega, ?_⟩
    conv => whnf
    repeat ((first | refine oB (by first | omega | rfl | exact zM fun _ => rfl) ?_ | refine lM ?_ | refine lA ?_ | refine aM rfl (by omega) ?_ | refine aA rfl (by omega) ?_ | refine nC ?_ | refine oB (by rw [← set_rep (f := eHold) (by omega : k < t.length)] <;> rfl) ?_); conv => whnf)
    trivial
  · have : k = t.length := by omega
    subst this
    conv => whnf
    repeat ((first | refine oB (by first | omega | rfl | exact zM fun _ => rfl) ?_ | refine lM ?_ | refine lA ?_ | refine aM rfl (by omega) ?_ | refine aA rfl (by omega) ?_ | refine nC ?_ | refine oB (len_rep (Nat.le_refl _)) ?_); conv => whnf)
    simp [eHolds]


def c_laws_toMsgS : XC := (.s (.r [.ex 2 (.asn (.k .nil) 9 91)]) (.s (.r [.mv 5 0, .ex 6 (.len false (.t 5)), .ex 7 (.mks 9 96 91 (.c (.agg [(.sc (.int .i64 0)), (.sc (.int .i64 0)), (.sc (.string ⟨#[]⟩)), (.sc (.bool false)), (.sc (.string ⟨#[]⟩)), (.sc (.bool false)), (.sc (.string ⟨#[]⟩)), (.sc (.int .i64 0)), (.sc (.int .i64 0))])) (.t 6)), .ex 3 (.asn (.t 7) 9 91)]) (.s (.s (.r [.ex 4 (.mv (.i 0))]) (.blk 0 (.loop (.s (.s (.r [.mv 8 4, .mv 9 0, .ex 10 (.len false (.t 9)), .ex 11 (.bin .lss (.t 8) (.t 10))]) (.cnd (.t 11) .skip (.exit 0))) (.s (.blk 1 (.r [.mv 14 3, .mv 15 4, .mv 16 0, .mv 17 4, .ex 18 (.ia 9 (.t 16) (.t 17)), .ex 19 (.ld true 9 (.t 18)), .ex 20 (.call 85 [(.t 19)]), .ex 21 (.ia 9 (.t 14) (.t 15)), .nu (.st 9 (.t 21) (.t 20))])) (.r [.mv 12 4, .ex 13 (.bin .add (.t 12) (.i 1)), .mv 4 13])))))) (.s (.r [.mv 22 3, .ex 2 (.asn (.t 22) 9 91)]) .ret))))
theorem c_laws_toMsgS_eq : compF Go.Proofs.Try.prog [] 45 = some (c_laws_toMsgS.ac, [(.t 2)], 23) := by kernel_rfl

theorem f_toMsgs (W0 : World) (t : List Msg) (ht : t.length ≤ 1048576) : Fn Go.Proofs.Try.prog W0 45 [eMsgs t] (.c (eMsgs t)) [] := by
  refine fnX (c := c_laws_toMsgS) mixed c_laws_toMsgS_eq (by simp) rfl fun hg => ?_
  conv => whnf
  repeat ((first | refine oB (by first | omega | rfl | exact zM fun _ => rfl) ?_ | refine lM ?_ | refine lA ?_ | refine aM rfl (by omega) ?_ | refine aA rfl (by omega) ?_ | refine nC ?_); conv => whnf)
  refine lp (σ := Nat) (fun k => [(0, .c (eMsgs t)), (3, .own 112 t.length), (4, I k)]) (fun k => [(112, .row ((t.take k).map eMsg ++ List.replicate (t.length - k) (eMsg ⟨0,0,⟨[],false,⟨[],false,[]⟩,0,0⟩⟩)) 9 91)]) (fun k => k ≤ t.length) (fun k => t.length - k) 0 (by simp) ?_ ?_
  · conv => whnf
    repeat ((first | refine oB (by first | omega | rfl | exact zM fun _ => rfl) ?_ | refine lM ?_ | refine lA ?_ | refine aM rfl (by omega) ?_ | refine aA rfl (by omega) ?_ | refine nC ?_); conv => whnf)
    trivial
  rintro k hk
  conv => whnf
  repeat ((first | refine oB (by first | omega | rfl | exact zM fun _ => rfl) ?_ | refine lM ?_ | refine lA ?_ | refine aM rfl (by omega) ?_ | refine aA rfl (by omega) ?_ | refine nC ?_); conv => whnf)
  refine cP (fun h2 => ?_) (fun h2 => ?_)
  · conv => whnf
    repeat ((first | refine oB (by first | omega | rfl | exact zM fun _ => rfl) ?_ | refine lM ?_ | refine lA ?_ | refine aM rfl (by omega) ?_ | refine aA rfl (by omega) ?_ | refine nC ?_ | refine c0 (f_toMsg W0 _) rfl ?_ | refine oB (len_rep hk) ?_ | refine aE (j := k) rfl (get_rep (by omega)) ?_); conv => whnf)
    intro hg2
    conv => whnf
    repeat ((first | refine oB (by first | omega | rfl | exact zM fun _ => rfl) ?_ | refine lM ?_ | refine lA ?_ | refine aM rfl (by omega) ?_ | refine aA rfl (by omega) ?_ | refine nC ?_); conv => whnf)
    refine ⟨k + 1, by omega, by omega, ?_⟩
    conv => whnf
    repeat ((first | refine oB (by first | omega | rfl | exact zM fun _ => rfl) ?_ | refine lM ?_ | refine lA ?_ | refine aM rfl (by omega) ?_ | refine aA rfl (by omega) ?_ | refine nC ?_ | refine oB (by rw [← set_rep (f := eMsg) (by omega : k < t.length)] <;> rfl) ?_); conv => whnf)
    trivial
  · have : k = t.length := by omega
    subst this
    conv => whnf
    repeat ((first | refine oB (by first | omega | rfl | exact zM fun _ => rfl) ?_ | refine lM ?_ | refine lA ?_ | refine aM rfl (by omega) ?_ | refine aA rfl (by omega) ?_ | refine nC ?_ | refine oB (len_rep (Nat.le_refl _)) ?_); conv => whnf)
    simp [eMsgs]


def c_laws_toHoldSS : XC := (.s (.r [.ex 2 (.asn (.k .nil) 1 74)]) (.s (.r [.mv 5 0, .ex 6 (.len false (.t 5)), .ex 7 (.mks 1 24 74 (.c (.row [])) (.t 6)), .ex 3 (.asn (.t 7) 1 74)]) (.s (.s (.r [.ex 4 (.mv (.i 0))]) (.blk 0 (.loop (.s (.s (.r [.mv 8 4, .mv 9 0, .ex 10 (.len false (.t 9)), .ex 11 (.bin .lss (.t 8) (.t 10))]) (.cnd (.t 11) .skip (.exit 0))) (.s (.blk 1 (.r [.mv 14 3, .mv 15 4, .mv 16 0, .mv 17 4, .ex 18 (.ia 1 (.t 16) (.t 17)), .ex 19 (.ld false 1 (.t 18)), .ex 20 (.call 84 [(.t 19)]), .ex 21 (.ia 1 (.t 14) (.t 15)), .nu (.st 1 (.t 21) (.t 20))])) (.r [.mv 12 4, .ex 13 (.bin .add (.t 12) (.i 1)), .mv 4 13])))))) (.s (.r [.mv 22 3, .ex 2 (.asn (.t 22) 1 74)]) .ret))))
theorem c_laws_toHoldSS_eq : compF Go.Proofs.Try.prog [] 43 = some (c_laws_toHoldSS.ac, [(.t 2)], 23) := by kernel_rfl

theorem f_toHoldss (W0 : World) (t : List (List Hold)) (ht : t.length ≤ 1048576) (ht2 : ∀ l ∈ t, l.length ≤ 1048576) : Fn Go.Proofs.Try.prog W0 43 [eHoldss t] (.c (eHoldss t)) [] := by
  refine fnX (c := c_laws_toHoldSS) mixed c_laws_toHoldSS_eq (by simp) rfl fun hg => ?_
  conv => whnf
  repeat ((first | refine oB (by first | omega | rfl | exact zM fun _ => rfl) ?_ | refine lM ?_ | refine lA ?_ | refine aM rfl (by omega) ?_ | refine aA rfl (by omega) ?_ | refine nC ?_); conv => whnf)
  refine lp (σ := Nat) (fun k => [(0, .c (eHoldss t)), (3, .own 112 t.length), (4, I k)]) (fun k => [(112, .row ((t.take k).map eHolds ++ List.replicate (t.length - k) (eHolds [])) 1 74)]) (fun k => k ≤ t.length) (fun k => t.length - k) 0 (by simp) ?_ ?_
  · conv => whnf
    repeat ((first | refine oB (by first | omega | rfl | exact zM fun _ => rfl) ?_ | refine lM ?_ | refine lA ?_ | refine aM rfl (by omega) ?_ | refine aA rfl (by omega) ?_ | refine nC ?_); conv => whnf)
    trivial
  rintro k hk
  conv => whnf
  repeat ((first | refine oB (by first | omega | rfl | exact zM fun _ => rfl) ?_ | refine lM ?_ | refine lA ?_ | refine aM rfl (by omega) ?_ | refine aA rfl (by omega) ?_ | refine nC ?_); conv => whnf)
  refine cP (fun h2 => ?_) (fun h2 => ?_)
  · conv => whnf
    repeat ((first | refine oB (by first | omega | rfl | exact zM fun _ => rfl) ?_ | refine lM ?_ | refine lA ?_ | refine aM rfl (by omega) ?_ | refine aA rfl (by omega) ?_ | refine nC ?_ | refine c0 (f_toHolds W0 _ (ht2 _ (by simp))) rfl ?_ | refine oB (len_rep hk) ?_ | refine aE (j := k) rfl (get_rep (by omega)) ?_); conv => whnf)
    intro hg2
    conv => whnf
    repeat ((first | refine oB (by first | omega | rfl | exact zM fun _ => rfl) ?_ | refine lM ?_ | refine lA ?_ | refine aM rfl (by omega) ?_ | refine aA rfl (by omega) ?_ | refine nC ?_); conv => whnf)
    refine ⟨k + 1, by omega, by omega, ?_⟩
    conv => whnf
    repeat ((first | refine oB (by first | omega | rfl | exact zM fun _ => rfl) ?_ | refine lM ?_ | refine lA ?_ | refine aM rfl (by omega) ?_ | refine aA rfl (by omega) ?_ | refine nC ?_ | refine oB (by rw [← set_rep (f := eHolds) (by omega : k < t.length)] <;> rfl) ?_); conv => whnf)
    trivial
  · have : k = t.length := by omega
    subst this
    conv => whnf
    repeat ((first | refine oB (by first | omega | rfl | exact zM fun _ => rfl) ?_ | refine lM ?_ | refine lA ?_ | refine aM rfl (by omega) ?_ | refine aA rfl (by omega) ?_ | refine nC ?_ | refine oB (len_rep (Nat.le_refl _)) ?_); conv => whnf)
    simp [eHoldss]


def c_laws_toIntS : XC := (.s (.r [.ex 2 (.asn (.k .nil) 1 3)]) (.s (.r [.mv 5 0, .ex 6 (.len false (.t 5)), .ex 7 (.mks 1 8 3 (.c (.sc (.int .i64 0))) (.t 6)), .ex 3 (.asn (.t 7) 1 3)]) (.s (.s (.r [.ex 4 (.mv (.i 0))]) (.blk 0 (.loop (.s (.s (.r [.mv 8 4, .mv 9 0, .ex 10 (.len false (.t 9)), .ex 11 (.bin .lss (.t 8) (.t 10))]) (.cnd (.t 11) .skip (.exit 0))) (.s (.blk 1 (.r [.mv 14 3, .mv 15 4, .mv 16 0, .mv 17 4, .ex 18 (.ia 1 (.t 16) (.t 17)), .ex 19 (.ld false 1 (.t 18)), .ex 20 (.ia 1 (.t 14) (.t 15)), .nu (.st 1 (.t 20) (.t 19))])) (.r [.mv 12 4, .ex 13 (.bin .add (.t 12) (.i 1)), .mv 4 13])))))) (.s (.r [.mv 21 3, .ex 2 (.asn (.t 21) 1 3)]) .ret))))
theorem c_laws_toIntS_eq : compF Go.Proofs.Try.prog [] 44 = some (c_laws_toIntS.ac, [(.t 2)], 22) := by kernel_rfl

theorem f_toInts (W0 : World) (t : List Int) (ht : t.length ≤ 1048576) : Fn Go.Proofs.Try.prog W0 44 [eInts t] (.c (eInts t)) [] := by
  refine fnX (c := c_laws_toIntS) mixed c_laws_toIntS_eq (by simp) rfl fun hg => ?_
  conv => whnf
  repeat ((first | refine oB (by first | omega | rfl | exact zM fun _ => rfl) ?_ | refine lM ?_ | refine lA ?_ | refine aM rfl (by omega) ?_ | refine aA rfl (by omega) ?_ | refine nC ?_); conv => whnf)
  refine lp (σ := Nat) (fun k => [(0, .c (eInts t)), (3, .own 112 t.length), (4, I k)]) (fun k => [(112, .row ((t.take k).map CI ++ List.replicate (t.length - k) (CI 0)) 1 3)]) (fun k => k ≤ t.length) (fun k => t.length - k) 0 (by simp) ?_ ?_
  · conv => whnf
    repeat ((first | refine oB (by first | omega | rfl | exact zM fun _ => rfl) ?_ | refine lM ?_ | refine lA ?_ | refine aM rfl (by omega) ?_ | refine aA rfl (by omega) ?_ | refine nC ?_); conv => whnf)
    trivial
  rintro k hk
  conv => whnf
  repeat ((first | refine oB (by first | omega | rfl | exact zM fun _ => rfl) ?_ | refine lM ?_ | refine lA ?_ | refine aM rfl (by omega) ?_ | refine aA rfl (by omega) ?_ | refine nC ?_); conv => whnf)
  refine cP (fun h2 => ?_) (fun h2 => ?_)
  · conv => whnf
    repeat ((first | refine oB (by first | omega | rfl | exact zM fun _ => rfl) ?_ | refine lM ?_ | refine lA ?_ | refine aM rfl (by omega) ?_ | refine aA rfl (by omega) ?_ | refine nC ?_ | refine oB (len_rep hk) ?_ | refine aE (j := k) rfl (get_rep (by omega)) ?_); conv => whnf)
    refine ⟨k + 1, by omega, by omega, ?_⟩
    conv => whnf
    repeat ((first | refine oB (by first | omega | rfl | exact zM fun _ => rfl) ?_ | refine lM ?_ | refine lA ?_ | refine aM rfl (by omega) ?_ | refine aA rfl (by omega) ?_ | refine nC ?_ | refine oB (by rw [← set_rep (f := CI) (by omega : k < t.length)] <;> rfl) ?_); conv => whnf)
    trivial
  · have : k = t.length := by omega
    subst this
    conv => whnf
    repeat ((first | refine oB (by first | omega | rfl | exact zM fun _ => rfl) ?_ | refine lM ?_ | refine lA ?_ | refine aM rfl (by omega) ?_ | refine aA rfl (by omega) ?_ | refine nC ?_ | refine oB (len_rep (Nat.le_refl _)) ?_); conv => whnf)
    simp [eInts]


def c_laws_toWorld : XC := (.s (.r [.ex 1 (.box (.t 0)), .ex 2 (.alloc [.nil, .nil, .nil, (.c (.sc (.int .i64 0))), (.c (.sc (.int .i64 0))), .nil, .nil, .nil, .nil, (.c (.sc (.bool false))), (.c (.sc (.int .i64 0))), (.c (.sc (.string ⟨#[]⟩))), (.c (.sc (.string ⟨#[]⟩))), (.c (.sc (.string ⟨#[]⟩)))])]) (.s (.r [.ex 3 (.alloc [.nil, .nil, .nil, (.c (.sc (.int .i64 0))), (.c (.sc (.int .i64 0))), .nil, .nil, .nil, .nil, (.c (.sc (.bool false))), (.c (.sc (.int .i64 0))), (.c (.sc (.string ⟨#[]⟩))), (.c (.sc (.string ⟨#[]⟩))), (.c (.sc (.string ⟨#[]⟩)))])]) (.s (.r [.ex 4 (.fa 0 (.t 1)), .ex 5 (.ld true 3 (.t 4)), .ex 6 (.call 8 [(.t 5)]), .ex 7 (.fa 0 (.t 3)), .nu (.st 3 (.t 7) (.t 6))]) (.s (.r [.ex 8 (.fa 3 (.t 1)), .ex 9 (.ld false 1 (.t 8)), .ex 10 (.fa 3 (.t 3)), .nu (.st 1 (.t 10) (.t 9))]) (.s (.r [.ex 11 (.fa 4 (.t 1)), .ex 12 (.ld false 1 (.t 11)), .ex 13 (.fa 4 (.t 3)), .nu (.st 1 (.t 13) (.t 12))]) (.s (.r [.ex 14 (.fa 5 (.t 1)), .ex 15 (.ld false 1 (.t 14)), .ex 16 (.call 42 [(.t 15)]), .ex 17 (.fa 5 (.t 3)), .nu (.st 1 (.t 17) (.t 16))]) (.s (.r [.ex 18 (.fa 6 (.t 1)), .ex 19 (.ld false 1 (.t 18)), .ex 20 (.call 43 [(.t 19)]), .ex 21 (.fa 6 (.t 3)), .nu (.st 1 (.t 21) (.t 20))]) (.s (.r [.ex 22 (.fa 7 (.t 1)), .ex 23 (.ld false 1 (.t 22)), .ex 24 (.call 44 [(.t 23)]), .ex 25 (.fa 7 (.t 3)), .nu (.st 1 (.t 25) (.t 24))]) (.s (.r [.ex 26 (.fa 8 (.t 1)), .ex 27 (.ld false 1 (.t 26)), .ex 28 (.call 45 [(.t 27)]), .ex 29 (.fa 8 (.t 3)), .nu (.st 1 (.t 29) (.t 28))]) (.s (.r [.ex 30 (.fa 9 (.t 1)), .ex 31 (.ld false 1 (.t 30)), .ex 32 (.fa 9 (.t 3)), .nu (.st 1 (.t 32) (.t 31))]) (.s (.r [.ex 33 (.fa 10 (.t 1)), .ex 34 (.ld true 4 (.t 33)), .ex 35 (.call 46 [(.t 34)]), .ex 36 (.fa 10 (.t 3)), .nu (.st 4 (.t 36) (.t 35))]) (.s (.r [.ex 37 (.ld true 14 (.t 3)), .nu (.st 14 (.t 2) (.t 37))]) .ret))))))))))))
theorem c_laws_toWorld_eq : compF Go.Proofs.Try.prog [] 13 = some (c_laws_toWorld.ac, [(.cell 2 true 14)], 38) := by kernel_rfl

theorem f_toWorld (W0 : World) (w : Wld) (h : WlFit w) : Fn Go.Proofs.Try.prog W0 13 [eWld w] (.c (eWld w)) [] := by
  refine fnX (c := c_laws_toWorld) mixed c_laws_toWorld_eq (by simp) rfl fun hg => ?_
  conv => whnf
  repeat ((first | refine oB (by first | omega | rfl | exact zM fun _ => rfl) ?_ | refine lM ?_ | refine lA ?_ | refine aM rfl (by omega) ?_ | refine aA rfl (by omega) ?_ | refine nC ?_ | refine c0 (f_toOver W0 w.over h.ov.h1 h.ov.h2 h.ov.h3 h.ov.h4) rfl ?_ | refine c0 (f_toLeases W0 w.leases h.ls) rfl ?_ | refine c0 (f_toHoldss W0 w.holds h.hs h.hh) rfl ?_ | refine c0 (f_toInts W0 w.floors h.fl) rfl ?_ | refine c0 (f_toMsgs W0 w.net h.nt) rfl ?_ | refine c0 (f_toOp W0 w.op) rfl ?_ | intro _); conv => whnf)
  rfl


def c_laws_eqWorld : XC := (.s (.r [.ex 2 (.box (.t 0)), .ex 3 (.box (.t 1)), .ex 4 (.mv .n)]) (.s (.s (.r [.ex 5 (.fa 0 (.t 2)), .ex 6 (.ld true 3 (.t 5)), .ex 7 (.fa 0 (.t 3)), .ex 8 (.ld true 3 (.t 7)), .ex 9 (.call 10 [(.t 6), (.t 8)]), .ex 10 (.un .not (.t 9))]) (.cnd (.t 10) (.s (.r [.ex 4 (.mv .n)]) .ret) .skip)) (.s (.s (.r [.ex 11 (.fa 3 (.t 2)), .ex 12 (.ld false 1 (.t 11)), .ex 13 (.fa 3 (.t 3)), .ex 14 (.ld false 1 (.t 13)), .ex 15 (.bin .neq (.t 12) (.t 14))]) (.cnd (.t 15) (.s (.r [.ex 4 (.mv .n)]) .ret) .skip)) (.s (.s (.r [.ex 16 (.fa 4 (.t 2)), .ex 17 (.ld false 1 (.t 16)), .ex 18 (.fa 4 (.t 3)), .ex 19 (.ld false 1 (.t 18)), .ex 20 (.bin .neq (.t 17) (.t 19))]) (.cnd (.t 20) (.s (.r [.ex 4 (.mv .n)]) .ret) .skip)) (.s (.s (.r [.ex 21 (.fa 5 (.t 2)), .ex 22 (.ld false 1 (.t 21)), .ex 23 (.fa 5 (.t 3)), .ex 24 (.ld false 1 (.t 23)), .ex 25 (.call 53 [(.t 22), (.t 24)]), .ex 26 (.un .not (.t 25))]) (.cnd (.t 26) (.s (.r [.ex 4 (.mv .n)]) .ret) .skip)) (.s (.s (.r [.ex 27 (.fa 6 (.t 2)), .ex 28 (.ld false 1 (.t 27)), .ex 29 (.fa 6 (.t 3)), .ex 30 (.ld false 1 (.t 29)), .ex 31 (.call 54 [(.t 28), (.t 30)]), .ex 32 (.un .not (.t 31))]) (.cnd (.t 32) (.s (.r [.ex 4 (.mv .n)]) .ret) .skip)) (.s (.s (.r [.ex 33 (.fa 7 (.t 2)), .ex 34 (.ld false 1 (.t 33)), .ex 35 (.fa 7 (.t 3)), .ex 36 (.ld false 1 (.t 35)), .ex 37 (.call 55 [(.t 34), (.t 36)]), .ex 38 (.un .not (.t 37))]) (.cnd (.t 38) (.s (.r [.ex 4 (.mv .n)]) .ret) .skip)) (.s (.s (.r [.ex 39 (.fa 8 (.t 2)), .ex 40 (.ld false 1 (.t 39)), .ex 41 (.fa 8 (.t 3)), .ex 42 (.ld false 1 (.t 41)), .ex 43 (.call 56 [(.t 40), (.t 42)]), .ex 44 (.un .not (.t 43))]) (.cnd (.t 44) (.s (.r [.ex 4 (.mv .n)]) .ret) .skip)) (.s (.s (.r [.ex 45 (.fa 9 (.t 2)), .ex 46 (.ld false 1 (.t 45)), .ex 47 (.fa 9 (.t 3)), .ex 48 (.ld false 1 (.t 47)), .ex 49 (.bb true (.t 46) (.t 48))]) (.cnd (.t 49) (.s (.r [.ex 4 (.mv .n)]) .ret) .skip)) (.s (.s (.r [.ex 50 (.fa 10 (.t 2)), .ex 51 (.ld true 4 (.t 50)), .ex 52 (.fa 10 (.t 3)), .ex 53 (.ld true 4 (.t 52)), .ex 54 (.call 57 [(.t 51), (.t 53)]), .ex 55 (.un .not (.t 54))]) (.cnd (.t 55) (.s (.r [.ex 4 (.mv .n)]) .ret) .skip)) (.s (.r [.ex 4 (.mv .y)]) .ret)))))))))))
theorem c_laws_eqWorld_eq : compF Go.Proofs.Try.prog [] 15 = some (c_laws_eqWorld.ac, [(.t 4)], 56) := by kernel_rfl

theorem f_eqWorld (W0 : World) (a b : Wld) : Fn Go.Proofs.Try.prog W0 15 [eWld a, eWld b] (.c (CB (decide (a = b)))) [] := by
  refine fnX (c := c_laws_eqWorld) mixed c_laws_eqWorld_eq (by simp) rfl fun hg => ?_
  conv => whnf
  repeat ((first | refine oB (by first | omega | rfl | exact zM fun _ => rfl) ?_ | refine lM ?_ | refine lA ?_ | refine aM rfl (by omega) ?_ | refine aA rfl (by omega) ?_ | refine nC ?_ | refine c0 (f_eqOver W0 a.over b.over) rfl ?_ | intro _); conv => whnf)
  refine cP (fun h0 => ?_) (fun h0 => ?_)
  · conv => whnf
    repeat ((first | refine oB (by first | omega | rfl | exact zM fun _ => rfl) ?_ | refine lM ?_ | refine lA ?_ | refine aM rfl (by omega) ?_ | refine aA rfl (by omega) ?_ | refine nC ?_); conv => whnf)
    exact dF fun e => by simp [e] at h0
  conv => whnf
  repeat ((first | refine oB (by first | omega | rfl | exact zM fun _ => rfl) ?_ | refine lM ?_ | refine lA ?_ | refine aM rfl (by omega) ?_ | refine aA rfl (by omega) ?_ | refine nC ?_ | intro _); conv => whnf)
  refine cP (fun h1 => ?_) (fun h1 => ?_)
  · conv => whnf
    repeat ((first | refine oB (by first | omega | rfl | exact zM fun _ => rfl) ?_ | refine lM ?_ | refine lA ?_ | refine aM rfl (by omega) ?_ | refine aA rfl (by omega) ?_ | refine nC ?_); conv => whnf)
    exact dF fun e => by simp [e] at h1
  conv => whnf
  repeat ((first | refine oB (by first | omega | rfl | exact zM fun _ => rfl) ?_ | refine lM ?_ | refine lA ?_ | refine aM rfl (by omega) ?_ | refine aA rfl (by omega) ?_ | refine nC ?_ | intro _); conv => whnf)
  refine cP (fun h2 => ?_) (fun h2 => ?_)
  · conv => whnf
    repeat ((first | refine oB (by first | omega | rfl | exact zM fun _ => rfl) ?_ | refine lM ?_ | refine lA ?_ | refine aM rfl (by omega) ?_ | refine aA rfl (by omega) ?_ | refine nC ?_); conv => whnf)
    exact dF fun e => by simp [e] at h2
  conv => whnf
  repeat ((first | refine oB (by first | omega | rfl | exact zM fun _ => rfl) ?_ | refine lM ?_ | refine lA ?_ | refine aM rfl (by omega) ?_ | refine aA rfl (by omega) ?_ | refine nC ?_ | refine c0 (f_laws_eqLeaseS W0 a.leases b.leases) rfl ?_ | intro _); conv => whnf)
  refine cP (fun h3 => ?_) (fun h3 => ?_)
  · conv => whnf
    repeat ((first | refine oB (by first | omega | rfl | exact zM fun _ => rfl) ?_ | refine lM ?_ | refine lA ?_ | refine aM rfl (by omega) ?_ | refine aA rfl (by omega) ?_ | refine nC ?_); conv => whnf)
    exact dF fun e => by simp [e] at h3
  conv => whnf
  repeat ((first | refine oB (by first | omega | rfl | exact zM fun _ => rfl) ?_ | refine lM ?_ | refine lA ?_ | refine aM rfl (by omega) ?_ | refine aA rfl (by omega) ?_ | refine nC ?_ | refine c0 (f_laws_eqHoldSS W0 a.holds b.holds) rfl ?_ | intro _); conv => whnf)
  refine cP (fun h4 => ?_) (fun h4 => ?_)
  · conv => whnf
    repeat ((first | refine oB (by first | omega | rfl | exact zM fun _ => rfl) ?_ | refine lM ?_ | refine lA ?_ | refine aM rfl (by omega) ?_ | refine aA rfl (by omega) ?_ | refine nC ?_); conv => whnf)
    exact dF fun e => by simp [e] at h4
  conv => whnf
  repeat ((first | refine oB (by first | omega | rfl | exact zM fun _ => rfl) ?_ | refine lM ?_ | refine lA ?_ | refine aM rfl (by omega) ?_ | refine aA rfl (by omega) ?_ | refine nC ?_ | refine c0 (f_laws_eqIntS W0 a.floors b.floors) rfl ?_ | intro _); conv => whnf)
  refine cP (fun h5 => ?_) (fun h5 => ?_)
  · conv => whnf
    repeat ((first | refine oB (by first | omega | rfl | exact zM fun _ => rfl) ?_ | refine lM ?_ | refine lA ?_ | refine aM rfl (by omega) ?_ | refine aA rfl (by omega) ?_ | refine nC ?_); conv => whnf)
    exact dF fun e => by simp [e] at h5
  conv => whnf
  repeat ((first | refine oB (by first | omega | rfl | exact zM fun _ => rfl) ?_ | refine lM ?_ | refine lA ?_ | refine aM rfl (by omega) ?_ | refine aA rfl (by omega) ?_ | refine nC ?_ | refine c0 (f_laws_eqMsgS W0 a.net b.net) rfl ?_ | intro _); conv => whnf)
  refine cP (fun h6 => ?_) (fun h6 => ?_)
  · conv => whnf
    repeat ((first | refine oB (by first | omega | rfl | exact zM fun _ => rfl) ?_ | refine lM ?_ | refine lA ?_ | refine aM rfl (by omega) ?_ | refine aA rfl (by omega) ?_ | refine nC ?_); conv => whnf)
    exact dF fun e => by simp [e] at h6
  conv => whnf
  repeat ((first | refine oB (by first | omega | rfl | exact zM fun _ => rfl) ?_ | refine lM ?_ | refine lA ?_ | refine aM rfl (by omega) ?_ | refine aA rfl (by omega) ?_ | refine nC ?_ | intro _); conv => whnf)
  refine cP (fun h7 => ?_) (fun h7 => ?_)
  · conv => whnf
    repeat ((first | refine oB (by first | omega | rfl | exact zM fun _ => rfl) ?_ | refine lM ?_ | refine lA ?_ | refine aM rfl (by omega) ?_ | refine aA rfl (by omega) ?_ | refine nC ?_); conv => whnf)
    exact dF fun e => by simp [e] at h7
  conv => whnf
  repeat ((first | refine oB (by first | omega | rfl | exact zM fun _ => rfl) ?_ | refine lM ?_ | refine lA ?_ | refine aM rfl (by omega) ?_ | refine aA rfl (by omega) ?_ | refine nC ?_ | refine c0 (f_eqOp W0 a.op b.op) rfl ?_ | intro _); conv => whnf)
  refine cP (fun h8 => ?_) (fun h8 => ?_)
  · conv => whnf
    repeat ((first | refine oB (by first | omega | rfl | exact zM fun _ => rfl) ?_ | refine lM ?_ | refine lA ?_ | refine aM rfl (by omega) ?_ | refine aA rfl (by omega) ?_ | refine nC ?_); conv => whnf)
    exact dF fun e => by simp [e] at h8
  conv => whnf
  repeat ((first | refine oB (by first | omega | rfl | exact zM fun _ => rfl) ?_ | refine lM ?_ | refine lA ?_ | refine aM rfl (by omega) ?_ | refine aA rfl (by omega) ?_ | refine nC ?_); conv => whnf)
  exact dT (by cases a; cases b; simp_all)


def c_spec_l5Lists : XC := (.s (.r [.ex 2 (.box (.t 0)), .ex 3 (.box (.t 1)), .ex 4 (.mv .n)]) (.s (.s (.r [.ex 8 (.fa 5 (.t 2)), .ex 9 (.ld false 1 (.t 8)), .ex 10 (.len false (.t 9)), .ex 11 (.fa 5 (.t 3)), .ex 12 (.ld false 1 (.t 11)), .ex 13 (.len false (.t 12)), .ex 14 (.bin .neq (.t 10) (.t 13)), .mv 15 14, .gf 16 (.fa 8 (.t 2)) 15, .gf 17 (.ld false 1 (.t 16)) 15, .gf 18 (.len false (.t 17)) 15, .gf 19 (.fa 8 (.t 3)) 15, .gf 20 (.ld false 1 (.t 19)) 15, .gf 21 (.len false (.t 20)) 15, .gf 22 (.bin .neq (.t 18) (.t 21)) 15, .ex 23 (.pick (.t 15) .y (.t 22)), .mv 24 23, .gf 25 (.fa 7 (.t 2)) 24, .gf 26 (.ld false 1 (.t 25)) 24, .gf 27 (.len false (.t 26)) 24, .gf 28 (.fa 7 (.t 3)) 24, .gf 29 (.ld false 1 (.t 28)) 24, .gf 30 (.len false (.t 29)) 24, .gf 31 (.bin .neq (.t 27) (.t 30)) 24, .ex 32 (.pick (.t 24) .y (.t 31)), .mv 33 32, .gf 34 (.fa 6 (.t 2)) 33, .gf 35 (.ld false 1 (.t 34)) 33, .gf 36 (.len false (.t 35)) 33, .gf 37 (.fa 6 (.t 3)) 33, .gf 38 (.ld false 1 (.t 37)) 33, .gf 39 (.len false (.t 38)) 33, .gf 40 (.bin .neq (.t 36) (.t 39)) 33, .ex 41 (.pick (.t 33) .y (.t 40))]) (.cnd (.t 41) (.s (.r [.ex 4 (.mv .n)]) .ret) .skip)) (.s (.s (.r [.ex 5 (.mv (.i 0))]) (.blk 0 (.loop (.s (.s (.r [.mv 42 5, .ex 43 (.fa 5 (.t 2)), .ex 44 (.ld false 1 (.t 43)), .ex 45 (.len false (.t 44)), .ex 46 (.bin .lss (.t 42) (.t 45))]) (.cnd (.t 46) .skip (.exit 0))) (.s (.blk 1 (.s (.d [.ex 49 (.fa 5 (.t 2)), .ex 50 (.ld false 1 (.t 49)), .mv 51 5, .ex 52 (.ia 4 (.t 50) (.t 51)), .ex 53 (.ld true 4 (.t 52)), .ex 54 (.fa 5 (.t 3)), .ex 55 (.ld false 1 (.t 54)), .mv 56 5, .ex 57 (.ia 4 (.t 55) (.t 56)), .ex 58 (.ld true 4 (.t 57)), .ex 59 (.beq true [(.i .i64), .s, (.i .i64), (.i .i64)] (.t 53) (.t 58))]) (.cnd (.t 59) (.s (.r [.ex 4 (.mv .n)]) .ret) .skip))) (.r [.mv 47 5, .ex 48 (.bin .add (.t 47) (.i 1)), .mv 5 48])))))) (.s (.s (.r [.ex 6 (.mv (.i 0))]) (.blk 2 (.loop (.s (.s (.r [.mv 60 6, .ex 61 (.fa 8 (.t 2)), .ex 62 (.ld false 1 (.t 61)), .ex 63 (.len false (.t 62)), .ex 64 (.bin .lss (.t 60) (.t 63))]) (.cnd (.t 64) .skip (.exit 2))) (.s (.blk 3 (.s (.d [.ex 67 (.fa 8 (.t 2)), .ex 68 (.ld false 1 (.t 67)), .mv 69 6, .ex 70 (.ia 9 (.t 68) (.t 69)), .ex 71 (.ld true 9 (.t 70)), .ex 72 (.fa 8 (.t 3)), .ex 73 (.ld false 1 (.t 72)), .mv 74 6, .ex 75 (.ia 9 (.t 73) (.t 74)), .ex 76 (.ld true 9 (.t 75)), .ex 77 (.beq true [(.i .i64), (.i .i64), .s, .b, .s, .b, .s, (.i .i64), (.i .i64)] (.t 71) (.t 76))]) (.cnd (.t 77) (.s (.r [.ex 4 (.mv .n)]) .ret) .skip))) (.r [.mv 65 6, .ex 66 (.bin .add (.t 65) (.i 1)), .mv 6 66])))))) (.s (.s (.r [.ex 7 (.mv (.i 0))]) (.blk 4 (.loop (.s (.s (.r [.mv 78 7, .ex 79 (.fa 7 (.t 2)), .ex 80 (.ld false 1 (.t 79)), .ex 81 (.len false (.t 80)), .ex 82 (.bin .lss (.t 78) (.t 81))]) (.cnd (.t 82) .skip (.exit 4))) (.s (.blk 5 (.s (.d [.ex 85 (.fa 7 (.t 2)), .ex 86 (.ld false 1 (.t 85)), .mv 87 7, .ex 88 (.ia 1 (.t 86) (.t 87)), .ex 89 (.ld false 1 (.t 88)), .ex 90 (.fa 7 (.t 3)), .ex 91 (.ld false 1 (.t 90)), .mv 92 7, .ex 93 (.ia 1 (.t 91) (.t 92)), .ex 94 (.ld false 1 (.t 93)), .ex 95 (.bin .neq (.t 89) (.t 94))]) (.cnd (.t 95) (.s (.r [.ex 4 (.mv .n)]) .ret) .skip))) (.r [.mv 83 7, .ex 84 (.bin .add (.t 83) (.i 1)), .mv 7 84])))))) (.s (.r [.ex 4 (.mv .y)]) .ret))))))
theorem c_spec_l5Lists_eq : compF Go.Proofs.Try.prog [] 40 = some (c_spec_l5Lists.ac, [(.t 4)], 96) := by kernel_rfl

theorem f_l5Lists (W0 : World) (a b : Wld) : Fn Go.Proofs.Try.prog W0 40 [eWld a, eWld b] (.c (CB (decide (a.leases = b.leases ∧ a.net = b.net ∧ a.floors = b.floors ∧ a.holds.length = b.holds.length)))) [] := by
  refine fnX (c := c_spec_l5Lists) mixed c_spec_l5Lists_eq (by simp) rfl fun hg => ?_
  have g0 := goodAgg (hg _ (by simp : eWld a ∈ _))
  have g1 : a.leases.length ≤ 9223372036854775807 := goodRow (g0 _ (by simp : eLeases a.leases ∈ _))
  have g2 : a.net.length ≤ 9223372036854775807 := goodRow (g0 _ (by simp : eMsgs a.net ∈ _))
  have g3 : a.floors.length ≤ 9223372036854775807 := goodRow (g0 _ (by simp : eInts a.floors ∈ _))
  conv => whnf
  repeat ((first | refine oB (by first | omega | rfl | exact zM fun _ => rfl) ?_ | refine lM ?_ | refine lA ?_ | refine aM rfl (by omega) ?_ | refine aA rfl (by omega) ?_ | refine nC ?_); conv => whnf)
  refine cP (fun h1 => ?_) (fun h1 => ?_)
  · conv => whnf
    repeat ((first | refine oB (by first | omega | rfl | exact zM fun _ => rfl) ?_ | refine lM ?_ | refine lA ?_ | refine aM rfl (by omega) ?_ | refine aA rfl (by omega) ?_ | refine nC ?_); conv => whnf)
    exact dF fun e => by simp [e] at h1
  conv => whnf
  repeat ((first | refine oB (by first | omega | rfl | exact zM fun _ => rfl) ?_ | refine lM ?_ | refine lA ?_ | refine aM rfl (by omega) ?_ | refine aA rfl (by omega) ?_ | refine nC ?_); conv => whnf)
  refine cP (fun h2 => ?_) (fun h2 => ?_)
  · conv => whnf
    repeat ((first | refine oB (by first | omega | rfl | exact zM fun _ => rfl) ?_ | refine lM ?_ | refine lA ?_ | refine aM rfl (by omega) ?_ | refine aA rfl (by omega) ?_ | refine nC ?_); conv => whnf)
    exact dF fun e => by simp [e] at h2
  conv => whnf
  repeat ((first | refine oB (by first | omega | rfl | exact zM fun _ => rfl) ?_ | refine lM ?_ | refine lA ?_ | refine aM rfl (by omega) ?_ | refine aA rfl (by omega) ?_ | refine nC ?_); conv => whnf)
  refine cP (fun h3 => ?_) (fun h3 => ?_)
  · conv => whnf
    repeat ((first | refine oB (by first | omega | rfl | exact zM fun _ => rfl) ?_ | refine lM ?_ | refine lA ?_ | refine aM rfl (by omega) ?_ | refine aA rfl (by omega) ?_ | refine nC ?_); conv => whnf)
    exact dF fun e => by simp [e] at h3
  conv => whnf
  repeat ((first | refine oB (by first | omega | rfl | exact zM fun _ => rfl) ?_ | refine lM ?_ | refine lA ?_ | refine aM rfl (by omega) ?_ | refine aA rfl (by omega) ?_ | refine nC ?_); conv => whnf)
  refine cP (fun h4 => ?_) (fun h4 => ?_)
  · conv => whnf
    repeat ((first | refine oB (by first | omega | rfl | exact zM fun _ => rfl) ?_ | refine lM ?_ | refine lA ?_ | refine aM rfl (by omega) ?_ | refine aA rfl (by omega) ?_ | refine nC ?_); conv => whnf)
    exact dF fun e => by simp [e] at h4
  conv => whnf
  repeat ((first | refine oB (by first | omega | rfl | exact zM fun _ => rfl) ?_ | refine lM ?_ | refine lA ?_ | refine aM rfl (by omega) ?_ | refine aA rfl (by omega) ?_ | refine nC ?_); conv => whnf)
  refine lp (σ := Nat) (fun k => [(2, .ptr 32 0), (3, .ptr 48 0), (5, I k)]) (fun _ => [(32, .box [.c (eEnts a.over.base), .c (eMarkss a.over.layers), .c (eMarks a.over.upper), I a.clock, I a.count, .c (eLeases a.leases), .c (eHoldss a.holds), .c (eInts a.floors), .c (eMsgs a.net), B a.waits, I a.op.kind, .c (CS a.op.path), .c (CS a.op.dest), .c (CS a.op.data)]), (48, .box [.c (eEnts b.over.base), .c (eMarkss b.over.layers), .c (eMarks b.over.upper), I b.clock, I b.count, .c (eLeases b.leases), .c (eHoldss b.holds), .c (eInts b.floors), .c (eMsgs b.net), B b.waits, I b.op.kind, .c (CS b.op.path), .c (CS b.op.dest), .c (CS b.op.data)])]) (fun k => k ≤ a.leases.length ∧ a.leases.take k = b.leases.take k) (fun k => a.leases.length - k) 0 ⟨by simp, by simp⟩ ?_ ?_
  · conv => whnf
    repeat ((first | refine oB (by first | omega | rfl | exact zM fun _ => rfl) ?_ | refine lM ?_ | refine lA ?_ | refine aM rfl (by omega) ?_ | refine aA rfl (by omega) ?_ | refine nC ?_); conv => whnf)
    trivial
  rintro k ⟨hk, he⟩
  conv => whnf
  repeat ((first | refine oB (by first | omega | rfl | exact zM fun _ => rfl) ?_ | refine lM ?_ | refine lA ?_ | refine aM rfl (by omega) ?_ | refine aA rfl (by omega) ?_ | refine nC ?_); conv => whnf)
  refine cP (fun h5 => ?_) (fun h5 => ?_)
  · conv => whnf
    repeat ((first | refine oB (by first | omega | rfl | exact zM fun _ => rfl) ?_ | refine lM ?_ | refine lA ?_ | refine aM rfl (by omega) ?_ | refine aA rfl (by omega) ?_ | refine nC ?_); conv => whnf)
    rw [bqLease]
    refine cP (fun h6 => ?_) (fun h6 => ?_)
    · conv => whnf
      repeat ((first | refine oB (by first | omega | rfl | exact zM fun _ => rfl) ?_ | refine lM ?_ | refine lA ?_ | refine aM rfl (by omega) ?_ | refine aA rfl (by omega) ?_ | refine nC ?_); conv => whnf)
      have := ne_at (a := a.leases) (b := b.leases) (k := k) (by omega) (by omega) h6
      exact dF fun e => this e.1
    · conv => whnf
      repeat ((first | refine oB (by first | omega | rfl | exact zM fun _ => rfl) ?_ | refine lM ?_ | refine lA ?_ | refine aM rfl (by omega) ?_ | refine aA rfl (by omega) ?_ | refine nC ?_); conv => whnf)
      refine ⟨k + 1, ⟨by omega, take_next (by omega) (by omega) he h6⟩, by omega, ?_⟩
      conv => whnf
      repeat ((first | refine oB (by first | omega | rfl | exact zM fun _ => rfl) ?_ | refine lM ?_ | refine lA ?_ | refine aM rfl (by omega) ?_ | refine aA rfl (by omega) ?_ | refine nC ?_); conv => whnf)
      trivial
  have el : a.leases = b.leases := eq_of_takes (by omega) (by rw [show a.leases.length = k by omega]; exact he)
  clear he hk
  conv => whnf
  repeat ((first | refine oB (by first | omega | rfl | exact zM fun _ => rfl) ?_ | refine lM ?_ | refine lA ?_ | refine aM rfl (by omega) ?_ | refine aA rfl (by omega) ?_ | refine nC ?_); conv => whnf)
  refine lp (σ := Nat) (fun k => [(2, .ptr 32 0), (3, .ptr 48 0), (6, I k)]) (fun _ => [(32, .box [.c (eEnts a.over.base), .c (eMarkss a.over.layers), .c (eMarks a.over.upper), I a.clock, I a.count, .c (eLeases a.leases), .c (eHoldss a.holds), .c (eInts a.floors), .c (eMsgs a.net), B a.waits, I a.op.kind, .c (CS a.op.path), .c (CS a.op.dest), .c (CS a.op.data)]), (48, .box [.c (eEnts b.over.base), .c (eMarkss b.over.layers), .c (eMarks b.over.upper), I b.clock, I b.count, .c (eLeases b.leases), .c (eHoldss b.holds), .c (eInts b.floors), .c (eMsgs b.net), B b.waits, I b.op.kind, .c (CS b.op.path), .c (CS b.op.dest), .c (CS b.op.data)])]) (fun k => k ≤ a.net.length ∧ a.net.take k = b.net.take k) (fun k => a.net.length - k) 0 ⟨by simp, by simp⟩ ?_ ?_
  · conv => whnf
    repeat ((first | refine oB (by first | omega | rfl | exact zM fun _ => rfl) ?_ | refine lM ?_ | refine lA ?_ | refine aM rfl (by omega) ?_ | refine aA rfl (by omega) ?_ | refine nC ?_); conv => whnf)
    trivial
  rintro k ⟨hk, he⟩
  conv => whnf
  repeat ((first | refine oB (by first | omega | rfl | exact zM fun _ => rfl) ?_ | refine lM ?_ | refine lA ?_ | refine aM rfl (by omega) ?_ | refine aA rfl (by omega) ?_ | refine nC ?_); conv => whnf)
  refine cP (fun h6 => ?_) (fun h6 => ?_)
  · conv => whnf
    repeat ((first | refine oB (by first | omega | rfl | exact zM fun _ => rfl) ?_ | refine lM ?_ | refine lA ?_ | refine aM rfl (by omega) ?_ | refine aA rfl (by omega) ?_ | refine nC ?_); conv => whnf)
    rw [bqMsg]
    refine cP (fun h7 => ?_) (fun h7 => ?_)
    · conv => whnf
      repeat ((first | refine oB (by first | omega | rfl | exact zM fun _ => rfl) ?_ | refine lM ?_ | refine lA ?_ | refine aM rfl (by omega) ?_ | refine aA rfl (by omega) ?_ | refine nC ?_); conv => whnf)
      have := ne_at (a := a.net) (b := b.net) (k := k) (by omega) (by omega) h7
      exact dF fun e => this e.2.1
    · conv => whnf
      repeat ((first | refine oB (by first | omega | rfl | exact zM fun _ => rfl) ?_ | refine lM ?_ | refine lA ?_ | refine aM rfl (by omega) ?_ | refine aA rfl (by omega) ?_ | refine nC ?_); conv => whnf)
      refine ⟨k + 1, ⟨by omega, take_next (by omega) (by omega) he h7⟩, by omega, ?_⟩
      conv => whnf
      repeat ((first | refine oB (by first | omega | rfl | exact zM fun _ => rfl) ?_ | refine lM ?_ | refine lA ?_ | refine aM rfl (by omega) ?_ | refine aA rfl (by omega) ?_ | refine nC ?_); conv => whnf)
      trivial
  have en : a.net = b.net := eq_of_takes (by omega) (by rw [show a.net.length = k by omega]; exact he)
  clear he hk
  conv => whnf
  repeat ((first | refine oB (by first | omega | rfl | exact zM fun _ => rfl) ?_ | refine lM ?_ | refine lA ?_ | refine aM rfl (by omega) ?_ | refine aA rfl (by omega) ?_ | refine nC ?_); conv => whnf)
  refine lp (σ := Nat) (fun k => [(2, .ptr 32 0), (3, .ptr 48 0), (7, I k)]) (fun _ => [(32, .box [.c (eEnts a.over.base), .c (eMarkss a.over.layers), .c (eMarks a.over.upper), I a.clock, I a.count, .c (eLeases a.leases), .c (eHoldss a.holds), .c (eInts a.floors), .c (eMsgs a.net), B a.waits, I a.op.kind, .c (CS a.op.path), .c (CS a.op.dest), .c (CS a.op.data)]), (48, .box [.c (eEnts b.over.base), .c (eMarkss b.over.layers), .c (eMarks b.over.upper), I b.clock, I b.count, .c (eLeases b.leases), .c (eHoldss b.holds), .c (eInts b.floors), .c (eMsgs b.net), B b.waits, I b.op.kind, .c (CS b.op.path), .c (CS b.op.dest), .c (CS b.op.data)])]) (fun k => k ≤ a.floors.length ∧ a.floors.take k = b.floors.take k) (fun k => a.floors.length - k) 0 ⟨by simp, by simp⟩ ?_ ?_
  · conv => whnf
    repeat ((first | refine oB (by first | omega | rfl | exact zM fun _ => rfl) ?_ | refine lM ?_ | refine lA ?_ | refine aM rfl (by omega) ?_ | refine aA rfl (by omega) ?_ | refine nC ?_); conv => whnf)
    trivial
  rintro k ⟨hk, he⟩
  conv => whnf
  repeat ((first | refine oB (by first | omega | rfl | exact zM fun _ => rfl) ?_ | refine lM ?_ | refine lA ?_ | refine aM rfl (by omega) ?_ | refine aA rfl (by omega) ?_ | refine nC ?_); conv => whnf)
  refine cP (fun h7 => ?_) (fun h7 => ?_)
  · conv => whnf
    repeat ((first | refine oB (by first | omega | rfl | exact zM fun _ => rfl) ?_ | refine lM ?_ | refine lA ?_ | refine aM rfl (by omega) ?_ | refine aA rfl (by omega) ?_ | refine nC ?_); conv => whnf)
    refine cP (fun h8 => ?_) (fun h8 => ?_)
    · conv => whnf
      repeat ((first | refine oB (by first | omega | rfl | exact zM fun _ => rfl) ?_ | refine lM ?_ | refine lA ?_ | refine aM rfl (by omega) ?_ | refine aA rfl (by omega) ?_ | refine nC ?_); conv => whnf)
      have := ne_at (a := a.floors) (b := b.floors) (k := k) (by omega) (by omega) h8
      exact dF fun e => this e.2.2.1
    · conv => whnf
      repeat ((first | refine oB (by first | omega | rfl | exact zM fun _ => rfl) ?_ | refine lM ?_ | refine lA ?_ | refine aM rfl (by omega) ?_ | refine aA rfl (by omega) ?_ | refine nC ?_); conv => whnf)
      refine ⟨k + 1, ⟨by omega, take_next (by omega) (by omega) he h8⟩, by omega, ?_⟩
      conv => whnf
      repeat ((first | refine oB (by first | omega | rfl | exact zM fun _ => rfl) ?_ | refine lM ?_ | refine lA ?_ | refine aM rfl (by omega) ?_ | refine aA rfl (by omega) ?_ | refine nC ?_); conv => whnf)
      trivial
  have ef : a.floors = b.floors := eq_of_takes (by omega) (by rw [show a.floors.length = k by omega]; exact he)
  conv => whnf
  repeat ((first | refine oB (by first | omega | rfl | exact zM fun _ => rfl) ?_ | refine lM ?_ | refine lA ?_ | refine aM rfl (by omega) ?_ | refine aA rfl (by omega) ?_ | refine nC ?_); conv => whnf)
  exact dT ⟨el, en, ef, by omega⟩


def c_spec_WorldSame : XC := (.s (.r [.ex 2 (.box (.t 0)), .ex 3 (.box (.t 1)), .ex 4 (.mv .n)]) (.s (.s (.r [.ex 6 (.fa 0 (.t 2)), .ex 7 (.ld true 3 (.t 6)), .ex 8 (.fa 0 (.t 3)), .ex 9 (.ld true 3 (.t 8)), .ex 10 (.call 7 [(.t 7), (.t 9)]), .ex 11 (.un .not (.t 10)), .mv 12 11, .gf 13 (.fa 3 (.t 2)) 12, .gf 14 (.ld false 1 (.t 13)) 12, .gf 15 (.fa 3 (.t 3)) 12, .gf 16 (.ld false 1 (.t 15)) 12, .gf 17 (.bin .neq (.t 14) (.t 16)) 12, .ex 18 (.pick (.t 12) .y (.t 17)), .mv 19 18, .gf 20 (.fa 4 (.t 2)) 19, .gf 21 (.ld false 1 (.t 20)) 19, .gf 22 (.fa 4 (.t 3)) 19, .gf 23 (.ld false 1 (.t 22)) 19, .gf 24 (.bin .neq (.t 21) (.t 23)) 19, .ex 25 (.pick (.t 19) .y (.t 24)), .mv 26 25, .gf 27 (.fa 9 (.t 2)) 26, .gf 28 (.ld false 1 (.t 27)) 26, .gf 29 (.fa 9 (.t 3)) 26, .gf 30 (.ld false 1 (.t 29)) 26, .gf 31 (.bb true (.t 28) (.t 30)) 26, .ex 32 (.pick (.t 26) .y (.t 31)), .mv 33 32, .gf 34 (.fa 10 (.t 2)) 33, .gf 35 (.ld true 4 (.t 34)) 33, .gf 36 (.fa 10 (.t 3)) 33, .gf 37 (.ld true 4 (.t 36)) 33, .gf 38 (.beq true [(.i .i64), .s, .s, .s] (.t 35) (.t 37)) 33, .ex 39 (.pick (.t 33) .y (.t 38)), .mv 40 39, .gf 41 (.ld true 14 (.t 2)) 40, .gf 42 (.ld true 14 (.t 3)) 40, .gf 43 (.call 40 [(.t 41), (.t 42)]) 40, .gf 44 (.un .not (.t 43)) 40, .ex 45 (.pick (.t 40) .y (.t 44))]) (.cnd (.t 45) (.s (.r [.ex 4 (.mv .n)]) .ret) .skip)) (.s (.s (.r [.ex 5 (.mv (.i 0))]) (.blk 0 (.loop (.s (.s (.r [.mv 46 5, .ex 47 (.fa 6 (.t 2)), .ex 48 (.ld false 1 (.t 47)), .ex 49 (.len false (.t 48)), .ex 50 (.bin .lss (.t 46) (.t 49))]) (.cnd (.t 50) .skip (.exit 0))) (.s (.blk 1 (.s (.d [.ex 53 (.fa 6 (.t 2)), .ex 54 (.ld false 1 (.t 53)), .mv 55 5, .ex 56 (.ia 1 (.t 54) (.t 55)), .ex 57 (.ld false 1 (.t 56)), .ex 58 (.fa 6 (.t 3)), .ex 59 (.ld false 1 (.t 58)), .mv 60 5, .ex 61 (.ia 1 (.t 59) (.t 60)), .ex 62 (.ld false 1 (.t 61)), .ex 63 (.call 41 [(.t 57), (.t 62)]), .ex 64 (.un .not (.t 63))]) (.cnd (.t 64) (.s (.r [.ex 4 (.mv .n)]) .ret) .skip))) (.r [.mv 51 5, .ex 52 (.bin .add (.t 51) (.i 1)), .mv 5 52])))))) (.s (.r [.ex 4 (.mv .y)]) .ret))))
theorem c_spec_WorldSame_eq : compF Go.Proofs.Try.prog [] 12 = some (c_spec_WorldSame.ac, [(.t 4)], 65) := by kernel_rfl

theorem f_spec_WorldSame (W0 : World) (a b : Wld) : Fn Go.Proofs.Try.prog W0 12 [eWld a, eWld b] (.c (CB (decide (a = b)))) [] := by
  refine fnX (c := c_spec_WorldSame) mixed c_spec_WorldSame_eq (by simp) rfl fun hg => ?_
  have g0 := goodAgg (hg _ (by simp : eWld a ∈ _))
  have g1 : a.holds.length ≤ 9223372036854775807 := goodRow (g0 _ (by simp : eHoldss a.holds ∈ _))
  conv => whnf
  repeat ((first | refine oB (by first | omega | rfl | exact zM fun _ => rfl) ?_ | refine lM ?_ | refine lA ?_ | refine aM rfl (by omega) ?_ | refine aA rfl (by omega) ?_ | refine nC ?_ | refine c0 (f_spec_OverSame W0 a.over b.over) rfl ?_); conv => whnf)
  refine cP (fun h1 => ?_) (fun h1 => ?_)
  · conv => whnf
    repeat ((first | refine oB (by first | omega | rfl | exact zM fun _ => rfl) ?_ | refine lM ?_ | refine lA ?_ | refine aM rfl (by omega) ?_ | refine aA rfl (by omega) ?_ | refine nC ?_); conv => whnf)
    exact dF fun e => by simp [e] at h1
  conv => whnf
  repeat ((first | refine oB (by first | omega | rfl | exact zM fun _ => rfl) ?_ | refine lM ?_ | refine lA ?_ | refine aM rfl (by omega) ?_ | refine aA rfl (by omega) ?_ | refine nC ?_); conv => whnf)
  refine cP (fun h2 => ?_) (fun h2 => ?_)
  · conv => whnf
    repeat ((first | refine oB (by first | omega | rfl | exact zM fun _ => rfl) ?_ | refine lM ?_ | refine lA ?_ | refine aM rfl (by omega) ?_ | refine aA rfl (by omega) ?_ | refine nC ?_); conv => whnf)
    exact dF fun e => by simp [e] at h2
  conv => whnf
  repeat ((first | refine oB (by first | omega | rfl | exact zM fun _ => rfl) ?_ | refine lM ?_ | refine lA ?_ | refine aM rfl (by omega) ?_ | refine aA rfl (by omega) ?_ | refine nC ?_); conv => whnf)
  refine cP (fun h3 => ?_) (fun h3 => ?_)
  · conv => whnf
    repeat ((first | refine oB (by first | omega | rfl | exact zM fun _ => rfl) ?_ | refine lM ?_ | refine lA ?_ | refine aM rfl (by omega) ?_ | refine aA rfl (by omega) ?_ | refine nC ?_); conv => whnf)
    exact dF fun e => by simp [e] at h3
  conv => whnf
  repeat ((first | refine oB (by first | omega | rfl | exact zM fun _ => rfl) ?_ | refine lM ?_ | refine lA ?_ | refine aM rfl (by omega) ?_ | refine aA rfl (by omega) ?_ | refine nC ?_); conv => whnf)
  refine cP (fun h4 => ?_) (fun h4 => ?_)
  · conv => whnf
    repeat ((first | refine oB (by first | omega | rfl | exact zM fun _ => rfl) ?_ | refine lM ?_ | refine lA ?_ | refine aM rfl (by omega) ?_ | refine aA rfl (by omega) ?_ | refine nC ?_); conv => whnf)
    exact dF fun e => by simp [e] at h4
  conv => whnf
  repeat ((first | refine oB (by first | omega | rfl | exact zM fun _ => rfl) ?_ | refine lM ?_ | refine lA ?_ | refine aM rfl (by omega) ?_ | refine aA rfl (by omega) ?_ | refine nC ?_); conv => whnf)
  rw [bqOp]
  refine cP (fun h5 => ?_) (fun h5 => ?_)
  · conv => whnf
    repeat ((first | refine oB (by first | omega | rfl | exact zM fun _ => rfl) ?_ | refine lM ?_ | refine lA ?_ | refine aM rfl (by omega) ?_ | refine aA rfl (by omega) ?_ | refine nC ?_); conv => whnf)
    exact dF fun e => by simp [e] at h5
  conv => whnf
  repeat ((first | refine oB (by first | omega | rfl | exact zM fun _ => rfl) ?_ | refine lM ?_ | refine lA ?_ | refine aM rfl (by omega) ?_ | refine aA rfl (by omega) ?_ | refine nC ?_ | refine c0 (f_l5Lists W0 a b) rfl ?_); conv => whnf)
  refine cP (fun h6 => ?_) (fun h6 => ?_)
  · conv => whnf
    repeat ((first | refine oB (by first | omega | rfl | exact zM fun _ => rfl) ?_ | refine lM ?_ | refine lA ?_ | refine aM rfl (by omega) ?_ | refine aA rfl (by omega) ?_ | refine nC ?_); conv => whnf)
    exact dF fun e => by simp [e] at h6
  conv => whnf
  repeat ((first | refine oB (by first | omega | rfl | exact zM fun _ => rfl) ?_ | refine lM ?_ | refine lA ?_ | refine aM rfl (by omega) ?_ | refine aA rfl (by omega) ?_ | refine nC ?_); conv => whnf)
  refine lp (σ := Nat) (fun k => [(2, .ptr 32 0), (3, .ptr 48 0), (5, I k)]) (fun _ => [(32, .box [.c (eEnts a.over.base), .c (eMarkss a.over.layers), .c (eMarks a.over.upper), I a.clock, I a.count, .c (eLeases a.leases), .c (eHoldss a.holds), .c (eInts a.floors), .c (eMsgs a.net), B a.waits, I a.op.kind, .c (CS a.op.path), .c (CS a.op.dest), .c (CS a.op.data)]), (48, .box [.c (eEnts b.over.base), .c (eMarkss b.over.layers), .c (eMarks b.over.upper), I b.clock, I b.count, .c (eLeases b.leases), .c (eHoldss b.holds), .c (eInts b.floors), .c (eMsgs b.net), B b.waits, I b.op.kind, .c (CS b.op.path), .c (CS b.op.dest), .c (CS b.op.data)])]) (fun k => k ≤ a.holds.length ∧ a.holds.take k = b.holds.take k) (fun k => a.holds.length - k) 0 ⟨by simp, by simp⟩ ?_ ?_
  · conv => whnf
    repeat ((first | refine oB (by first | omega | rfl | exact zM fun _ => rfl) ?_ | refine lM ?_ | refine lA ?_ | refine aM rfl (by omega) ?_ | refine aA rfl (by omega) ?_ | refine nC ?_); conv => whnf)
    trivial
  rintro k ⟨hk, he⟩
  conv => whnf
  repeat ((first | refine oB (by first | omega | rfl | exact zM fun _ => rfl) ?_ | refine lM ?_ | refine lA ?_ | refine aM rfl (by omega) ?_ | refine aA rfl (by omega) ?_ | refine nC ?_); conv => whnf)
  refine cP (fun h7 => ?_) (fun h7 => ?_)
  · conv => whnf
    repeat ((first | refine oB (by first | omega | rfl | exact zM fun _ => rfl) ?_ | refine lM ?_ | refine lA ?_ | refine aM rfl (by omega) ?_ | refine aA rfl (by omega) ?_ | refine nC ?_ | refine c0 (f_spec_l5Holds W0 _ _) rfl ?_); conv => whnf)
    refine cP (fun h8 => ?_) (fun h8 => ?_)
    · conv => whnf
      repeat ((first | refine oB (by first | omega | rfl | exact zM fun _ => rfl) ?_ | refine lM ?_ | refine lA ?_ | refine aM rfl (by omega) ?_ | refine aA rfl (by omega) ?_ | refine nC ?_); conv => whnf)
      have := ne_at (a := a.holds) (b := b.holds) (k := k) (by omega) (by omega) h8
      exact dF fun e => this (by rw [e])
    · conv => whnf
      repeat ((first | refine oB (by first | omega | rfl | exact zM fun _ => rfl) ?_ | refine lM ?_ | refine lA ?_ | refine aM rfl (by omega) ?_ | refine aA rfl (by omega) ?_ | refine nC ?_); conv => whnf)
      refine ⟨k + 1, ⟨by omega, take_next (by omega) (by omega) he h8⟩, by omega, ?_⟩
      conv => whnf
      repeat ((first | refine oB (by first | omega | rfl | exact zM fun _ => rfl) ?_ | refine lM ?_ | refine lA ?_ | refine aM rfl (by omega) ?_ | refine aA rfl (by omega) ?_ | refine nC ?_); conv => whnf)
      trivial
  have eh : a.holds = b.holds := eq_of_takes (by omega) (by rw [show a.holds.length = k by omega]; exact he)
  conv => whnf
  repeat ((first | refine oB (by first | omega | rfl | exact zM fun _ => rfl) ?_ | refine lM ?_ | refine lA ?_ | refine aM rfl (by omega) ?_ | refine aA rfl (by omega) ?_ | refine nC ?_); conv => whnf)
  exact dT (by cases a; cases b; simp_all)


def c_impl_WorldSame : XC := (.s (.r [.ex 2 (.box (.t 0)), .ex 3 (.box (.t 1)), .ex 4 (.mv .n)]) (.s (.r [.ex 5 (.mv (.k (.c (.sc (.func (.func 47) #[] #[])))))]) (.s (.r [.ex 6 (.fa 0 (.t 2)), .ex 7 (.ld true 3 (.t 6)), .ex 8 (.fa 0 (.t 3)), .ex 9 (.ld true 3 (.t 8)), .ex 10 (.call 9 [(.t 7), (.t 9)]), .mv 11 10, .gt 12 (.fa 3 (.t 2)) 11, .gt 13 (.ld false 1 (.t 12)) 11, .gt 14 (.fa 3 (.t 3)) 11, .gt 15 (.ld false 1 (.t 14)) 11, .gt 16 (.bin .eql (.t 13) (.t 15)) 11, .ex 17 (.pick (.t 11) (.t 16) .n), .mv 18 17, .gt 19 (.fa 4 (.t 2)) 18, .gt 20 (.ld false 1 (.t 19)) 18, .gt 21 (.fa 4 (.t 3)) 18, .gt 22 (.ld false 1 (.t 21)) 18, .gt 23 (.bin .eql (.t 20) (.t 22)) 18, .ex 24 (.pick (.t 18) (.t 23) .n), .mv 25 24, .gt 26 (.fa 5 (.t 2)) 25, .gt 27 (.ld false 1 (.t 26)) 25, .gt 28 (.fa 5 (.t 3)) 25, .gt 29 (.ld false 1 (.t 28)) 25, .gt 30 (.call 49 [(.t 27), (.t 29)]) 25, .ex 31 (.pick (.t 25) (.t 30) .n), .mv 32 31, .gt 33 (.fa 6 (.t 2)) 32, .gt 34 (.ld false 1 (.t 33)) 32, .gt 35 (.fa 6 (.t 3)) 32, .gt 36 (.ld false 1 (.t 35)) 32, .gt 37 (.mv (.t 5)) 32, .gt 38 (.call 50 [(.t 34), (.t 36), (.t 37)]) 32, .ex 39 (.pick (.t 32) (.t 38) .n), .mv 40 39, .gt 41 (.fa 7 (.t 2)) 40, .gt 42 (.ld false 1 (.t 41)) 40, .gt 43 (.fa 7 (.t 3)) 40, .gt 44 (.ld false 1 (.t 43)) 40, .gt 45 (.call 51 [(.t 42), (.t 44)]) 40, .ex 46 (.pick (.t 40) (.t 45) .n), .mv 47 46, .gt 48 (.fa 8 (.t 2)) 47, .gt 49 (.ld false 1 (.t 48)) 47, .gt 50 (.fa 8 (.t 3)) 47, .gt 51 (.ld false 1 (.t 50)) 47, .gt 52 (.call 52 [(.t 49), (.t 51)]) 47, .ex 53 (.pick (.t 47) (.t 52) .n), .mv 54 53, .gt 55 (.fa 9 (.t 2)) 54, .gt 56 (.ld false 1 (.t 55)) 54, .gt 57 (.fa 9 (.t 3)) 54, .gt 58 (.ld false 1 (.t 57)) 54, .gt 59 (.bb false (.t 56) (.t 58)) 54, .ex 60 (.pick (.t 54) (.t 59) .n), .mv 61 60, .gt 62 (.fa 10 (.t 2)) 61, .gt 63 (.ld true 4 (.t 62)) 61, .gt 64 (.fa 10 (.t 3)) 61, .gt 65 (.ld true 4 (.t 64)) 61, .gt 66 (.beq false [(.i .i64), .s, .s, .s] (.t 63) (.t 65)) 61, .ex 67 (.pick (.t 61) (.t 66) .n), .mv 4 67]) .ret)))
theorem c_impl_WorldSame_eq : compF Go.Proofs.Try.prog [] 14 = some (c_impl_WorldSame.ac, [(.t 4)], 68) := by kernel_rfl

theorem f_impl_WorldSame (W0 : World) (a b : Wld) : Fn Go.Proofs.Try.prog W0 14 [eWld a, eWld b] (.c (CB (decide (a = b)))) [] := by
  refine fnX (c := c_impl_WorldSame) mixed c_impl_WorldSame_eq (by simp) rfl fun hg => ?_
  conv => whnf
  repeat ((first | refine oB (by first | omega | rfl | exact zM fun _ => rfl) ?_ | refine lM ?_ | refine lA ?_ | refine aM rfl (by omega) ?_ | refine aA rfl (by omega) ?_ | refine nC ?_ | refine c0 (f_impl_OverSame W0 a.over b.over) rfl ?_); conv => whnf)
  refine cP (fun h1 => ?_) (fun h1 => ?_)
  rotate_left
  · conv => whnf
    repeat ((first | refine oB (by first | omega | rfl | exact zM fun _ => rfl) ?_ | refine lM ?_ | refine lA ?_ | refine aM rfl (by omega) ?_ | refine aA rfl (by omega) ?_ | refine nC ?_); conv => whnf)
    exact dF fun e => by simp [e] at h1
  conv => whnf
  repeat ((first | refine oB (by first | omega | rfl | exact zM fun _ => rfl) ?_ | refine lM ?_ | refine lA ?_ | refine aM rfl (by omega) ?_ | refine aA rfl (by omega) ?_ | refine nC ?_); conv => whnf)
  refine cP (fun h2 => ?_) (fun h2 => ?_)
  rotate_left
  · conv => whnf
    repeat ((first | refine oB (by first | omega | rfl | exact zM fun _ => rfl) ?_ | refine lM ?_ | refine lA ?_ | refine aM rfl (by omega) ?_ | refine aA rfl (by omega) ?_ | refine nC ?_); conv => whnf)
    exact dF fun e => by simp [e] at h2
  conv => whnf
  repeat ((first | refine oB (by first | omega | rfl | exact zM fun _ => rfl) ?_ | refine lM ?_ | refine lA ?_ | refine aM rfl (by omega) ?_ | refine aA rfl (by omega) ?_ | refine nC ?_); conv => whnf)
  refine cP (fun h3 => ?_) (fun h3 => ?_)
  rotate_left
  · conv => whnf
    repeat ((first | refine oB (by first | omega | rfl | exact zM fun _ => rfl) ?_ | refine lM ?_ | refine lA ?_ | refine aM rfl (by omega) ?_ | refine aA rfl (by omega) ?_ | refine nC ?_); conv => whnf)
    exact dF fun e => by simp [e] at h3
  conv => whnf
  repeat ((first | refine oB (by first | omega | rfl | exact zM fun _ => rfl) ?_ | refine lM ?_ | refine lA ?_ | refine aM rfl (by omega) ?_ | refine aA rfl (by omega) ?_ | refine nC ?_ | refine c0 (f_EqLease W0 a.leases b.leases) rfl ?_); conv => whnf)
  refine cP (fun h4 => ?_) (fun h4 => ?_)
  rotate_left
  · conv => whnf
    repeat ((first | refine oB (by first | omega | rfl | exact zM fun _ => rfl) ?_ | refine lM ?_ | refine lA ?_ | refine aM rfl (by omega) ?_ | refine aA rfl (by omega) ?_ | refine nC ?_); conv => whnf)
    exact dF fun e => by simp [e] at h4
  conv => whnf
  repeat ((first | refine oB (by first | omega | rfl | exact zM fun _ => rfl) ?_ | refine lM ?_ | refine lA ?_ | refine aM rfl (by omega) ?_ | refine aA rfl (by omega) ?_ | refine nC ?_ | refine c0 (f_EqFH W0 a.holds b.holds) rfl ?_); conv => whnf)
  refine cP (fun h5 => ?_) (fun h5 => ?_)
  rotate_left
  · conv => whnf
    repeat ((first | refine oB (by first | omega | rfl | exact zM fun _ => rfl) ?_ | refine lM ?_ | refine lA ?_ | refine aM rfl (by omega) ?_ | refine aA rfl (by omega) ?_ | refine nC ?_); conv => whnf)
    exact dF fun e => by simp [e] at h5
  conv => whnf
  repeat ((first | refine oB (by first | omega | rfl | exact zM fun _ => rfl) ?_ | refine lM ?_ | refine lA ?_ | refine aM rfl (by omega) ?_ | refine aA rfl (by omega) ?_ | refine nC ?_ | refine c0 (f_EqInt W0 a.floors b.floors) rfl ?_); conv => whnf)
  refine cP (fun h6 => ?_) (fun h6 => ?_)
  rotate_left
  · conv => whnf
    repeat ((first | refine oB (by first | omega | rfl | exact zM fun _ => rfl) ?_ | refine lM ?_ | refine lA ?_ | refine aM rfl (by omega) ?_ | refine aA rfl (by omega) ?_ | refine nC ?_); conv => whnf)
    exact dF fun e => by simp [e] at h6
  conv => whnf
  repeat ((first | refine oB (by first | omega | rfl | exact zM fun _ => rfl) ?_ | refine lM ?_ | refine lA ?_ | refine aM rfl (by omega) ?_ | refine aA rfl (by omega) ?_ | refine nC ?_ | refine c0 (f_EqMsg W0 a.net b.net) rfl ?_); conv => whnf)
  refine cP (fun h7 => ?_) (fun h7 => ?_)
  rotate_left
  · conv => whnf
    repeat ((first | refine oB (by first | omega | rfl | exact zM fun _ => rfl) ?_ | refine lM ?_ | refine lA ?_ | refine aM rfl (by omega) ?_ | refine aA rfl (by omega) ?_ | refine nC ?_); conv => whnf)
    exact dF fun e => by simp [e] at h7
  conv => whnf
  repeat ((first | refine oB (by first | omega | rfl | exact zM fun _ => rfl) ?_ | refine lM ?_ | refine lA ?_ | refine aM rfl (by omega) ?_ | refine aA rfl (by omega) ?_ | refine nC ?_); conv => whnf)
  refine cP (fun h8 => ?_) (fun h8 => ?_)
  rotate_left
  · conv => whnf
    repeat ((first | refine oB (by first | omega | rfl | exact zM fun _ => rfl) ?_ | refine lM ?_ | refine lA ?_ | refine aM rfl (by omega) ?_ | refine aA rfl (by omega) ?_ | refine nC ?_); conv => whnf)
    exact dF fun e => by simp [e] at h8
  conv => whnf
  repeat ((first | refine oB (by first | omega | rfl | exact zM fun _ => rfl) ?_ | refine lM ?_ | refine lA ?_ | refine aM rfl (by omega) ?_ | refine aA rfl (by omega) ?_ | refine nC ?_); conv => whnf)
  rw [bqOp]
  exact congrArg CB (by cases a; cases b; simp_all)


def c_laws_FnExactWorldSame : XC := (.s (.r [.ex 2 (.box (.t 0)), .ex 3 (.box (.t 1)), .ex 4 (.mv .n)]) (.s (.r [.ex 5 (.mv (.i 1048576))]) (.s (.r [.ex 10 (.ld true 14 (.t 2)), .mv 11 5, .ex 12 (.call 11 [(.t 10), (.t 11)]), .mv 5 12]) (.s (.s (.r [.mv 13 5, .ex 14 (.bin .lss (.t 13) (.i 0))]) (.cnd (.t 14) (.s (.r [.ex 4 (.mv .y)]) .ret) .skip)) (.s (.r [.ex 15 (.ld true 14 (.t 3)), .mv 16 5, .ex 17 (.call 11 [(.t 15), (.t 16)]), .mv 5 17]) (.s (.s (.r [.mv 18 5, .ex 19 (.bin .lss (.t 18) (.i 0))]) (.cnd (.t 19) (.s (.r [.ex 4 (.mv .y)]) .ret) .skip)) (.s (.d [.ex 20 (.ld true 14 (.t 2)), .ex 21 (.call 13 [(.t 20)]), .ex 22 (.ld true 14 (.t 3)), .ex 23 (.call 13 [(.t 22)]), .ex 24 (.call 12 [(.t 21), (.t 23)]), .mv 6 24]) (.s (.r [.ex 25 (.ld true 14 (.t 2)), .ex 26 (.call 13 [(.t 25)]), .ex 7 (.alloc [.nil, .nil, .nil, (.c (.sc (.int .i64 0))), (.c (.sc (.int .i64 0))), .nil, .nil, .nil, .nil, (.c (.sc (.bool false))), (.c (.sc (.int .i64 0))), (.c (.sc (.string ⟨#[]⟩))), (.c (.sc (.string ⟨#[]⟩))), (.c (.sc (.string ⟨#[]⟩)))]), .nu (.st 14 (.t 7) (.t 26))]) (.s (.r [.ex 27 (.ld true 14 (.t 3)), .ex 28 (.call 13 [(.t 27)]), .ex 8 (.alloc [.nil, .nil, .nil, (.c (.sc (.int .i64 0))), (.c (.sc (.int .i64 0))), .nil, .nil, .nil, .nil, (.c (.sc (.bool false))), (.c (.sc (.int .i64 0))), (.c (.sc (.string ⟨#[]⟩))), (.c (.sc (.string ⟨#[]⟩))), (.c (.sc (.string ⟨#[]⟩)))]), .nu (.st 14 (.t 8) (.t 28))]) (.s (.r [.ex 29 (.ld true 14 (.t 7)), .ex 30 (.ld true 14 (.t 8)), .ex 31 (.call 14 [(.t 29), (.t 30)]), .mv 9 31]) (.s (.s (.r [.mv 32 9, .mv 33 6, .ex 34 (.bb true (.t 32) (.t 33))]) (.cnd (.t 34) (.s (.r [.ex 4 (.mv .n)]) .ret) .skip)) (.s (.s (.d [.ex 35 (.ld true 14 (.t 7)), .ex 36 (.ld true 14 (.t 2)), .ex 37 (.call 13 [(.t 36)]), .ex 38 (.call 15 [(.t 35), (.t 37)]), .ex 39 (.un .not (.t 38))]) (.cnd (.t 39) (.s (.r [.ex 4 (.mv .n)]) .ret) .skip)) (.s (.s (.d [.ex 40 (.ld true 14 (.t 8)), .ex 41 (.ld true 14 (.t 3)), .ex 42 (.call 13 [(.t 41)]), .ex 43 (.call 15 [(.t 40), (.t 42)]), .ex 44 (.un .not (.t 43))]) (.cnd (.t 44) (.s (.r [.ex 4 (.mv .n)]) .ret) .skip)) (.s (.r [.ex 4 (.mv .y)]) .ret))))))))))))))
theorem c_laws_FnExactWorldSame_eq : compF Go.Proofs.Try.prog [] 4 = some (c_laws_FnExactWorldSame.ac, [(.t 4)], 45) := by kernel_rfl

theorem f_FnExactWorldSame (W0 : World) (a b : Wld) : Fn Go.Proofs.Try.prog W0 4 [eWld a, eWld b] (.c (CB true)) [] := by
  refine fnX (c := c_laws_FnExactWorldSame) mixed c_laws_FnExactWorldSame_eq (by simp) rfl fun hg => ?_
  have z1 := @szWld_le a 1048576 (by omega)
  conv => whnf
  repeat ((first | refine oB (by first | omega | rfl | exact zM fun _ => rfl) ?_ | refine lM ?_ | refine lA ?_ | refine aM rfl (by omega) ?_ | refine aA rfl (by omega) ?_ | refine nC ?_ | refine c0 (f_szWorld W0 a _ (by omega)) rfl ?_ | intro _); conv => whnf)
  refine cP (fun h1 => ?_) (fun h1 => ?_)
  · conv => whnf
    repeat ((first | refine oB (by first | omega | rfl | exact zM fun _ => rfl) ?_ | refine lM ?_ | refine lA ?_ | refine aM rfl (by omega) ?_ | refine aA rfl (by omega) ?_ | refine nC ?_); conv => whnf)
  have z2 := @szWld_le b _ z1.1
  conv => whnf
  repeat ((first | refine oB (by first | omega | rfl | exact zM fun _ => rfl) ?_ | refine lM ?_ | refine lA ?_ | refine aM rfl (by omega) ?_ | refine aA rfl (by omega) ?_ | refine nC ?_ | refine c0 (f_szWorld W0 b _ (by omega)) rfl ?_ | intro _); conv => whnf)
  refine cP (fun h2 => ?_) (fun h2 => ?_)
  · conv => whnf
    repeat ((first | refine oB (by first | omega | rfl | exact zM fun _ => rfl) ?_ | refine lM ?_ | refine lA ?_ | refine aM rfl (by omega) ?_ | refine aA rfl (by omega) ?_ | refine nC ?_); conv => whnf)
  have fa := szWld_fit (by omega) (by omega) h1
  have fb := szWld_fit (by omega) (by omega) h2
  conv => whnf
  repeat ((first | refine oB (by first | omega | rfl | exact zM fun _ => rfl) ?_ | refine lM ?_ | refine lA ?_ | refine aM rfl (by omega) ?_ | refine aA rfl (by omega) ?_ | refine nC ?_ | refine c0 (f_toWorld W0 a fa) rfl ?_ | refine c0 (f_toWorld W0 b fb) rfl ?_ | refine c0 (f_spec_WorldSame W0 a b) rfl ?_ | refine c0 (f_impl_WorldSame W0 a b) rfl ?_ | intro _); conv => whnf)
  refine cP (fun h3 => ?_) (fun h3 => ?_)
  · exact absurd rfl h3
  conv => whnf
  repeat ((first | refine oB (by first | omega | rfl | exact zM fun _ => rfl) ?_ | refine lM ?_ | refine lA ?_ | refine aM rfl (by omega) ?_ | refine aA rfl (by omega) ?_ | refine nC ?_ | refine c0 (f_toWorld W0 a fa) rfl ?_ | refine c0 (f_eqWorld W0 a a) rfl ?_ | intro _); conv => whnf)
  refine cP (fun h4 => ?_) (fun h4 => ?_)
  · exact absurd rfl h4
  conv => whnf
  repeat ((first | refine oB (by first | omega | rfl | exact zM fun _ => rfl) ?_ | refine lM ?_ | refine lA ?_ | refine aM rfl (by omega) ?_ | refine aA rfl (by omega) ?_ | refine nC ?_ | refine c0 (f_toWorld W0 b fb) rfl ?_ | refine c0 (f_eqWorld W0 b b) rfl ?_ | intro _); conv => whnf)
  refine cP (fun h5 => ?_) (fun h5 => ?_)
  · exact absurd rfl h5
  conv => whnf
  repeat ((first | refine oB (by first | omega | rfl | exact zM fun _ => rfl) ?_ | refine lM ?_ | refine lA ?_ | refine aM rfl (by omega) ?_ | refine aA rfl (by omega) ?_ | refine nC ?_); conv => whnf)


end Go.Proofs.Ytjndfhgdlclooaa
