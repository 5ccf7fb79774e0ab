/- Contracts: sizes, copies and equality of the data; no condition. -/
import Derived.Test.YthblflnfhdnpdaaGreatDoorAm1
import Derived.Test.YthblflnfhdnpdaaGreatDoorProg
namespace Go.Proofs.YthblflnfhdnpdaaGreatDoor
set_option linter.unusedSimpArgs false
set_option linter.unusedVariables false
open Go Go.RowKit

theorem mixed : Go.Proofs.Tryz.prog.follows .mixedOrders = true := by kernel_rfl

/-- The room that is left. -/
def szL {α : Type} (f : α → Int → Int) : List α → Int → Int
  | [], l => l
  | a :: t, l => if f a l < 0 then -1 else szL f t (f a l)
def szR {α : Type} (f : α → Int → Int) (t : List α) (l : Int) : Int := if l - t.length < 0 then -1 else szL f t (l - t.length)
def szStr (s : Str) (l : Int) : Int := if l - s.length < 0 then -1 else l - s.length
def szEnt (e : Ent) (l : Int) : Int := if l - e.path.length < 0 then -1 else szStr e.data (l - e.path.length)
def szMark (e : Mark) (l : Int) : Int := if l - e.path.length < 0 then -1 else szStr e.data (l - e.path.length)

theorem szStr_le {s : Str} {l : Int} (h : -1 ≤ l) : -1 ≤ szStr s l ∧ szStr s l ≤ l := by unfold szStr; split <;> omega
theorem szEnt_le {e : Ent} {l : Int} (h : -1 ≤ l) : -1 ≤ szEnt e l ∧ szEnt e l ≤ l := by
  unfold szEnt; split
  · omega
  · have := @szStr_le e.data (l - e.path.length) (by omega); omega
theorem szMark_le {e : Mark} {l : Int} (h : -1 ≤ l) : -1 ≤ szMark e l ∧ szMark e l ≤ l := by
  unfold szMark; split
  · omega
  · have := @szStr_le e.data (l - e.path.length) (by omega); omega
theorem szL_le {α : Type} {f : α → Int → Int} (hf : ∀ a l, -1 ≤ l → -1 ≤ f a l ∧ f a l ≤ l) : ∀ {t : List α} {l : Int}, -1 ≤ l → -1 ≤ szL f t l ∧ szL f t l ≤ l
  | [], l, h => ⟨h, Int.le_refl _⟩
  | a :: t, l, h => by
    unfold szL
    have := hf a l h
    split
    · omega
    · have := szL_le hf (t := t) (l := f a l) (by omega); omega
theorem szR_le {α : Type} {f : α → Int → Int} (hf : ∀ a l, -1 ≤ l → -1 ≤ f a l ∧ f a l ≤ l) {t : List α} {l : Int} (h : -1 ≤ l) : -1 ≤ szR f t l ∧ szR f t l ≤ l := by
  unfold szR
  split
  · omega
  · have := szL_le hf (t := t) (l := l - t.length) (by omega); omega
theorem szL_at {α : Type} {f : α → Int → Int} {t : List α} {k : Nat} (h : k < t.length) {l : Int} : szL f (t.drop k) l = if f t[k] l < 0 then -1 else szL f (t.drop (k + 1)) (f t[k] l) := by
  rw [List.drop_eq_getElem_cons h]; rfl


def c_laws_szEnt : XC := (.s (.r [.ex 2 (.box (.t 0)), .ex 4 (.mv (.i 0))]) (.s (.r [.mv 5 1, .ex 6 (.fa 0 (.t 2)), .ex 7 (.ld false 1 (.t 6)), .ex 8 (.len true (.t 7)), .ex 9 (.bin .sub (.t 5) (.t 8)), .mv 1 9]) (.s (.s (.r [.mv 10 1, .ex 11 (.bin .lss (.t 10) (.i 0))]) (.cnd (.t 11) (.s (.r [.ex 4 (.mv (.k (.c (.sc (.int .i64 (.negSucc 0))))))]) .ret) .skip)) (.s (.r [.mv 12 1, .ex 13 (.fa 2 (.t 2)), .ex 14 (.ld false 1 (.t 13)), .ex 15 (.len true (.t 14)), .ex 16 (.bin .sub (.t 12) (.t 15)), .mv 1 16]) (.s (.s (.r [.mv 17 1, .ex 18 (.bin .lss (.t 17) (.i 0))]) (.cnd (.t 18) (.s (.r [.ex 4 (.mv (.k (.c (.sc (.int .i64 (.negSucc 0))))))]) .ret) .skip)) (.s (.r [.mv 19 1, .mv 4 19]) .ret))))))
theorem c_laws_szEnt_eq : compF Go.Proofs.Tryz.prog [] 258 = some (c_laws_szEnt.ac, [(.t 4)], 20) := by kernel_rfl

theorem f_szEnt (W0 : World) (e : Ent) (l : Int) (h : -1 ≤ l ∧ l ≤ 1048576) : Fn Go.Proofs.Tryz.prog W0 258 [eEnt e, CI l] (.c (CI (szEnt e l))) [] := by
  refine fnX (c := c_laws_szEnt) mixed c_laws_szEnt_eq (by simp) rfl fun hg => ?_
  have hg0 := hg _ (by simp : eEnt e ∈ _)
  have g1 := goodS (goodAgg hg0 _ (by simp : CS e.path ∈ _))
  have g2 := goodS (goodAgg hg0 _ (by simp : CS e.data ∈ _))
  refine dr ?_
  refine cnd_lt (fun h1 => ?_) fun h1 => ?_
  · conv => whnf
    simp only [szEnt, h1, if_true] <;> rfl
  · refine dr ?_
    refine cnd_lt (fun h2 => ?_) fun h2 => ?_
    · conv => whnf
      simp only [szEnt, szStr, Int.not_lt.2 h1, h2, if_true, if_false] <;> rfl
    · conv => whnf
      simp only [szEnt, szStr, Int.not_lt.2 h1, Int.not_lt.2 h2, if_false]


def c_laws_szMark : XC := (.s (.r [.ex 2 (.box (.t 0)), .ex 4 (.mv (.i 0))]) (.s (.r [.mv 5 1, .ex 6 (.fa 0 (.t 2)), .ex 7 (.ld false 1 (.t 6)), .ex 8 (.len true (.t 7)), .ex 9 (.bin .sub (.t 5) (.t 8)), .mv 1 9]) (.s (.s (.r [.mv 10 1, .ex 11 (.bin .lss (.t 10) (.i 0))]) (.cnd (.t 11) (.s (.r [.ex 4 (.mv (.k (.c (.sc (.int .i64 (.negSucc 0))))))]) .ret) .skip)) (.s (.r [.mv 12 1, .ex 13 (.fa 2 (.t 2)), .ex 14 (.ld false 1 (.t 13)), .ex 15 (.len true (.t 14)), .ex 16 (.bin .sub (.t 12) (.t 15)), .mv 1 16]) (.s (.s (.r [.mv 17 1, .ex 18 (.bin .lss (.t 17) (.i 0))]) (.cnd (.t 18) (.s (.r [.ex 4 (.mv (.k (.c (.sc (.int .i64 (.negSucc 0))))))]) .ret) .skip)) (.s (.r [.mv 19 1, .mv 4 19]) .ret))))))
theorem c_laws_szMark_eq : compF Go.Proofs.Tryz.prog [] 259 = some (c_laws_szMark.ac, [(.t 4)], 20) := by kernel_rfl

theorem f_szMark (W0 : World) (e : Mark) (l : Int) (h : -1 ≤ l ∧ l ≤ 1048576) : Fn Go.Proofs.Tryz.prog W0 259 [eMark e, CI l] (.c (CI (szMark e l))) [] := by
  refine fnX (c := c_laws_szMark) mixed c_laws_szMark_eq (by simp) rfl fun hg => ?_
  have hg0 := hg _ (by simp : eMark e ∈ _)
  have g1 := goodS (goodAgg hg0 _ (by simp : CS e.path ∈ _))
  have g2 := goodS (goodAgg hg0 _ (by simp : CS e.data ∈ _))
  refine dr ?_
  refine cnd_lt (fun h1 => ?_) fun h1 => ?_
  · conv => whnf
    simp only [szMark, h1, if_true] <;> rfl
  · refine dr ?_
    refine cnd_lt (fun h2 => ?_) fun h2 => ?_
    · conv => whnf
      simp only [szMark, szStr, Int.not_lt.2 h1, h2, if_true, if_false] <;> rfl
    · conv => whnf
      simp only [szMark, szStr, Int.not_lt.2 h1, Int.not_lt.2 h2, if_false]


def c_laws_szEntS : XC := (.s (.r [.ex 4 (.mv (.i 0))]) (.s (.r [.mv 6 1, .mv 7 0, .ex 8 (.len false (.t 7)), .ex 9 (.bin .sub (.t 6) (.t 8)), .mv 1 9]) (.s (.s (.r [.mv 10 1, .ex 11 (.bin .lss (.t 10) (.i 0))]) (.cnd (.t 11) (.s (.r [.ex 4 (.mv (.k (.c (.sc (.int .i64 (.negSucc 0))))))]) .ret) .skip)) (.s (.s (.r [.ex 5 (.mv (.i 0))]) (.blk 0 (.loop (.s (.s (.r [.mv 12 5, .mv 13 0, .ex 14 (.len false (.t 13)), .ex 15 (.bin .lss (.t 12) (.t 14))]) (.cnd (.t 15) .skip (.exit 0))) (.s (.blk 1 (.s (.r [.mv 18 0, .mv 19 5, .ex 20 (.ia 3 (.t 18) (.t 19)), .ex 21 (.ld true 3 (.t 20)), .mv 22 1, .ex 23 (.call 258 [(.t 21), (.t 22)]), .mv 1 23]) (.s (.r [.mv 24 1, .ex 25 (.bin .lss (.t 24) (.i 0))]) (.cnd (.t 25) (.s (.r [.ex 4 (.mv (.k (.c (.sc (.int .i64 (.negSucc 0))))))]) .ret) .skip)))) (.r [.mv 16 5, .ex 17 (.bin .add (.t 16) (.i 1)), .mv 5 17])))))) (.s (.r [.mv 26 1, .mv 4 26]) .ret)))))
theorem c_laws_szEntS_eq : compF Go.Proofs.Tryz.prog [] 194 = some (c_laws_szEntS.ac, [(.t 4)], 27) := by kernel_rfl

theorem f_szEntS (W0 : World) (t : List Ent) (l : Int) (h : -1 ≤ l ∧ l ≤ 1048576) : Fn Go.Proofs.Tryz.prog W0 194 [eEnts t, CI l] (.c (CI (szR szEnt t l))) [] := by
  refine fnX (c := c_laws_szEntS) mixed c_laws_szEntS_eq (by simp) rfl fun hg => ?_
  have g1 := goodRow (hg _ (by simp : eEnts t ∈ _))
  refine dr ?_
  refine cnd_lt (fun h1 => ?_) fun h1 => ?_
  · conv => whnf
    simp only [szR, h1, if_true] <;> rfl
  conv => whnf
  refine lp (σ := Nat × Int) (fun x => [(0, .c (eEnts t)), (1, I x.2), (5, I x.1)]) (fun _ => []) (fun x => x.1 ≤ t.length ∧ -1 ≤ x.2 ∧ x.2 ≤ 1048576 ∧ szL szEnt (t.drop x.1) x.2 = szR szEnt t l)
    (fun x => t.length - x.1) (0, l - t.length) ⟨by simp, by simp; omega, by simp; omega, by simp [szR, Int.not_lt.2 h1]⟩ ?_ ?_
  · refine dr ?_
    trivial
  rintro ⟨k, r⟩ ⟨hk, hr1, hr2, hr⟩
  dsimp only at hk hr1 hr2 hr
  refine dr ?_
  refine cnd_lt (fun h2 => ?_) fun h2 => ?_
  · have hk' : k < t.length := by omega
    have hs := @szEnt_le t[k] r hr1
    rw [szL_at hk'] at hr
    refine dr ?_
    repeat (refine c0 (f_szEnt W0 t[k] r (by omega)) rfl ?_; first | refine dr ?_ | exact dz)
    intro hg2
    conv => whnf
    refine cnd_lt (fun h3 => ?_) fun h3 => ?_
    · conv => whnf
      rw [if_pos h3] at hr
      rw [← hr]; rfl
    · rw [if_neg (Int.not_lt.2 h3)] at hr
      refine dr ?_
      refine ⟨(k + 1, szEnt t[k] r), ⟨by dsimp only; omega, by dsimp only; omega, by dsimp only; omega, hr⟩, by dsimp only; omega, ?_⟩
      refine dr ?_
      trivial
  · have : k = t.length := by omega
    subst this
    rw [List.drop_length] at hr
    refine dr ?_
    exact congrArg CI hr


def c_laws_szMarkS : XC := (.s (.r [.ex 4 (.mv (.i 0))]) (.s (.r [.mv 6 1, .mv 7 0, .ex 8 (.len false (.t 7)), .ex 9 (.bin .sub (.t 6) (.t 8)), .mv 1 9]) (.s (.s (.r [.mv 10 1, .ex 11 (.bin .lss (.t 10) (.i 0))]) (.cnd (.t 11) (.s (.r [.ex 4 (.mv (.k (.c (.sc (.int .i64 (.negSucc 0))))))]) .ret) .skip)) (.s (.s (.r [.ex 5 (.mv (.i 0))]) (.blk 0 (.loop (.s (.s (.r [.mv 12 5, .mv 13 0, .ex 14 (.len false (.t 13)), .ex 15 (.bin .lss (.t 12) (.t 14))]) (.cnd (.t 15) .skip (.exit 0))) (.s (.blk 1 (.s (.r [.mv 18 0, .mv 19 5, .ex 20 (.ia 3 (.t 18) (.t 19)), .ex 21 (.ld true 3 (.t 20)), .mv 22 1, .ex 23 (.call 259 [(.t 21), (.t 22)]), .mv 1 23]) (.s (.r [.mv 24 1, .ex 25 (.bin .lss (.t 24) (.i 0))]) (.cnd (.t 25) (.s (.r [.ex 4 (.mv (.k (.c (.sc (.int .i64 (.negSucc 0))))))]) .ret) .skip)))) (.r [.mv 16 5, .ex 17 (.bin .add (.t 16) (.i 1)), .mv 5 17])))))) (.s (.r [.mv 26 1, .mv 4 26]) .ret)))))
theorem c_laws_szMarkS_eq : compF Go.Proofs.Tryz.prog [] 196 = some (c_laws_szMarkS.ac, [(.t 4)], 27) := by kernel_rfl

theorem f_szMarkS (W0 : World) (t : List Mark) (l : Int) (h : -1 ≤ l ∧ l ≤ 1048576) : Fn Go.Proofs.Tryz.prog W0 196 [eMarks t, CI l] (.c (CI (szR szMark t l))) [] := by
  refine fnX (c := c_laws_szMarkS) mixed c_laws_szMarkS_eq (by simp) rfl fun hg => ?_
  have g1 := goodRow (hg _ (by simp : eMarks t ∈ _))
  refine dr ?_
  refine cnd_lt (fun h1 => ?_) fun h1 => ?_
  · conv => whnf
    simp only [szR, h1, if_true] <;> rfl
  conv => whnf
  refine lp (σ := Nat × Int) (fun x => [(0, .c (eMarks t)), (1, I x.2), (5, I x.1)]) (fun _ => []) (fun x => x.1 ≤ t.length ∧ -1 ≤ x.2 ∧ x.2 ≤ 1048576 ∧ szL szMark (t.drop x.1) x.2 = szR szMark t l)
    (fun x => t.length - x.1) (0, l - t.length) ⟨by simp, by simp; omega, by simp; omega, by simp [szR, Int.not_lt.2 h1]⟩ ?_ ?_
  · refine dr ?_
    trivial
  rintro ⟨k, r⟩ ⟨hk, hr1, hr2, hr⟩
  dsimp only at hk hr1 hr2 hr
  refine dr ?_
  refine cnd_lt (fun h2 => ?_) fun h2 => ?_
  · have hk' : k < t.length := by omega
    have hs := @szMark_le t[k] r hr1
    rw [szL_at hk'] at hr
    refine dr ?_
    repeat (refine c0 (f_szMark W0 t[k] r (by omega)) rfl ?_; first | refine dr ?_ | exact dz)
    intro hg2
    conv => whnf
    refine cnd_lt (fun h3 => ?_) fun h3 => ?_
    · conv => whnf
      rw [if_pos h3] at hr
      rw [← hr]; rfl
    · rw [if_neg (Int.not_lt.2 h3)] at hr
      refine dr ?_
      refine ⟨(k + 1, szMark t[k] r), ⟨by dsimp only; omega, by dsimp only; omega, by dsimp only; omega, hr⟩, by dsimp only; omega, ?_⟩
      refine dr ?_
      trivial
  · have : k = t.length := by omega
    subst this
    rw [List.drop_length] at hr
    refine dr ?_
    exact congrArg CI hr


def c_laws_szMarkSS : XC := (.s (.r [.ex 4 (.mv (.i 0))]) (.s (.r [.mv 6 1, .mv 7 0, .ex 8 (.len false (.t 7)), .ex 9 (.bin .sub (.t 6) (.t 8)), .mv 1 9]) (.s (.s (.r [.mv 10 1, .ex 11 (.bin .lss (.t 10) (.i 0))]) (.cnd (.t 11) (.s (.r [.ex 4 (.mv (.k (.c (.sc (.int .i64 (.negSucc 0))))))]) .ret) .skip)) (.s (.s (.r [.ex 5 (.mv (.i 0))]) (.blk 0 (.loop (.s (.s (.r [.mv 12 5, .mv 13 0, .ex 14 (.len false (.t 13)), .ex 15 (.bin .lss (.t 12) (.t 14))]) (.cnd (.t 15) .skip (.exit 0))) (.s (.blk 1 (.s (.r [.mv 18 0, .mv 19 5, .ex 20 (.ia 1 (.t 18) (.t 19)), .ex 21 (.ld false 1 (.t 20)), .mv 22 1, .ex 23 (.call 196 [(.t 21), (.t 22)]), .mv 1 23]) (.s (.r [.mv 24 1, .ex 25 (.bin .lss (.t 24) (.i 0))]) (.cnd (.t 25) (.s (.r [.ex 4 (.mv (.k (.c (.sc (.int .i64 (.negSucc 0))))))]) .ret) .skip)))) (.r [.mv 16 5, .ex 17 (.bin .add (.t 16) (.i 1)), .mv 5 17])))))) (.s (.r [.mv 26 1, .mv 4 26]) .ret)))))
theorem c_laws_szMarkSS_eq : compF Go.Proofs.Tryz.prog [] 195 = some (c_laws_szMarkSS.ac, [(.t 4)], 27) := by kernel_rfl

theorem f_szMarkSS (W0 : World) (t : List (List Mark)) (l : Int) (h : -1 ≤ l ∧ l ≤ 1048576) : Fn Go.Proofs.Tryz.prog W0 195 [eMarkss t, CI l] (.c (CI (szR (szR szMark) t l))) [] := by
  refine fnX (c := c_laws_szMarkSS) mixed c_laws_szMarkSS_eq (by simp) rfl fun hg => ?_
  have g1 := goodRow (hg _ (by simp : eMarkss t ∈ _))
  refine dr ?_
  refine cnd_lt (fun h1 => ?_) fun h1 => ?_
  · conv => whnf
    simp only [szR, h1, if_true] <;> rfl
  conv => whnf
  refine lp (σ := Nat × Int) (fun x => [(0, .c (eMarkss t)), (1, I x.2), (5, I x.1)]) (fun _ => []) (fun x => x.1 ≤ t.length ∧ -1 ≤ x.2 ∧ x.2 ≤ 1048576 ∧ szL (szR szMark) (t.drop x.1) x.2 = szR (szR szMark) t l)
    (fun x => t.length - x.1) (0, l - t.length) ⟨by simp, by simp; omega, by simp; omega, by rw [szR.eq_def _ t, if_neg (by omega)]; rfl⟩ ?_ ?_
  · refine dr ?_
    trivial
  rintro ⟨k, r⟩ ⟨hk, hr1, hr2, hr⟩
  dsimp only at hk hr1 hr2 hr
  refine dr ?_
  refine cnd_lt (fun h2 => ?_) fun h2 => ?_
  · have hk' : k < t.length := by omega
    have hs := @szR_le _ _ (fun a l => @szMark_le a l) t[k] r hr1
    rw [szL_at hk'] at hr
    refine dr ?_
    repeat (refine c0 (f_szMarkS W0 t[k] r (by omega)) rfl ?_; first | refine dr ?_ | exact dz)
    intro hg2
    conv => whnf
    refine cnd_lt (fun h3 => ?_) fun h3 => ?_
    · conv => whnf
      rw [if_pos h3] at hr
      rw [← hr]; rfl
    · rw [if_neg (Int.not_lt.2 h3)] at hr
      refine dr ?_
      refine ⟨(k + 1, szR szMark t[k] r), ⟨by dsimp only; omega, by dsimp only; omega, by dsimp only; omega, hr⟩, by dsimp only; omega, ?_⟩
      refine dr ?_
      trivial
  · have : k = t.length := by omega
    subst this
    rw [List.drop_length] at hr
    refine dr ?_
    exact congrArg CI hr


def szOver (o : Over) (l : Int) : Int := if szR szEnt o.base l < 0 then -1 else if szR (szR szMark) o.layers (szR szEnt o.base l) < 0 then -1 else
  if szR szMark o.upper (szR (szR szMark) o.layers (szR szEnt o.base l)) < 0 then -1 else szR szMark o.upper (szR (szR szMark) o.layers (szR szEnt o.base l))


def c_laws_szOver : XC := (.s (.r [.ex 2 (.box (.t 0)), .ex 4 (.mv (.i 0))]) (.s (.r [.ex 5 (.fa 0 (.t 2)), .ex 6 (.ld false 1 (.t 5)), .mv 7 1, .ex 8 (.call 194 [(.t 6), (.t 7)]), .mv 1 8]) (.s (.s (.r [.mv 9 1, .ex 10 (.bin .lss (.t 9) (.i 0))]) (.cnd (.t 10) (.s (.r [.ex 4 (.mv (.k (.c (.sc (.int .i64 (.negSucc 0))))))]) .ret) .skip)) (.s (.r [.ex 11 (.fa 1 (.t 2)), .ex 12 (.ld false 1 (.t 11)), .mv 13 1, .ex 14 (.call 195 [(.t 12), (.t 13)]), .mv 1 14]) (.s (.s (.r [.mv 15 1, .ex 16 (.bin .lss (.t 15) (.i 0))]) (.cnd (.t 16) (.s (.r [.ex 4 (.mv (.k (.c (.sc (.int .i64 (.negSucc 0))))))]) .ret) .skip)) (.s (.r [.ex 17 (.fa 2 (.t 2)), .ex 18 (.ld false 1 (.t 17)), .mv 19 1, .ex 20 (.call 196 [(.t 18), (.t 19)]), .mv 1 20]) (.s (.s (.r [.mv 21 1, .ex 22 (.bin .lss (.t 21) (.i 0))]) (.cnd (.t 22) (.s (.r [.ex 4 (.mv (.k (.c (.sc (.int .i64 (.negSucc 0))))))]) .ret) .skip)) (.s (.r [.mv 23 1, .mv 4 23]) .ret))))))))
theorem c_laws_szOver_eq : compF Go.Proofs.Tryz.prog [] 118 = some (c_laws_szOver.ac, [(.t 4)], 24) := by kernel_rfl

theorem f_szOver (W0 : World) (o : Over) (l : Int) (h : -1 ≤ l ∧ l ≤ 1048576) : Fn Go.Proofs.Tryz.prog W0 118 [eOver o, CI l] (.c (CI (szOver o l))) [] := by
  refine fnX (c := c_laws_szOver) mixed c_laws_szOver_eq (by simp) rfl fun hg => ?_
  have s1 := @szR_le _ _ (fun a l => @szEnt_le a l) o.base l h.1
  refine dr ?_
  repeat (refine c0 (f_szEntS W0 o.base l h) rfl ?_; first | refine dr ?_ | exact dz)
  intro hg1
  conv => whnf
  refine cnd_lt (fun h1 => ?_) fun h1 => ?_
  · conv => whnf
    simp only [szOver, h1, if_true] <;> rfl
  have s2 := @szR_le _ _ (fun a l => @szR_le _ _ (fun a l => @szMark_le a l) a l) o.layers _ s1.1
  refine dr ?_
  repeat (refine c0 (f_szMarkSS W0 o.layers _ (by omega)) rfl ?_; first | refine dr ?_ | exact dz)
  intro hg2
  conv => whnf
  refine cnd_lt (fun h2 => ?_) fun h2 => ?_
  · conv => whnf
    simp only [szOver, Int.not_lt.2 h1, if_false, h2, if_true] <;> rfl
  have s3 := @szR_le _ _ (fun a l => @szMark_le a l) o.upper _ s2.1
  refine dr ?_
  repeat (refine c0 (f_szMarkS W0 o.upper _ (by omega)) rfl ?_; first | refine dr ?_ | exact dz)
  intro hg3
  conv => whnf
  refine cnd_lt (fun h3 => ?_) fun h3 => ?_
  · conv => whnf
    simp only [szOver, Int.not_lt.2 h1, Int.not_lt.2 h2, if_false, h3, if_true] <;> rfl
  · refine dr ?_
    simp only [szOver, Int.not_lt.2 h1, Int.not_lt.2 h2, Int.not_lt.2 h3, if_false]


def c_laws_eqEnt : XC := (.s (.r [.ex 2 (.box (.t 0)), .ex 3 (.box (.t 1)), .ex 4 (.mv .n)]) (.s (.s (.r [.ex 5 (.fa 0 (.t 2)), .ex 6 (.ld false 1 (.t 5)), .ex 7 (.fa 0 (.t 3)), .ex 8 (.ld false 1 (.t 7)), .ex 9 (.bin .neq (.t 6) (.t 8))]) (.cnd (.t 9) (.s (.r [.ex 4 (.mv .n)]) .ret) .skip)) (.s (.s (.r [.ex 10 (.fa 1 (.t 2)), .ex 11 (.ld false 1 (.t 10)), .ex 12 (.fa 1 (.t 3)), .ex 13 (.ld false 1 (.t 12)), .ex 14 (.bb true (.t 11) (.t 13))]) (.cnd (.t 14) (.s (.r [.ex 4 (.mv .n)]) .ret) .skip)) (.s (.s (.r [.ex 15 (.fa 2 (.t 2)), .ex 16 (.ld false 1 (.t 15)), .ex 17 (.fa 2 (.t 3)), .ex 18 (.ld false 1 (.t 17)), .ex 19 (.bin .neq (.t 16) (.t 18))]) (.cnd (.t 19) (.s (.r [.ex 4 (.mv .n)]) .ret) .skip)) (.s (.r [.ex 4 (.mv .y)]) .ret)))))
theorem c_laws_eqEnt_eq : compF Go.Proofs.Tryz.prog [] 52 = some (c_laws_eqEnt.ac, [(.t 4)], 20) := by kernel_rfl

theorem f_eqEnt (W0 : World) (a b : Ent) : Fn Go.Proofs.Tryz.prog W0 52 [eEnt a, eEnt b] (.c (CB (decide (a = b)))) [] := by
  refine fnX (c := c_laws_eqEnt) mixed c_laws_eqEnt_eq (by simp) rfl fun hg => ?_
  refine dr ?_
  refine cP (fun h1 => ?_) (fun h1 => ?_)
  · conv => whnf
    exact dF fun e => h1 (by rw [e])
  refine dr ?_
  refine cP (fun h2 => ?_) (fun h2 => ?_)
  · conv => whnf
    exact dF fun e => h2 (by rw [e])
  refine dr ?_
  refine cP (fun h3 => ?_) (fun h3 => ?_)
  · conv => whnf
    exact dF fun e => h3 (by rw [e])
  refine dr ?_
  exact dT (by cases a; cases b; simp_all)


def c_laws_eqMark : XC := (.s (.r [.ex 2 (.box (.t 0)), .ex 3 (.box (.t 1)), .ex 4 (.mv .n)]) (.s (.s (.r [.ex 5 (.fa 0 (.t 2)), .ex 6 (.ld false 1 (.t 5)), .ex 7 (.fa 0 (.t 3)), .ex 8 (.ld false 1 (.t 7)), .ex 9 (.bin .neq (.t 6) (.t 8))]) (.cnd (.t 9) (.s (.r [.ex 4 (.mv .n)]) .ret) .skip)) (.s (.s (.r [.ex 10 (.fa 1 (.t 2)), .ex 11 (.ld false 1 (.t 10)), .ex 12 (.fa 1 (.t 3)), .ex 13 (.ld false 1 (.t 12)), .ex 14 (.bin .neq (.t 11) (.t 13))]) (.cnd (.t 14) (.s (.r [.ex 4 (.mv .n)]) .ret) .skip)) (.s (.s (.r [.ex 15 (.fa 2 (.t 2)), .ex 16 (.ld false 1 (.t 15)), .ex 17 (.fa 2 (.t 3)), .ex 18 (.ld false 1 (.t 17)), .ex 19 (.bin .neq (.t 16) (.t 18))]) (.cnd (.t 19) (.s (.r [.ex 4 (.mv .n)]) .ret) .skip)) (.s (.r [.ex 4 (.mv .y)]) .ret)))))
theorem c_laws_eqMark_eq : compF Go.Proofs.Tryz.prog [] 264 = some (c_laws_eqMark.ac, [(.t 4)], 20) := by kernel_rfl

theorem f_eqMark (W0 : World) (a b : Mark) : Fn Go.Proofs.Tryz.prog W0 264 [eMark a, eMark b] (.c (CB (decide (a = b)))) [] := by
  refine fnX (c := c_laws_eqMark) mixed c_laws_eqMark_eq (by simp) rfl fun hg => ?_
  refine dr ?_
  refine cP (fun h1 => ?_) (fun h1 => ?_)
  · conv => whnf
    exact dF fun e => h1 (by rw [e])
  refine dr ?_
  refine cP (fun h2 => ?_) (fun h2 => ?_)
  · conv => whnf
    exact dF fun e => h2 (by rw [e])
  refine dr ?_
  refine cP (fun h3 => ?_) (fun h3 => ?_)
  · conv => whnf
    exact dF fun e => h3 (by rw [e])
  refine dr ?_
  exact dT (by cases a; cases b; simp_all)


def c_laws_eqEntS : XC := (.s (.r [.ex 4 (.mv .n)]) (.s (.s (.r [.mv 6 0, .ex 7 (.len false (.t 6)), .mv 8 1, .ex 9 (.len false (.t 8)), .ex 10 (.bin .neq (.t 7) (.t 9))]) (.cnd (.t 10) (.s (.r [.ex 4 (.mv .n)]) .ret) .skip)) (.s (.s (.r [.ex 5 (.mv (.i 0))]) (.blk 0 (.loop (.s (.s (.r [.mv 11 5, .mv 12 0, .ex 13 (.len false (.t 12)), .ex 14 (.bin .lss (.t 11) (.t 13))]) (.cnd (.t 14) .skip (.exit 0))) (.s (.blk 1 (.s (.d [.mv 17 0, .mv 18 5, .ex 19 (.ia 3 (.t 17) (.t 18)), .ex 20 (.ld true 3 (.t 19)), .mv 21 1, .mv 22 5, .ex 23 (.ia 3 (.t 21) (.t 22)), .ex 24 (.ld true 3 (.t 23)), .ex 25 (.call 52 [(.t 20), (.t 24)]), .ex 26 (.un .not (.t 25))]) (.cnd (.t 26) (.s (.r [.ex 4 (.mv .n)]) .ret) .skip))) (.r [.mv 15 5, .ex 16 (.bin .add (.t 15) (.i 1)), .mv 5 16])))))) (.s (.r [.ex 4 (.mv .y)]) .ret))))
theorem c_laws_eqEntS_eq : compF Go.Proofs.Tryz.prog [] 206 = some (c_laws_eqEntS.ac, [(.t 4)], 27) := by kernel_rfl

theorem f_laws_eqEntS (W0 : World) (a b : List Ent) : Fn Go.Proofs.Tryz.prog W0 206 [eEnts a, eEnts b] (.c (CB (decide (a = b)))) [] := by
  refine fnX (c := c_laws_eqEntS) mixed c_laws_eqEntS_eq (by simp) rfl fun hg => ?_
  have g1 := goodRow (hg _ (by simp : eEnts a ∈ _))
  refine dr ?_
  refine cP (fun h1 => ?_) (fun h1 => ?_)
  · conv => whnf
    exact dF (ne_len (by omega))
  conv => whnf
  refine lp (σ := Nat) (fun k => [(0, .c (eEnts a)), (1, .c (eEnts b)), (5, I k)]) (fun _ => []) (fun k => k ≤ a.length ∧ a.take k = b.take k) (fun k => a.length - k) 0 ⟨by simp, by simp⟩ ?_ ?_
  · refine dr ?_
    trivial
  rintro k ⟨hk, he⟩
  refine dr ?_
  refine cP (fun h2 => ?_) (fun h2 => ?_)
  · refine dr ?_
    repeat (refine c0 (f_eqEnt W0 _ _) rfl ?_; first | refine dr ?_ | exact dz)
    refine cP (fun h3 => ?_) (fun h3 => ?_)
    rotate_left
    · refine dr ?_
      refine ⟨k + 1, ⟨by omega, take_next (by omega) (by omega) he (by simpa using h3)⟩, by omega, ?_⟩
      refine dr ?_
      trivial
    · conv => whnf
      exact dF (ne_at (k := k) (by omega) (by omega) (by simpa using h3))
  · refine dr ?_
    have : k = a.length := by omega
    subst this
    exact dT (eq_of_takes (by omega) he)


def c_laws_eqMarkS : XC := (.s (.r [.ex 4 (.mv .n)]) (.s (.s (.r [.mv 6 0, .ex 7 (.len false (.t 6)), .mv 8 1, .ex 9 (.len false (.t 8)), .ex 10 (.bin .neq (.t 7) (.t 9))]) (.cnd (.t 10) (.s (.r [.ex 4 (.mv .n)]) .ret) .skip)) (.s (.s (.r [.ex 5 (.mv (.i 0))]) (.blk 0 (.loop (.s (.s (.r [.mv 11 5, .mv 12 0, .ex 13 (.len false (.t 12)), .ex 14 (.bin .lss (.t 11) (.t 13))]) (.cnd (.t 14) .skip (.exit 0))) (.s (.blk 1 (.s (.d [.mv 17 0, .mv 18 5, .ex 19 (.ia 3 (.t 17) (.t 18)), .ex 20 (.ld true 3 (.t 19)), .mv 21 1, .mv 22 5, .ex 23 (.ia 3 (.t 21) (.t 22)), .ex 24 (.ld true 3 (.t 23)), .ex 25 (.call 264 [(.t 20), (.t 24)]), .ex 26 (.un .not (.t 25))]) (.cnd (.t 26) (.s (.r [.ex 4 (.mv .n)]) .ret) .skip))) (.r [.mv 15 5, .ex 16 (.bin .add (.t 15) (.i 1)), .mv 5 16])))))) (.s (.r [.ex 4 (.mv .y)]) .ret))))
theorem c_laws_eqMarkS_eq : compF Go.Proofs.Tryz.prog [] 208 = some (c_laws_eqMarkS.ac, [(.t 4)], 27) := by kernel_rfl

theorem f_laws_eqMarkS (W0 : World) (a b : List Mark) : Fn Go.Proofs.Tryz.prog W0 208 [eMarks a, eMarks b] (.c (CB (decide (a = b)))) [] := by
  refine fnX (c := c_laws_eqMarkS) mixed c_laws_eqMarkS_eq (by simp) rfl fun hg => ?_
  have g1 := goodRow (hg _ (by simp : eMarks a ∈ _))
  refine dr ?_
  refine cP (fun h1 => ?_) (fun h1 => ?_)
  · conv => whnf
    exact dF (ne_len (by omega))
  conv => whnf
  refine lp (σ := Nat) (fun k => [(0, .c (eMarks a)), (1, .c (eMarks b)), (5, I k)]) (fun _ => []) (fun k => k ≤ a.length ∧ a.take k = b.take k) (fun k => a.length - k) 0 ⟨by simp, by simp⟩ ?_ ?_
  · refine dr ?_
    trivial
  rintro k ⟨hk, he⟩
  refine dr ?_
  refine cP (fun h2 => ?_) (fun h2 => ?_)
  · refine dr ?_
    repeat (refine c0 (f_eqMark W0 _ _) rfl ?_; first | refine dr ?_ | exact dz)
    refine cP (fun h3 => ?_) (fun h3 => ?_)
    rotate_left
    · refine dr ?_
      refine ⟨k + 1, ⟨by omega, take_next (by omega) (by omega) he (by simpa using h3)⟩, by omega, ?_⟩
      refine dr ?_
      trivial
    · conv => whnf
      exact dF (ne_at (k := k) (by omega) (by omega) (by simpa using h3))
  · refine dr ?_
    have : k = a.length := by omega
    subst this
    exact dT (eq_of_takes (by omega) he)


def c_laws_eqMarkSS : XC := (.s (.r [.ex 4 (.mv .n)]) (.s (.s (.r [.mv 6 0, .ex 7 (.len false (.t 6)), .mv 8 1, .ex 9 (.len false (.t 8)), .ex 10 (.bin .neq (.t 7) (.t 9))]) (.cnd (.t 10) (.s (.r [.ex 4 (.mv .n)]) .ret) .skip)) (.s (.s (.r [.ex 5 (.mv (.i 0))]) (.blk 0 (.loop (.s (.s (.r [.mv 11 5, .mv 12 0, .ex 13 (.len false (.t 12)), .ex 14 (.bin .lss (.t 11) (.t 13))]) (.cnd (.t 14) .skip (.exit 0))) (.s (.blk 1 (.s (.d [.mv 17 0, .mv 18 5, .ex 19 (.ia 1 (.t 17) (.t 18)), .ex 20 (.ld false 1 (.t 19)), .mv 21 1, .mv 22 5, .ex 23 (.ia 1 (.t 21) (.t 22)), .ex 24 (.ld false 1 (.t 23)), .ex 25 (.call 208 [(.t 20), (.t 24)]), .ex 26 (.un .not (.t 25))]) (.cnd (.t 26) (.s (.r [.ex 4 (.mv .n)]) .ret) .skip))) (.r [.mv 15 5, .ex 16 (.bin .add (.t 15) (.i 1)), .mv 5 16])))))) (.s (.r [.ex 4 (.mv .y)]) .ret))))
theorem c_laws_eqMarkSS_eq : compF Go.Proofs.Tryz.prog [] 207 = some (c_laws_eqMarkSS.ac, [(.t 4)], 27) := by kernel_rfl

theorem f_laws_eqMarkSS (W0 : World) (a b : List (List Mark)) : Fn Go.Proofs.Tryz.prog W0 207 [eMarkss a, eMarkss b] (.c (CB (decide (a = b)))) [] := by
  refine fnX (c := c_laws_eqMarkSS) mixed c_laws_eqMarkSS_eq (by simp) rfl fun hg => ?_
  have g1 := goodRow (hg _ (by simp : eMarkss a ∈ _))
  refine dr ?_
  refine cP (fun h1 => ?_) (fun h1 => ?_)
  · conv => whnf
    exact dF (ne_len (by omega))
  conv => whnf
  refine lp (σ := Nat) (fun k => [(0, .c (eMarkss a)), (1, .c (eMarkss b)), (5, I k)]) (fun _ => []) (fun k => k ≤ a.length ∧ a.take k = b.take k) (fun k => a.length - k) 0 ⟨by simp, by simp⟩ ?_ ?_
  · refine dr ?_
    trivial
  rintro k ⟨hk, he⟩
  refine dr ?_
  refine cP (fun h2 => ?_) (fun h2 => ?_)
  · refine dr ?_
    repeat (refine c0 (f_laws_eqMarkS W0 _ _) rfl ?_; first | refine dr ?_ | exact dz)
    refine cP (fun h3 => ?_) (fun h3 => ?_)
    rotate_left
    · refine dr ?_
      refine ⟨k + 1, ⟨by omega, take_next (by omega) (by omega) he (by simpa using h3)⟩, by omega, ?_⟩
      refine dr ?_
      trivial
    · conv => whnf
      exact dF (ne_at (k := k) (by omega) (by omega) (by simpa using h3))
  · refine dr ?_
    have : k = a.length := by omega
    subst this
    exact dT (eq_of_takes (by omega) he)


end Go.Proofs.YthblflnfhdnpdaaGreatDoor
