/- The walks of the laws over OverOk and OverGet; no condition but one on a package variable that start-up code lays. -/
import Derived.Test.YtjndfhgdlclooaaGreatDoorIb5
import Derived.Test.YtjndfhgdlclooaaGreatDoorPb6
namespace Go.Proofs.YtjndfhgdlclooaaGreatDoor
set_option linter.unusedSimpArgs false
set_option linter.unusedVariables false
open Go Go.RowKit

theorem hM_of {W : World} (h : W.ShapedOpen Go.Proofs.Tryz.prog) : HM W :=
  Go.Proofs.cell_of_shapedOpen_int (zero := #[.int .i64 0]) (t := 3) h (of_decide_eq_true (by kernel_rfl)) (by kernel_rfl) rfl (by kernel_rfl) (by kernel_rfl) Go.Proofs.Tryz.underlying3


def c_laws_FnExactOverOk : XC := (.s (.r [.ex 1 (.box (.t 0)), .ex 2 (.mv .n)]) (.s (.r [.ex 3 (.mv (.i 1048576))]) (.s (.r [.ex 7 (.ld true 3 (.t 1)), .mv 8 3, .ex 9 (.call 20 [(.t 7), (.t 8)]), .mv 3 9]) (.s (.s (.r [.mv 10 3, .ex 11 (.bin .lss (.t 10) (.i 0))]) (.cnd (.t 11) (.s (.r [.ex 2 (.mv .y)]) .ret) .skip)) (.s (.r [.ex 12 (.ld true 3 (.t 1)), .ex 13 (.call 22 [(.t 12)]), .ex 14 (.call 21 [(.t 13)]), .mv 4 14]) (.s (.r [.ex 15 (.ld true 3 (.t 1)), .ex 16 (.call 22 [(.t 15)]), .ex 5 (.alloc [.nil, .nil, .nil]), .nu (.st 3 (.t 5) (.t 16))]) (.s (.r [.ex 17 (.ld true 3 (.t 5)), .ex 18 (.call 23 [(.t 17)]), .mv 6 18]) (.s (.s (.r [.mv 19 6, .mv 20 4, .ex 21 (.bb true (.t 19) (.t 20))]) (.cnd (.t 21) (.s (.r [.ex 2 (.mv .n)]) .ret) .skip)) (.s (.s (.d [.ex 22 (.ld true 3 (.t 5)), .ex 23 (.ld true 3 (.t 1)), .ex 24 (.call 22 [(.t 23)]), .ex 25 (.call 24 [(.t 22), (.t 24)]), .ex 26 (.un .not (.t 25))]) (.cnd (.t 26) (.s (.r [.ex 2 (.mv .n)]) .ret) .skip)) (.s (.r [.ex 2 (.mv .y)]) .ret))))))))))
theorem c_laws_FnExactOverOk_eq : compF Go.Proofs.Tryz.prog [] 5 = some (c_laws_FnExactOverOk.ac, [(.t 2)], 27) := by kernel_rfl

theorem f_FnExactOverOk (W0 : World) (hs : W0.ShapedOpen Go.Proofs.Tryz.prog) (a : Over) : Fn Go.Proofs.Tryz.prog W0 5 [eOver a] (.c (CB true)) [] := by
  have hM := hM_of hs
  refine fnX (c := c_laws_FnExactOverOk) mixed c_laws_FnExactOverOk_eq (by simp) rfl fun hg => ?_
  have z1 := @szOver_le a 1048576 (by omega)
  refine dr ?_
  repeat (refine c0 (f_szOver W0 a _ (by omega)) rfl ?_; first | refine dr ?_ | exact dz)
  intro hg1
  conv => whnf
  refine cP (fun h1 => ?_) (fun h1 => ?_)
  · exact dz
  have fa := szOver_fit (by omega) (by omega) h1
  refine dEr ?_
  repeat ((first | refine c0 (f_toOver W0 a fa.h1 fa.h2 fa.h3 fa.h4) rfl ?_ | refine c0 (f_spec_OverOk W0 a) rfl ?_ | refine c0 (f_impl_OverOk W0 hM a) rfl ?_); first | refine dEr ?_ | exact dz)
  refine cP (fun h3 => ?_) (fun h3 => ?_)
  · exact absurd rfl h3
  refine dEr ?_
  repeat ((first | refine c0 (f_toOver W0 a fa.h1 fa.h2 fa.h3 fa.h4) rfl ?_ | refine c0 (f_eqOver W0 a a) rfl ?_); first | refine dEr ?_ | exact dz)
  refine cP (fun h4 => ?_) (fun h4 => ?_)
  · simp at h4
  exact dz


def c_laws_FnExactOverGet : XC := (.s (.r [.ex 2 (.box (.t 0)), .ex 4 (.mv .n)]) (.s (.s (.r [.mv 13 1, .ex 14 (.len true (.t 13)), .ex 15 (.bin .gtr (.t 14) (.i 1048576))]) (.cnd (.t 15) (.s (.r [.ex 4 (.mv .y)]) .ret) .skip)) (.s (.r [.ex 5 (.mv (.i 1048576))]) (.s (.r [.ex 16 (.ld true 3 (.t 2)), .mv 17 5, .ex 18 (.call 20 [(.t 16), (.t 17)]), .mv 5 18]) (.s (.s (.r [.mv 19 5, .ex 20 (.bin .lss (.t 19) (.i 0))]) (.cnd (.t 20) (.s (.r [.ex 4 (.mv .y)]) .ret) .skip)) (.s (.r [.ex 22 (.ld true 3 (.t 2)), .ex 23 (.call 22 [(.t 22)]), .mv 24 1, .ex 25 (.call 29 [(.t 23), (.t 24)]), .mv 21 25, .ex 26 (.ext (.t 21) 0), .ex 27 (.ext (.t 21) 1), .ex 28 (.ext (.t 21) 2), .ex 6 (.alloc [(.c (.sc (.string ⟨#[]⟩))), (.c (.sc (.bool false))), (.c (.sc (.string ⟨#[]⟩)))]), .nu (.st 3 (.t 6) (.t 26)), .mv 7 27, .mv 8 28]) (.s (.r [.ex 29 (.ld true 3 (.t 2)), .ex 30 (.call 22 [(.t 29)]), .ex 9 (.alloc [.nil, .nil, .nil]), .nu (.st 3 (.t 9) (.t 30))]) (.s (.r [.ex 32 (.ld true 3 (.t 9)), .mv 33 1, .ex 34 (.call 30 [(.t 32), (.t 33)]), .mv 31 34, .ex 35 (.ext (.t 31) 0), .ex 36 (.ext (.t 31) 1), .ex 37 (.ext (.t 31) 2), .ex 10 (.alloc [(.c (.sc (.string ⟨#[]⟩))), (.c (.sc (.bool false))), (.c (.sc (.string ⟨#[]⟩)))]), .nu (.st 3 (.t 10) (.t 35)), .mv 11 36, .mv 12 37]) (.s (.s (.r [.ex 38 (.ld true 3 (.t 10)), .ex 39 (.ld true 3 (.t 6)), .ex 40 (.call 31 [(.t 38), (.t 39)]), .ex 41 (.un .not (.t 40)), .mv 42 41, .gf 43 (.mv (.t 11)) 42, .gf 44 (.mv (.t 7)) 42, .gf 45 (.bin .neq (.t 43) (.t 44)) 42, .ex 46 (.pick (.t 42) .y (.t 45)), .mv 47 46, .gf 48 (.mv (.t 12)) 47, .gf 49 (.mv (.t 8)) 47, .gf 50 (.bb true (.t 48) (.t 49)) 47, .ex 51 (.pick (.t 47) .y (.t 50))]) (.cnd (.t 51) (.s (.r [.ex 4 (.mv .n)]) .ret) .skip)) (.s (.s (.d [.ex 52 (.ld true 3 (.t 9)), .ex 53 (.ld true 3 (.t 2)), .ex 54 (.call 22 [(.t 53)]), .ex 55 (.call 24 [(.t 52), (.t 54)]), .ex 56 (.un .not (.t 55))]) (.cnd (.t 56) (.s (.r [.ex 4 (.mv .n)]) .ret) .skip)) (.s (.r [.ex 4 (.mv .y)]) .ret)))))))))))
theorem c_laws_FnExactOverGet_eq : compF Go.Proofs.Tryz.prog [] 9 = some (c_laws_FnExactOverGet.ac, [(.t 4)], 57) := by kernel_rfl

theorem eOGet_eq (x : Option (Ent × Int)) : eOGet x = .tup [eEnt (x.getD (noE, 0)).1, CI (x.getD (noE, 0)).2, CB x.isSome] := by cases x <;> rfl
theorem f_FnExactOverGet (W0 : World) (hs : W0.ShapedOpen Go.Proofs.Tryz.prog) (a : Over) (p : Str) : Fn Go.Proofs.Tryz.prog W0 9 [eOver a, CS p] (.c (CB true)) [] := by
  have hM := hM_of hs
  refine fnX (c := c_laws_FnExactOverGet) mixed c_laws_FnExactOverGet_eq (by simp) rfl fun hg => ?_
  have z1 := @szOver_le a 1048576 (by omega)
  refine dr ?_
  refine cP (fun h0 => ?_) (fun h0 => ?_)
  · exact dz
  refine dr ?_
  repeat (refine c0 (f_szOver W0 a _ (by omega)) rfl ?_; first | refine dr ?_ | exact dz)
  intro hg1
  conv => whnf
  refine cP (fun h1 => ?_) (fun h1 => ?_)
  · exact dz
  have fa := szOver_fit (by omega) (by omega) h1
  have c1 := f_spec_OverGet W0 a p
  have c2 := f_impl_OverGet W0 hM a p
  rw [eOGet_eq] at c1 c2
  refine dEr ?_
  repeat ((first | refine c0 (f_toOver W0 a fa.h1 fa.h2 fa.h3 fa.h4) rfl ?_ | refine c0 c1 rfl ?_ | refine c0 c2 rfl ?_ | refine c0 (f_eqEnt W0 _ _) rfl ?_); first | refine dEr ?_ | exact dz)
  refine cP (fun h3 => ?_) (fun h3 => ?_)
  · simp at h3
  refine dr ?_
  refine cP (fun h4 => ?_) (fun h4 => ?_)
  · exact absurd rfl h4
  refine dr ?_
  refine cP (fun h5 => ?_) (fun h5 => ?_)
  · exact absurd rfl h5
  refine dEr ?_
  repeat ((first | refine c0 (f_toOver W0 a fa.h1 fa.h2 fa.h3 fa.h4) rfl ?_ | refine c0 (f_eqOver W0 a a) rfl ?_); first | refine dEr ?_ | exact dz)
  refine cP (fun h6 => ?_) (fun h6 => ?_)
  · simp at h6
  exact dz


end Go.Proofs.YtjndfhgdlclooaaGreatDoor
