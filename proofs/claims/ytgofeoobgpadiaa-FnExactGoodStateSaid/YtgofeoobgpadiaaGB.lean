/- Functions as plain data, and that the code comes to them; no condition. -/

import Derived.Test.YtgofeoobgpadiaaGA
set_option linter.unusedVariables false
set_option maxRecDepth 100000
namespace Go.Proofs.Ytgofeoobgpadiaa
open Go Go.T
noncomputable def body100 : Code := match Try.f100.body with | some c => c | none => .skip
noncomputable def spec_l2Uses_j0  (p1 : Int) (v5 : Bool) : Option Str :=
  if v5 = true then
    some [97]
  else
    if (p1 == 16) = true then
      some [97, 98]
    else
      some []
theorem spec_l2Uses_j0_m {E : Env} (hP : E.P = Try.prog) (hn : E.n = 17) (hx : ∀ p, p ∈ E.fx → p.1 ∈ ([] : List Nat)) (p1 : Int)  (v5 : Bool) (r : Str) (h : spec_l2Uses_j0 p1 v5 = some r) : WAt E body100 (FQ (RetE Θ Try.f100.results.toList [] [] (SK r) E)) [true, false, true, false, true, true, true] ⟨[(3, (I p1)), (6, (B v5))], [], [JJ]⟩ := by
  have hm : E.P.follows .mixedOrders = true := by rw [hP]; exact mixed
  have hΘ : TOK E.P Θ := by rw [hP]; exact Θ_ok
  unfold spec_l2Uses_j0 at h
  rcases itS h with ⟨c6, h⟩ | ⟨c7, h⟩
  · have h := Option.some.inj h
    subst h
    exact go_ret hΘ hm hP hn (hs := [⟨0, .br true, none⟩]) (rh := []) (ph := .raw) (ps := [v5 = true, (SK [97]) = (SK [97]), litA (SK [97]) = true]) (by kernel_rfl) ⟨c6, rfl, rfl, trivial⟩
  · rcases itS h with ⟨c8, h⟩ | ⟨c9, h⟩
    · have h := Option.some.inj h
      subst h
      exact go_ret hΘ hm hP hn (hs := [⟨0, .br false, none⟩, ⟨3, .br true, none⟩]) (rh := []) (ph := .raw) (ps := [v5 = false, (p1 == 16) = true, (SK [97, 98]) = (SK [97, 98]), litA (SK [97, 98]) = true]) (by kernel_rfl) ⟨c7, c8, rfl, rfl, trivial⟩
    · have h := Option.some.inj h
      subst h
      exact go_ret hΘ hm hP hn (hs := [⟨0, .br false, none⟩, ⟨3, .br false, none⟩]) (rh := []) (ph := .raw) (ps := [v5 = false, (p1 == 16) = false, (SK []) = (SK []), litA (SK []) = true]) (by kernel_rfl) ⟨c7, c9, rfl, rfl, trivial⟩
noncomputable def spec_l2Uses (p1 : Int) : Option Str :=
  if (p1 == 1) = true then
    some [118]
  else
    if (p1 == 2) = true then
      spec_l2Uses_j0 p1 (p1 == 2)
    else
      if (p1 == 3) = true then
        spec_l2Uses_j0 p1 (p1 == 3)
      else
        if (p1 == 10) = true then
          spec_l2Uses_j0 p1 (p1 == 10)
        else
          if (p1 == 11) = true then
            spec_l2Uses_j0 p1 (p1 == 11)
          else
            if (p1 == 12) = true then
              spec_l2Uses_j0 p1 (p1 == 12)
            else
              if (p1 == 13) = true then
                spec_l2Uses_j0 p1 (p1 == 13)
              else
                if (p1 == 14) = true then
                  spec_l2Uses_j0 p1 (p1 == 14)
                else
                  spec_l2Uses_j0 p1 (p1 == 17)
theorem spec_l2Uses_m {p1 : Int} {r : Str} (h : spec_l2Uses p1 = some r) : Meets Try.prog 100 [(I p1)] (SK r) := by
  refine meets_ofC Θ_ok Try.func100 rfl (c := body100) (by kernel_rfl) (Nat.le_of_ble_eq_true rfl) ?_
  intro E hP hn hx
  replace hn : E.n = 17 := hn
  have hm : E.P.follows .mixedOrders = true := by rw [hP]; exact mixed
  have hΘ : TOK E.P Θ := by rw [hP]; exact Θ_ok
  unfold spec_l2Uses at h
  show WAt E body100 (FQ (RetE Θ Try.f100.results.toList [] [] (SK r) E)) [] ⟨[(0, (I p1))], [], [JJ]⟩
  rcases itS h with ⟨c2, h⟩ | ⟨c3, h⟩
  · have h := Option.some.inj h
    subst h
    exact go_ret hΘ hm hP hn (hs := [⟨4, .br true, none⟩]) (rh := []) (ph := .raw) (ps := [(p1 == 1) = true, (SK [118]) = (SK [118]), litA (SK [118]) = true]) (by kernel_rfl) ⟨c2, rfl, rfl, trivial⟩
  · rcases itS h with ⟨c4, h⟩ | ⟨c10, h⟩
    · exact go_to hΘ hm hx hP hn (hs := [⟨4, .br false, none⟩, ⟨7, .br true, none⟩]) (π := []) (ts := [3, 6]) (kp := []) (ps := [(p1 == 1) = false, (p1 == 2) = true]) (by kernel_rfl) ⟨c3, c4, trivial⟩ (spec_l2Uses_j0_m hP hn hx p1 (p1 == 2) _ h)
    · rcases itS h with ⟨c11, h⟩ | ⟨c12, h⟩
      · exact go_to hΘ hm hx hP hn (hs := [⟨4, .br false, none⟩, ⟨7, .br false, none⟩, ⟨10, .br true, none⟩]) (π := []) (ts := [3, 6]) (kp := []) (ps := [(p1 == 1) = false, (p1 == 2) = false, (p1 == 3) = true]) (by kernel_rfl) ⟨c3, c10, c11, trivial⟩ (spec_l2Uses_j0_m hP hn hx p1 (p1 == 3) _ h)
      · rcases itS h with ⟨c13, h⟩ | ⟨c14, h⟩
        · exact go_to hΘ hm hx hP hn (hs := [⟨4, .br false, none⟩, ⟨7, .br false, none⟩, ⟨10, .br false, none⟩, ⟨13, .br true, none⟩]) (π := []) (ts := [3, 6]) (kp := []) (ps := [(p1 == 1) = false, (p1 == 2) = false, (p1 == 3) = false, (p1 == 10) = true]) (by kernel_rfl) ⟨c3, c10, c12, c13, trivial⟩ (spec_l2Uses_j0_m hP hn hx p1 (p1 == 10) _ h)
        · rcases itS h with ⟨c15, h⟩ | ⟨c16, h⟩
          · exact go_to hΘ hm hx hP hn (hs := [⟨4, .br false, none⟩, ⟨7, .br false, none⟩, ⟨10, .br false, none⟩, ⟨13, .br false, none⟩, ⟨16, .br true, none⟩]) (π := []) (ts := [3, 6]) (kp := []) (ps := [(p1 == 1) = false, (p1 == 2) = false, (p1 == 3) = false, (p1 == 10) = false, (p1 == 11) = true]) (by kernel_rfl) ⟨c3, c10, c12, c14, c15, trivial⟩ (spec_l2Uses_j0_m hP hn hx p1 (p1 == 11) _ h)
          · rcases itS h with ⟨c17, h⟩ | ⟨c18, h⟩
            · exact go_to hΘ hm hx hP hn (hs := [⟨4, .br false, none⟩, ⟨7, .br false, none⟩, ⟨10, .br false, none⟩, ⟨13, .br false, none⟩, ⟨16, .br false, none⟩, ⟨19, .br true, none⟩]) (π := []) (ts := [3, 6]) (kp := []) (ps := [(p1 == 1) = false, (p1 == 2) = false, (p1 == 3) = false, (p1 == 10) = false, (p1 == 11) = false, (p1 == 12) = true]) (by kernel_rfl) ⟨c3, c10, c12, c14, c16, c17, trivial⟩ (spec_l2Uses_j0_m hP hn hx p1 (p1 == 12) _ h)
            · rcases itS h with ⟨c19, h⟩ | ⟨c20, h⟩
              · exact go_to hΘ hm hx hP hn (hs := [⟨4, .br false, none⟩, ⟨7, .br false, none⟩, ⟨10, .br false, none⟩, ⟨13, .br false, none⟩, ⟨16, .br false, none⟩, ⟨19, .br false, none⟩, ⟨22, .br true, none⟩]) (π := []) (ts := [3, 6]) (kp := []) (ps := [(p1 == 1) = false, (p1 == 2) = false, (p1 == 3) = false, (p1 == 10) = false, (p1 == 11) = false, (p1 == 12) = false, (p1 == 13) = true]) (by kernel_rfl) ⟨c3, c10, c12, c14, c16, c18, c19, trivial⟩ (spec_l2Uses_j0_m hP hn hx p1 (p1 == 13) _ h)
              · rcases itS h with ⟨c21, h⟩ | ⟨c22, h⟩
                · exact go_to hΘ hm hx hP hn (hs := [⟨4, .br false, none⟩, ⟨7, .br false, none⟩, ⟨10, .br false, none⟩, ⟨13, .br false, none⟩, ⟨16, .br false, none⟩, ⟨19, .br false, none⟩, ⟨22, .br false, none⟩, ⟨25, .br true, none⟩]) (π := []) (ts := [3, 6]) (kp := []) (ps := [(p1 == 1) = false, (p1 == 2) = false, (p1 == 3) = false, (p1 == 10) = false, (p1 == 11) = false, (p1 == 12) = false, (p1 == 13) = false, (p1 == 14) = true]) (by kernel_rfl) ⟨c3, c10, c12, c14, c16, c18, c20, c21, trivial⟩ (spec_l2Uses_j0_m hP hn hx p1 (p1 == 14) _ h)
                · exact go_to hΘ hm hx hP hn (hs := [⟨4, .br false, none⟩, ⟨7, .br false, none⟩, ⟨10, .br false, none⟩, ⟨13, .br false, none⟩, ⟨16, .br false, none⟩, ⟨19, .br false, none⟩, ⟨22, .br false, none⟩, ⟨25, .br false, none⟩]) (π := []) (ts := [3, 6]) (kp := []) (ps := [(p1 == 1) = false, (p1 == 2) = false, (p1 == 3) = false, (p1 == 10) = false, (p1 == 11) = false, (p1 == 12) = false, (p1 == 13) = false, (p1 == 14) = false]) (by kernel_rfl) ⟨c3, c10, c12, c14, c16, c18, c20, c22, trivial⟩ (spec_l2Uses_j0_m hP hn hx p1 (p1 == 17) _ h)
noncomputable def body90 : Code := match Try.f90.body with | some c => c | none => .skip
noncomputable def spec_l2Plain_j0  (p1 : GOp) (r2 : Str)  : Option Bool :=
  if (r2 == [118]) = true then
    if (r2 == [97]) = true then
      if (r2 == [97, 98]) = true then
        some true
      else
        some (p1.B == 0)
    else
      if (r2 == [97, 98]) = true then
        if (r2 == [97, 98]) = true then
          some true
        else
          some (p1.B == 0)
      else
        if (p1.A == 0) = true then
          if (r2 == [97, 98]) = true then
            some true
          else
            some (p1.B == 0)
        else
          some false
  else
    Option.bind (spec_l1SameNum p1.V 0) fun r26 =>
    if r26 = true then
      if (r2 == [97]) = true then
        if (r2 == [97, 98]) = true then
          some true
        else
          some (p1.B == 0)
      else
        if (r2 == [97, 98]) = true then
          if (r2 == [97, 98]) = true then
            some true
          else
            some (p1.B == 0)
        else
          if (p1.A == 0) = true then
            if (r2 == [97, 98]) = true then
              some true
            else
              some (p1.B == 0)
          else
            some false
    else
      some false
theorem spec_l2Plain_j0_m {E : Env} (hP : E.P = Try.prog) (hn : E.n = 52) (hx : ∀ p, p ∈ E.fx → p.1 ∈ ([] : List Nat)) (p1 : GOp) (r2 : Str)   (r : Bool) (h : spec_l2Plain_j0 p1 r2  = some r) : WAt E body90 (FQ (RetE Θ Try.f90.results.toList [] [] (B r) E)) [true, true, false, true, true] ⟨[(1, (AV.ptr 1 0 0)), (3, (SK r2))], [(1, some ⟨85, 4, [((o85 p1))]⟩)], [1, JJ]⟩ := by
  have hm : E.P.follows .mixedOrders = true := by rw [hP]; exact mixed
  have hΘ : TOK E.P Θ := by rw [hP]; exact Θ_ok
  unfold spec_l2Plain_j0 at h
  rcases itS h with ⟨c12, h⟩ | ⟨c25, h⟩
  · rcases itS h with ⟨c13, h⟩ | ⟨c16, h⟩
    · rcases itS h with ⟨c14, h⟩ | ⟨c15, h⟩
      · have h := Option.some.inj h
        subst h
        exact go_ret hΘ hm hP hn (hs := [⟨1, .bin (B (r2 == [118])), none⟩, ⟨2, .no, some (B true)⟩, ⟨9, .bin (B (r2 == [97])), none⟩, ⟨10, .no, some (B true)⟩, ⟨22, .bin (B (r2 == [97, 98])), none⟩, ⟨23, .no, some (B true)⟩]) (rh := []) (ph := .raw) (ps := [BinS Try.prog .eql 9 (SK r2) (SK [118]) (B (r2 == [118])), (B (r2 == [118])) = (B true), BinS Try.prog .eql 9 (SK r2) (SK [97]) (B (r2 == [97])), (B (r2 == [97])) = (B true), BinS Try.prog .eql 9 (SK r2) (SK [97, 98]) (B (r2 == [97, 98])), (B (r2 == [97, 98])) = (B true), (B true) = (B true), litA (B true) = true]) (by kernel_rfl) ⟨sEql, (litB c12), sEql, (litB c13), sEql, (litB c14), rfl, rfl, trivial⟩
      · have h := Option.some.inj h
        subst h
        exact go_ret hΘ hm hP hn (hs := [⟨1, .bin (B (r2 == [118])), none⟩, ⟨2, .no, some (B true)⟩, ⟨9, .bin (B (r2 == [97])), none⟩, ⟨10, .no, some (B true)⟩, ⟨22, .bin (B (r2 == [97, 98])), none⟩, ⟨23, .no, some (B false)⟩]) (rh := []) (ph := .raw) (ps := [BinS Try.prog .eql 9 (SK r2) (SK [118]) (B (r2 == [118])), (B (r2 == [118])) = (B true), BinS Try.prog .eql 9 (SK r2) (SK [97]) (B (r2 == [97])), (B (r2 == [97])) = (B true), BinS Try.prog .eql 9 (SK r2) (SK [97, 98]) (B (r2 == [97, 98])), (B (r2 == [97, 98])) = (B false), (B (p1.B == 0)) = (B (p1.B == 0)), litA (B (p1.B == 0)) = true]) (by kernel_rfl) ⟨sEql, (litB c12), sEql, (litB c13), sEql, (litB c15), rfl, rfl, trivial⟩
    · rcases itS h with ⟨c17, h⟩ | ⟨c20, h⟩
      · rcases itS h with ⟨c18, h⟩ | ⟨c19, h⟩
        · have h := Option.some.inj h
          subst h
          exact go_ret hΘ hm hP hn (hs := [⟨1, .bin (B (r2 == [118])), none⟩, ⟨2, .no, some (B true)⟩, ⟨9, .bin (B (r2 == [97])), none⟩, ⟨10, .no, some (B false)⟩, ⟨12, .bin (B (r2 == [97, 98])), none⟩, ⟨14, .no, some (B true)⟩, ⟨22, .bin (B (r2 == [97, 98])), none⟩, ⟨23, .no, some (B true)⟩]) (rh := []) (ph := .raw) (ps := [BinS Try.prog .eql 9 (SK r2) (SK [118]) (B (r2 == [118])), (B (r2 == [118])) = (B true), BinS Try.prog .eql 9 (SK r2) (SK [97]) (B (r2 == [97])), (B (r2 == [97])) = (B false), BinS Try.prog .eql 9 (SK r2) (SK [97, 98]) (B (r2 == [97, 98])), (B (r2 == [97, 98])) = (B true), BinS Try.prog .eql 9 (SK r2) (SK [97, 98]) (B (r2 == [97, 98])), (B (r2 == [97, 98])) = (B true), (B true) = (B true), litA (B true) = true]) (by kernel_rfl) ⟨sEql, (litB c12), sEql, (litB c16), sEql, (litB c17), sEql, (litB c18), rfl, rfl, trivial⟩
        · have h := Option.some.inj h
          subst h
          exact go_ret hΘ hm hP hn (hs := [⟨1, .bin (B (r2 == [118])), none⟩, ⟨2, .no, some (B true)⟩, ⟨9, .bin (B (r2 == [97])), none⟩, ⟨10, .no, some (B false)⟩, ⟨12, .bin (B (r2 == [97, 98])), none⟩, ⟨14, .no, some (B true)⟩, ⟨22, .bin (B (r2 == [97, 98])), none⟩, ⟨23, .no, some (B false)⟩]) (rh := []) (ph := .raw) (ps := [BinS Try.prog .eql 9 (SK r2) (SK [118]) (B (r2 == [118])), (B (r2 == [118])) = (B true), BinS Try.prog .eql 9 (SK r2) (SK [97]) (B (r2 == [97])), (B (r2 == [97])) = (B false), BinS Try.prog .eql 9 (SK r2) (SK [97, 98]) (B (r2 == [97, 98])), (B (r2 == [97, 98])) = (B true), BinS Try.prog .eql 9 (SK r2) (SK [97, 98]) (B (r2 == [97, 98])), (B (r2 == [97, 98])) = (B false), (B (p1.B == 0)) = (B (p1.B == 0)), litA (B (p1.B == 0)) = true]) (by kernel_rfl) ⟨sEql, (litB c12), sEql, (litB c16), sEql, (litB c17), sEql, (litB c19), rfl, rfl, trivial⟩
      · rcases itS h with ⟨c21, h⟩ | ⟨c24, h⟩
        · rcases itS h with ⟨c22, h⟩ | ⟨c23, h⟩
          · have h := Option.some.inj h
            subst h
            exact go_ret hΘ hm hP hn (hs := [⟨1, .bin (B (r2 == [118])), none⟩, ⟨2, .no, some (B true)⟩, ⟨9, .bin (B (r2 == [97])), none⟩, ⟨10, .no, some (B false)⟩, ⟨12, .bin (B (r2 == [97, 98])), none⟩, ⟨14, .no, some (B false)⟩, ⟨20, .no, some (B true)⟩, ⟨22, .bin (B (r2 == [97, 98])), none⟩, ⟨23, .no, some (B true)⟩]) (rh := []) (ph := .raw) (ps := [BinS Try.prog .eql 9 (SK r2) (SK [118]) (B (r2 == [118])), (B (r2 == [118])) = (B true), BinS Try.prog .eql 9 (SK r2) (SK [97]) (B (r2 == [97])), (B (r2 == [97])) = (B false), BinS Try.prog .eql 9 (SK r2) (SK [97, 98]) (B (r2 == [97, 98])), (B (r2 == [97, 98])) = (B false), (B (p1.A == 0)) = (B true), BinS Try.prog .eql 9 (SK r2) (SK [97, 98]) (B (r2 == [97, 98])), (B (r2 == [97, 98])) = (B true), (B true) = (B true), litA (B true) = true]) (by kernel_rfl) ⟨sEql, (litB c12), sEql, (litB c16), sEql, (litB c20), (litB c21), sEql, (litB c22), rfl, rfl, trivial⟩
          · have h := Option.some.inj h
            subst h
            exact go_ret hΘ hm hP hn (hs := [⟨1, .bin (B (r2 == [118])), none⟩, ⟨2, .no, some (B true)⟩, ⟨9, .bin (B (r2 == [97])), none⟩, ⟨10, .no, some (B false)⟩, ⟨12, .bin (B (r2 == [97, 98])), none⟩, ⟨14, .no, some (B false)⟩, ⟨20, .no, some (B true)⟩, ⟨22, .bin (B (r2 == [97, 98])), none⟩, ⟨23, .no, some (B false)⟩]) (rh := []) (ph := .raw) (ps := [BinS Try.prog .eql 9 (SK r2) (SK [118]) (B (r2 == [118])), (B (r2 == [118])) = (B true), BinS Try.prog .eql 9 (SK r2) (SK [97]) (B (r2 == [97])), (B (r2 == [97])) = (B false), BinS Try.prog .eql 9 (SK r2) (SK [97, 98]) (B (r2 == [97, 98])), (B (r2 == [97, 98])) = (B false), (B (p1.A == 0)) = (B true), BinS Try.prog .eql 9 (SK r2) (SK [97, 98]) (B (r2 == [97, 98])), (B (r2 == [97, 98])) = (B false), (B (p1.B == 0)) = (B (p1.B == 0)), litA (B (p1.B == 0)) = true]) (by kernel_rfl) ⟨sEql, (litB c12), sEql, (litB c16), sEql, (litB c20), (litB c21), sEql, (litB c23), rfl, rfl, trivial⟩
        · have h := Option.some.inj h
          subst h
          exact go_ret hΘ hm hP hn (hs := [⟨1, .bin (B (r2 == [118])), none⟩, ⟨2, .no, some (B true)⟩, ⟨9, .bin (B (r2 == [97])), none⟩, ⟨10, .no, some (B false)⟩, ⟨12, .bin (B (r2 == [97, 98])), none⟩, ⟨14, .no, some (B false)⟩, ⟨20, .no, some (B false)⟩]) (rh := []) (ph := .raw) (ps := [BinS Try.prog .eql 9 (SK r2) (SK [118]) (B (r2 == [118])), (B (r2 == [118])) = (B true), BinS Try.prog .eql 9 (SK r2) (SK [97]) (B (r2 == [97])), (B (r2 == [97])) = (B false), BinS Try.prog .eql 9 (SK r2) (SK [97, 98]) (B (r2 == [97, 98])), (B (r2 == [97, 98])) = (B false), (B (p1.A == 0)) = (B false), (B false) = (B false), litA (B false) = true]) (by kernel_rfl) ⟨sEql, (litB c12), sEql, (litB c16), sEql, (litB c20), (litB c24), rfl, rfl, trivial⟩
  · obtain ⟨r26, hr26, h⟩ := bnS h
    rcases itS h with ⟨c27, h⟩ | ⟨c40, h⟩
    · rcases itS h with ⟨c28, h⟩ | ⟨c31, h⟩
      · rcases itS h with ⟨c29, h⟩ | ⟨c30, h⟩
        · have h := Option.some.inj h
          subst h
          exact go_ret hΘ hm hP hn (hs := [⟨1, .bin (B (r2 == [118])), none⟩, ⟨2, .no, some (B false)⟩, ⟨5, .callV [] (B r26), none⟩, ⟨7, .no, some (B true)⟩, ⟨9, .bin (B (r2 == [97])), none⟩, ⟨10, .no, some (B true)⟩, ⟨22, .bin (B (r2 == [97, 98])), none⟩, ⟨23, .no, some (B true)⟩]) (rh := []) (ph := .raw) (ps := [BinS Try.prog .eql 9 (SK r2) (SK [118]) (B (r2 == [118])), (B (r2 == [118])) = (B false), Meets Try.prog 101 [(FK p1.V), (FK 0)] (B r26), litA (B r26) = true, (B r26) = (B true), BinS Try.prog .eql 9 (SK r2) (SK [97]) (B (r2 == [97])), (B (r2 == [97])) = (B true), BinS Try.prog .eql 9 (SK r2) (SK [97, 98]) (B (r2 == [97, 98])), (B (r2 == [97, 98])) = (B true), (B true) = (B true), litA (B true) = true]) (by kernel_rfl) ⟨sEql, (litB c25), (spec_l1SameNum_m hr26), rfl, (litB c27), sEql, (litB c28), sEql, (litB c29), rfl, rfl, trivial⟩
        · have h := Option.some.inj h
          subst h
          exact go_ret hΘ hm hP hn (hs := [⟨1, .bin (B (r2 == [118])), none⟩, ⟨2, .no, some (B false)⟩, ⟨5, .callV [] (B r26), none⟩, ⟨7, .no, some (B true)⟩, ⟨9, .bin (B (r2 == [97])), none⟩, ⟨10, .no, some (B true)⟩, ⟨22, .bin (B (r2 == [97, 98])), none⟩, ⟨23, .no, some (B false)⟩]) (rh := []) (ph := .raw) (ps := [BinS Try.prog .eql 9 (SK r2) (SK [118]) (B (r2 == [118])), (B (r2 == [118])) = (B false), Meets Try.prog 101 [(FK p1.V), (FK 0)] (B r26), litA (B r26) = true, (B r26) = (B true), BinS Try.prog .eql 9 (SK r2) (SK [97]) (B (r2 == [97])), (B (r2 == [97])) = (B true), BinS Try.prog .eql 9 (SK r2) (SK [97, 98]) (B (r2 == [97, 98])), (B (r2 == [97, 98])) = (B false), (B (p1.B == 0)) = (B (p1.B == 0)), litA (B (p1.B == 0)) = true]) (by kernel_rfl) ⟨sEql, (litB c25), (spec_l1SameNum_m hr26), rfl, (litB c27), sEql, (litB c28), sEql, (litB c30), rfl, rfl, trivial⟩
      · rcases itS h with ⟨c32, h⟩ | ⟨c35, h⟩
        · rcases itS h with ⟨c33, h⟩ | ⟨c34, h⟩
          · have h := Option.some.inj h
            subst h
            exact go_ret hΘ hm hP hn (hs := [⟨1, .bin (B (r2 == [118])), none⟩, ⟨2, .no, some (B false)⟩, ⟨5, .callV [] (B r26), none⟩, ⟨7, .no, some (B true)⟩, ⟨9, .bin (B (r2 == [97])), none⟩, ⟨10, .no, some (B false)⟩, ⟨12, .bin (B (r2 == [97, 98])), none⟩, ⟨14, .no, some (B true)⟩, ⟨22, .bin (B (r2 == [97, 98])), none⟩, ⟨23, .no, some (B true)⟩]) (rh := []) (ph := .raw) (ps := [BinS Try.prog .eql 9 (SK r2) (SK [118]) (B (r2 == [118])), (B (r2 == [118])) = (B false), Meets Try.prog 101 [(FK p1.V), (FK 0)] (B r26), litA (B r26) = true, (B r26) = (B true), BinS Try.prog .eql 9 (SK r2) (SK [97]) (B (r2 == [97])), (B (r2 == [97])) = (B false), BinS Try.prog .eql 9 (SK r2) (SK [97, 98]) (B (r2 == [97, 98])), (B (r2 == [97, 98])) = (B true), BinS Try.prog .eql 9 (SK r2) (SK [97, 98]) (B (r2 == [97, 98])), (B (r2 == [97, 98])) = (B true), (B true) = (B true), litA (B true) = true]) (by kernel_rfl) ⟨sEql, (litB c25), (spec_l1SameNum_m hr26), rfl, (litB c27), sEql, (litB c31), sEql, (litB c32), sEql, (litB c33), rfl, rfl, trivial⟩
          · have h := Option.some.inj h
            subst h
            exact go_ret hΘ hm hP hn (hs := [⟨1, .bin (B (r2 == [118])), none⟩, ⟨2, .no, some (B false)⟩, ⟨5, .callV [] (B r26), none⟩, ⟨7, .no, some (B true)⟩, ⟨9, .bin (B (r2 == [97])), none⟩, ⟨10, .no, some (B false)⟩, ⟨12, .bin (B (r2 == [97, 98])), none⟩, ⟨14, .no, some (B true)⟩, ⟨22, .bin (B (r2 == [97, 98])), none⟩, ⟨23, .no, some (B false)⟩]) (rh := []) (ph := .raw) (ps := [BinS Try.prog .eql 9 (SK r2) (SK [118]) (B (r2 == [118])), (B (r2 == [118])) = (B false), Meets Try.prog 101 [(FK p1.V), (FK 0)] (B r26), litA (B r26) = true, (B r26) = (B true), BinS Try.prog .eql 9 (SK r2) (SK [97]) (B (r2 == [97])), (B (r2 == [97])) = (B false), BinS Try.prog .eql 9 (SK r2) (SK [97, 98]) (B (r2 == [97, 98])), (B (r2 == [97, 98])) = (B true), BinS Try.prog .eql 9 (SK r2) (SK [97, 98]) (B (r2 == [97, 98])), (B (r2 == [97, 98])) = (B false), (B (p1.B == 0)) = (B (p1.B == 0)), litA (B (p1.B == 0)) = true]) (by kernel_rfl) ⟨sEql, (litB c25), (spec_l1SameNum_m hr26), rfl, (litB c27), sEql, (litB c31), sEql, (litB c32), sEql, (litB c34), rfl, rfl, trivial⟩
        · rcases itS h with ⟨c36, h⟩ | ⟨c39, h⟩
          · rcases itS h with ⟨c37, h⟩ | ⟨c38, h⟩
            · have h := Option.some.inj h
              subst h
              exact go_ret hΘ hm hP hn (hs := [⟨1, .bin (B (r2 == [118])), none⟩, ⟨2, .no, some (B false)⟩, ⟨5, .callV [] (B r26), none⟩, ⟨7, .no, some (B true)⟩, ⟨9, .bin (B (r2 == [97])), none⟩, ⟨10, .no, some (B false)⟩, ⟨12, .bin (B (r2 == [97, 98])), none⟩, ⟨14, .no, some (B false)⟩, ⟨20, .no, some (B true)⟩, ⟨22, .bin (B (r2 == [97, 98])), none⟩, ⟨23, .no, some (B true)⟩]) (rh := []) (ph := .raw) (ps := [BinS Try.prog .eql 9 (SK r2) (SK [118]) (B (r2 == [118])), (B (r2 == [118])) = (B false), Meets Try.prog 101 [(FK p1.V), (FK 0)] (B r26), litA (B r26) = true, (B r26) = (B true), BinS Try.prog .eql 9 (SK r2) (SK [97]) (B (r2 == [97])), (B (r2 == [97])) = (B false), BinS Try.prog .eql 9 (SK r2) (SK [97, 98]) (B (r2 == [97, 98])), (B (r2 == [97, 98])) = (B false), (B (p1.A == 0)) = (B true), BinS Try.prog .eql 9 (SK r2) (SK [97, 98]) (B (r2 == [97, 98])), (B (r2 == [97, 98])) = (B true), (B true) = (B true), litA (B true) = true]) (by kernel_rfl) ⟨sEql, (litB c25), (spec_l1SameNum_m hr26), rfl, (litB c27), sEql, (litB c31), sEql, (litB c35), (litB c36), sEql, (litB c37), rfl, rfl, trivial⟩
            · have h := Option.some.inj h
              subst h
              exact go_ret hΘ hm hP hn (hs := [⟨1, .bin (B (r2 == [118])), none⟩, ⟨2, .no, some (B false)⟩, ⟨5, .callV [] (B r26), none⟩, ⟨7, .no, some (B true)⟩, ⟨9, .bin (B (r2 == [97])), none⟩, ⟨10, .no, some (B false)⟩, ⟨12, .bin (B (r2 == [97, 98])), none⟩, ⟨14, .no, some (B false)⟩, ⟨20, .no, some (B true)⟩, ⟨22, .bin (B (r2 == [97, 98])), none⟩, ⟨23, .no, some (B false)⟩]) (rh := []) (ph := .raw) (ps := [BinS Try.prog .eql 9 (SK r2) (SK [118]) (B (r2 == [118])), (B (r2 == [118])) = (B false), Meets Try.prog 101 [(FK p1.V), (FK 0)] (B r26), litA (B r26) = true, (B r26) = (B true), BinS Try.prog .eql 9 (SK r2) (SK [97]) (B (r2 == [97])), (B (r2 == [97])) = (B false), BinS Try.prog .eql 9 (SK r2) (SK [97, 98]) (B (r2 == [97, 98])), (B (r2 == [97, 98])) = (B false), (B (p1.A == 0)) = (B true), BinS Try.prog .eql 9 (SK r2) (SK [97, 98]) (B (r2 == [97, 98])), (B (r2 == [97, 98])) = (B false), (B (p1.B == 0)) = (B (p1.B == 0)), litA (B (p1.B == 0)) = true]) (by kernel_rfl) ⟨sEql, (litB c25), (spec_l1SameNum_m hr26), rfl, (litB c27), sEql, (litB c31), sEql, (litB c35), (litB c36), sEql, (litB c38), rfl, rfl, trivial⟩
          · have h := Option.some.inj h
            subst h
            exact go_ret hΘ hm hP hn (hs := [⟨1, .bin (B (r2 == [118])), none⟩, ⟨2, .no, some (B false)⟩, ⟨5, .callV [] (B r26), none⟩, ⟨7, .no, some (B true)⟩, ⟨9, .bin (B (r2 == [97])), none⟩, ⟨10, .no, some (B false)⟩, ⟨12, .bin (B (r2 == [97, 98])), none⟩, ⟨14, .no, some (B false)⟩, ⟨20, .no, some (B false)⟩]) (rh := []) (ph := .raw) (ps := [BinS Try.prog .eql 9 (SK r2) (SK [118]) (B (r2 == [118])), (B (r2 == [118])) = (B false), Meets Try.prog 101 [(FK p1.V), (FK 0)] (B r26), litA (B r26) = true, (B r26) = (B true), BinS Try.prog .eql 9 (SK r2) (SK [97]) (B (r2 == [97])), (B (r2 == [97])) = (B false), BinS Try.prog .eql 9 (SK r2) (SK [97, 98]) (B (r2 == [97, 98])), (B (r2 == [97, 98])) = (B false), (B (p1.A == 0)) = (B false), (B false) = (B false), litA (B false) = true]) (by kernel_rfl) ⟨sEql, (litB c25), (spec_l1SameNum_m hr26), rfl, (litB c27), sEql, (litB c31), sEql, (litB c35), (litB c39), rfl, rfl, trivial⟩
    · have h := Option.some.inj h
      subst h
      exact go_ret hΘ hm hP hn (hs := [⟨1, .bin (B (r2 == [118])), none⟩, ⟨2, .no, some (B false)⟩, ⟨5, .callV [] (B r26), none⟩, ⟨7, .no, some (B false)⟩]) (rh := []) (ph := .raw) (ps := [BinS Try.prog .eql 9 (SK r2) (SK [118]) (B (r2 == [118])), (B (r2 == [118])) = (B false), Meets Try.prog 101 [(FK p1.V), (FK 0)] (B r26), litA (B r26) = true, (B r26) = (B false), (B false) = (B false), litA (B false) = true]) (by kernel_rfl) ⟨sEql, (litB c25), (spec_l1SameNum_m hr26), rfl, (litB c40), rfl, rfl, trivial⟩
noncomputable def spec_l2Plain (p1 : GOp) : Option Bool :=
  Option.bind (spec_l2Uses p1.Code) fun r2 =>
  Option.bind (spec_l1In p1.Code 1 17) fun r3 =>
  if (!r3) = true then
    some false
  else
    Option.bind (spec_l1In p1.A 0 999) fun r6 =>
    if (!r6) = true then
      some false
    else
      Option.bind (spec_l1In p1.B 0 999) fun r9 =>
      if (!r9) = true then
        some false
      else
        spec_l2Plain_j0 p1 r2
theorem spec_l2Plain_m {p1 : GOp} {r : Bool} (h : spec_l2Plain p1 = some r) : Meets Try.prog 90 [(AV.agg ((o85 p1)))] (B r) := by
  refine meets_ofC Θ_ok Try.func90 rfl (c := body90) (by kernel_rfl) (Nat.le_of_ble_eq_true rfl) ?_
  intro E hP hn hx
  replace hn : E.n = 52 := hn
  have hm : E.P.follows .mixedOrders = true := by rw [hP]; exact mixed
  have hΘ : TOK E.P Θ := by rw [hP]; exact Θ_ok
  unfold spec_l2Plain at h
  show WAt E body90 (FQ (RetE Θ Try.f90.results.toList [] [] (B r) E)) [] ⟨[(0, (AV.agg ((o85 p1))))], [], [JJ]⟩
  obtain ⟨r2, hr2, h⟩ := bnS h
  obtain ⟨r3, hr3, h⟩ := bnS h
  rcases itS h with ⟨c4, h⟩ | ⟨c5, h⟩
  · have h := Option.some.inj h
    subst h
    exact go_ret hΘ hm hP hn (hs := [⟨0, .new 1001, none⟩, ⟨4, .callV [] (SK r2), none⟩, ⟨8, .callV [] (B r3), none⟩, ⟨10, .no, some (B true)⟩]) (rh := []) (ph := .raw) (ps := [Meets Try.prog 100 [(I p1.Code)] (SK r2), litA (SK r2) = true, Meets Try.prog 68 [(I p1.Code), (I 1), (I 17)] (B r3), litA (B r3) = true, (B (!r3)) = (B true), (B false) = (B false), litA (B false) = true]) (by kernel_rfl) ⟨(spec_l2Uses_m hr2), rfl, (spec_l1In_m hr3), rfl, (litB c4), rfl, rfl, trivial⟩
  · obtain ⟨r6, hr6, h⟩ := bnS h
    rcases itS h with ⟨c7, h⟩ | ⟨c8, h⟩
    · have h := Option.some.inj h
      subst h
      exact go_ret hΘ hm hP hn (hs := [⟨0, .new 1001, none⟩, ⟨4, .callV [] (SK r2), none⟩, ⟨8, .callV [] (B r3), none⟩, ⟨10, .no, some (B false)⟩, ⟨13, .callV [] (B r6), none⟩, ⟨16, .no, some (B true)⟩]) (rh := []) (ph := .raw) (ps := [Meets Try.prog 100 [(I p1.Code)] (SK r2), litA (SK r2) = true, Meets Try.prog 68 [(I p1.Code), (I 1), (I 17)] (B r3), litA (B r3) = true, (B (!r3)) = (B false), Meets Try.prog 68 [(I p1.A), (I 0), (I 999)] (B r6), litA (B r6) = true, (B (!r6)) = (B true), (B false) = (B false), litA (B false) = true]) (by kernel_rfl) ⟨(spec_l2Uses_m hr2), rfl, (spec_l1In_m hr3), rfl, (litB c5), (spec_l1In_m hr6), rfl, (litB c7), rfl, rfl, trivial⟩
    · obtain ⟨r9, hr9, h⟩ := bnS h
      rcases itS h with ⟨c10, h⟩ | ⟨c11, h⟩
      · have h := Option.some.inj h
        subst h
        exact go_ret hΘ hm hP hn (hs := [⟨0, .new 1001, none⟩, ⟨4, .callV [] (SK r2), none⟩, ⟨8, .callV [] (B r3), none⟩, ⟨10, .no, some (B false)⟩, ⟨13, .callV [] (B r6), none⟩, ⟨16, .no, some (B false)⟩, ⟨19, .callV [] (B r9), none⟩, ⟨22, .br true, none⟩]) (rh := []) (ph := .raw) (ps := [Meets Try.prog 100 [(I p1.Code)] (SK r2), litA (SK r2) = true, Meets Try.prog 68 [(I p1.Code), (I 1), (I 17)] (B r3), litA (B r3) = true, (B (!r3)) = (B false), Meets Try.prog 68 [(I p1.A), (I 0), (I 999)] (B r6), litA (B r6) = true, (B (!r6)) = (B false), Meets Try.prog 68 [(I p1.B), (I 0), (I 999)] (B r9), litA (B r9) = true, (!r9) = true, (B false) = (B false), litA (B false) = true]) (by kernel_rfl) ⟨(spec_l2Uses_m hr2), rfl, (spec_l1In_m hr3), rfl, (litB c5), (spec_l1In_m hr6), rfl, (litB c8), (spec_l1In_m hr9), rfl, c10, rfl, rfl, trivial⟩
      · exact go_to hΘ hm hx hP hn (hs := [⟨0, .new 1001, none⟩, ⟨4, .callV [] (SK r2), none⟩, ⟨8, .callV [] (B r3), none⟩, ⟨10, .no, some (B false)⟩, ⟨13, .callV [] (B r6), none⟩, ⟨16, .no, some (B false)⟩, ⟨19, .callV [] (B r9), none⟩, ⟨22, .br false, none⟩]) (π := [(1001, 1)]) (ts := [1, 3]) (kp := []) (ps := [Meets Try.prog 100 [(I p1.Code)] (SK r2), litA (SK r2) = true, Meets Try.prog 68 [(I p1.Code), (I 1), (I 17)] (B r3), litA (B r3) = true, (B (!r3)) = (B false), Meets Try.prog 68 [(I p1.A), (I 0), (I 999)] (B r6), litA (B r6) = true, (B (!r6)) = (B false), Meets Try.prog 68 [(I p1.B), (I 0), (I 999)] (B r9), litA (B r9) = true, (!r9) = false, RenOK [(1001, 1)] [((o85 p1))]]) (by kernel_rfl) ⟨(spec_l2Uses_m hr2), rfl, (spec_l1In_m hr3), rfl, (litB c5), (spec_l1In_m hr6), rfl, (litB c8), (spec_l1In_m hr9), rfl, c11, (rok rfl), trivial⟩ (spec_l2Plain_j0_m hP hn hx p1 r2  _ h)
noncomputable def body69 : Code := match Try.f69.body with | some c => c | none => .skip
noncomputable def spec_l2Op_j2  (p1 : GProg) (p3 : GOp) (v16 : Bool) : Option Bool :=
  if v16 = true then
    some (decide (p3.A < p1.Locks))
  else
    if (p3.Code == 14) = true then
      some (decide (p3.A < (p1.Routines.length : Int)))
    else
      if (p3.Code == 16) = true then
        if (decide (p3.A < p1.Conds)) = true then
          some (decide (p3.B < p1.Locks))
        else
          some false
      else
        if (p3.Code == 17) = true then
          some (decide (p3.A < p1.Conds))
        else
          some true
theorem spec_l2Op_j2_m {E : Env} (hP : E.P = Try.prog) (hn : E.n = 64) (hx : ∀ p, p ∈ E.fx → p.1 ∈ ([] : List Nat)) (p1 : GProg) (p3 : GOp)  (v16 : Bool) (r : Bool) (h : spec_l2Op_j2 p1 p3 v16 = some r) : WAt E body69 (FQ (RetE Θ Try.f69.results.toList [] [] (B r) E)) [true, true, false, true, false, true, true, true, true, true] ⟨[(3, (AV.ptr 1 0 0)), (5, (AV.ptr 2 0 0)), (11, (I p3.Code)), (27, (B v16))], [(1, some ⟨35, 4, [((r35 p1))]⟩), (2, some ⟨85, 4, [((o85 p3))]⟩)], [1, 2, JJ]⟩ := by
  have hm : E.P.follows .mixedOrders = true := by rw [hP]; exact mixed
  have hΘ : TOK E.P Θ := by rw [hP]; exact Θ_ok
  unfold spec_l2Op_j2 at h
  rcases itS h with ⟨c17, h⟩ | ⟨c18, h⟩
  · have h := Option.some.inj h
    subst h
    exact go_ret hΘ hm hP hn (hs := [⟨0, .br true, none⟩]) (rh := []) (ph := .raw) (ps := [v16 = true, (B (decide (p3.A < p1.Locks))) = (B (decide (p3.A < p1.Locks))), litA (B (decide (p3.A < p1.Locks))) = true]) (by kernel_rfl) ⟨c17, rfl, rfl, trivial⟩
  · rcases itS h with ⟨c19, h⟩ | ⟨c20, h⟩
    · have h := Option.some.inj h
      subst h
      exact go_ret hΘ hm hP hn (hs := [⟨0, .br false, none⟩, ⟨3, .br true, none⟩, ⟨8, .no, some (I (p1.Routines.length : Int))⟩]) (rh := []) (ph := .raw) (ps := [v16 = false, (p3.Code == 14) = true, AV.lit (.int .i64 (((p1.Routines.map r82).length : Nat) : Int)) = (I (p1.Routines.length : Int)), (B (decide (p3.A < (p1.Routines.length : Int)))) = (B (decide (p3.A < (p1.Routines.length : Int)))), litA (B (decide (p3.A < (p1.Routines.length : Int)))) = true]) (by kernel_rfl) ⟨c18, c19, (lenM r82), rfl, rfl, trivial⟩
    · rcases itS h with ⟨c21, h⟩ | ⟨c24, h⟩
      · rcases itS h with ⟨c22, h⟩ | ⟨c23, h⟩
        · have h := Option.some.inj h
          subst h
          exact go_ret hΘ hm hP hn (hs := [⟨0, .br false, none⟩, ⟨3, .br false, none⟩, ⟨6, .br true, none⟩, ⟨12, .no, some (B true)⟩]) (rh := []) (ph := .raw) (ps := [v16 = false, (p3.Code == 14) = false, (p3.Code == 16) = true, (B (decide (p3.A < p1.Conds))) = (B true), (B (decide (p3.B < p1.Locks))) = (B (decide (p3.B < p1.Locks))), litA (B (decide (p3.B < p1.Locks))) = true]) (by kernel_rfl) ⟨c18, c20, c21, (litB c22), rfl, rfl, trivial⟩
        · have h := Option.some.inj h
          subst h
          exact go_ret hΘ hm hP hn (hs := [⟨0, .br false, none⟩, ⟨3, .br false, none⟩, ⟨6, .br true, none⟩, ⟨12, .no, some (B false)⟩]) (rh := []) (ph := .raw) (ps := [v16 = false, (p3.Code == 14) = false, (p3.Code == 16) = true, (B (decide (p3.A < p1.Conds))) = (B false), (B false) = (B false), litA (B false) = true]) (by kernel_rfl) ⟨c18, c20, c21, (litB c23), rfl, rfl, trivial⟩
      · rcases itS h with ⟨c25, h⟩ | ⟨c26, h⟩
        · have h := Option.some.inj h
          subst h
          exact go_ret hΘ hm hP hn (hs := [⟨0, .br false, none⟩, ⟨3, .br false, none⟩, ⟨6, .br false, none⟩, ⟨9, .br true, none⟩]) (rh := []) (ph := .raw) (ps := [v16 = false, (p3.Code == 14) = false, (p3.Code == 16) = false, (p3.Code == 17) = true, (B (decide (p3.A < p1.Conds))) = (B (decide (p3.A < p1.Conds))), litA (B (decide (p3.A < p1.Conds))) = true]) (by kernel_rfl) ⟨c18, c20, c24, c25, rfl, rfl, trivial⟩
        · have h := Option.some.inj h
          subst h
          exact go_ret hΘ hm hP hn (hs := [⟨0, .br false, none⟩, ⟨3, .br false, none⟩, ⟨6, .br false, none⟩, ⟨9, .br false, none⟩]) (rh := []) (ph := .raw) (ps := [v16 = false, (p3.Code == 14) = false, (p3.Code == 16) = false, (p3.Code == 17) = false, (B true) = (B true), litA (B true) = true]) (by kernel_rfl) ⟨c18, c20, c24, c26, rfl, rfl, trivial⟩
noncomputable def spec_l2Op_j1  (p1 : GProg) (p2 : Int) (p3 : GOp) (v12 : Bool) : Option Bool :=
  if v12 = true then
    some (decide (p3.A ≤ p2))
  else
    if (p3.Code == 12) = true then
      spec_l2Op_j2 p1 p3 (p3.Code == 12)
    else
      spec_l2Op_j2 p1 p3 (p3.Code == 13)
theorem spec_l2Op_j1_m {E : Env} (hP : E.P = Try.prog) (hn : E.n = 64) (hx : ∀ p, p ∈ E.fx → p.1 ∈ ([] : List Nat)) (p1 : GProg) (p2 : Int) (p3 : GOp)  (v12 : Bool) (r : Bool) (h : spec_l2Op_j1 p1 p2 p3 v12 = some r) : WAt E body69 (FQ (RetE Θ Try.f69.results.toList [] [] (B r) E)) [true, true, false, true, false, true, true, true] ⟨[(1, (I p2)), (3, (AV.ptr 1 0 0)), (5, (AV.ptr 2 0 0)), (11, (I p3.Code)), (20, (B v12))], [(1, some ⟨35, 4, [((r35 p1))]⟩), (2, some ⟨85, 4, [((o85 p3))]⟩)], [1, 2, JJ]⟩ := by
  have hm : E.P.follows .mixedOrders = true := by rw [hP]; exact mixed
  have hΘ : TOK E.P Θ := by rw [hP]; exact Θ_ok
  unfold spec_l2Op_j1 at h
  rcases itS h with ⟨c13, h⟩ | ⟨c14, h⟩
  · have h := Option.some.inj h
    subst h
    exact go_ret hΘ hm hP hn (hs := [⟨0, .br true, none⟩]) (rh := []) (ph := .raw) (ps := [v12 = true, (B (decide (p3.A ≤ p2))) = (B (decide (p3.A ≤ p2))), litA (B (decide (p3.A ≤ p2))) = true]) (by kernel_rfl) ⟨c13, rfl, rfl, trivial⟩
  · rcases itS h with ⟨c15, h⟩ | ⟨c27, h⟩
    · exact go_to hΘ hm hx hP hn (hs := [⟨0, .br false, none⟩, ⟨3, .br true, none⟩]) (π := [(1, 1), (2, 2)]) (ts := [3, 5, 11, 27]) (kp := []) (ps := [v12 = false, (p3.Code == 12) = true, RenOK [(1, 1), (2, 2)] [((r35 p1))], RenOK [(1, 1), (2, 2)] [((o85 p3))]]) (by kernel_rfl) ⟨c14, c15, (rok (treeB t35 p1)), (rok rfl), trivial⟩ (spec_l2Op_j2_m hP hn hx p1 p3 (p3.Code == 12) _ h)
    · exact go_to hΘ hm hx hP hn (hs := [⟨0, .br false, none⟩, ⟨3, .br false, none⟩]) (π := [(1, 1), (2, 2)]) (ts := [3, 5, 11, 27]) (kp := []) (ps := [v12 = false, (p3.Code == 12) = false, RenOK [(1, 1), (2, 2)] [((r35 p1))], RenOK [(1, 1), (2, 2)] [((o85 p3))]]) (by kernel_rfl) ⟨c14, c27, (rok (treeB t35 p1)), (rok rfl), trivial⟩ (spec_l2Op_j2_m hP hn hx p1 p3 (p3.Code == 13) _ h)
noncomputable def spec_l2Op_j0  (p1 : GProg) (p2 : Int) (p3 : GOp) (v8 : Bool) : Option Bool :=
  if v8 = true then
    some (decide (p3.A < p1.Cells))
  else
    if (p3.Code == 10) = true then
      spec_l2Op_j1 p1 p2 p3 (p3.Code == 10)
    else
      spec_l2Op_j1 p1 p2 p3 (p3.Code == 11)
theorem spec_l2Op_j0_m {E : Env} (hP : E.P = Try.prog) (hn : E.n = 64) (hx : ∀ p, p ∈ E.fx → p.1 ∈ ([] : List Nat)) (p1 : GProg) (p2 : Int) (p3 : GOp)  (v8 : Bool) (r : Bool) (h : spec_l2Op_j0 p1 p2 p3 v8 = some r) : WAt E body69 (FQ (RetE Θ Try.f69.results.toList [] [] (B r) E)) [true, true, false, true, false, true] ⟨[(1, (I p2)), (3, (AV.ptr 1 0 0)), (5, (AV.ptr 2 0 0)), (11, (I p3.Code)), (12, (B v8))], [(1, some ⟨35, 4, [((r35 p1))]⟩), (2, some ⟨85, 4, [((o85 p3))]⟩)], [1, 2, JJ]⟩ := by
  have hm : E.P.follows .mixedOrders = true := by rw [hP]; exact mixed
  have hΘ : TOK E.P Θ := by rw [hP]; exact Θ_ok
  unfold spec_l2Op_j0 at h
  rcases itS h with ⟨c9, h⟩ | ⟨c10, h⟩
  · have h := Option.some.inj h
    subst h
    exact go_ret hΘ hm hP hn (hs := [⟨0, .br true, none⟩]) (rh := []) (ph := .raw) (ps := [v8 = true, (B (decide (p3.A < p1.Cells))) = (B (decide (p3.A < p1.Cells))), litA (B (decide (p3.A < p1.Cells))) = true]) (by kernel_rfl) ⟨c9, rfl, rfl, trivial⟩
  · rcases itS h with ⟨c11, h⟩ | ⟨c28, h⟩
    · exact go_to hΘ hm hx hP hn (hs := [⟨0, .br false, none⟩, ⟨3, .br true, none⟩]) (π := [(1, 1), (2, 2)]) (ts := [1, 3, 5, 11, 20]) (kp := []) (ps := [v8 = false, (p3.Code == 10) = true, RenOK [(1, 1), (2, 2)] [((r35 p1))], RenOK [(1, 1), (2, 2)] [((o85 p3))]]) (by kernel_rfl) ⟨c10, c11, (rok (treeB t35 p1)), (rok rfl), trivial⟩ (spec_l2Op_j1_m hP hn hx p1 p2 p3 (p3.Code == 10) _ h)
    · exact go_to hΘ hm hx hP hn (hs := [⟨0, .br false, none⟩, ⟨3, .br false, none⟩]) (π := [(1, 1), (2, 2)]) (ts := [1, 3, 5, 11, 20]) (kp := []) (ps := [v8 = false, (p3.Code == 10) = false, RenOK [(1, 1), (2, 2)] [((r35 p1))], RenOK [(1, 1), (2, 2)] [((o85 p3))]]) (by kernel_rfl) ⟨c10, c28, (rok (treeB t35 p1)), (rok rfl), trivial⟩ (spec_l2Op_j1_m hP hn hx p1 p2 p3 (p3.Code == 11) _ h)
noncomputable def spec_l2Op (p1 : GProg) (p2 : Int) (p3 : GOp) : Option Bool :=
  Option.bind (spec_l2Plain p3) fun r4 =>
  if (!r4) = true then
    some false
  else
    if (p3.Code == 2) = true then
      spec_l2Op_j0 p1 p2 p3 (p3.Code == 2)
    else
      spec_l2Op_j0 p1 p2 p3 (p3.Code == 3)
theorem spec_l2Op_m {p1 : GProg} {p2 : Int} {p3 : GOp} {r : Bool} (h : spec_l2Op p1 p2 p3 = some r) : Meets Try.prog 69 [(AV.agg ((r35 p1))), (I p2), (AV.agg ((o85 p3)))] (B r) := by
  refine meets_ofC Θ_ok Try.func69 rfl (c := body69) (by kernel_rfl) (Nat.le_of_ble_eq_true rfl) ?_
  intro E hP hn hx
  replace hn : E.n = 64 := hn
  have hm : E.P.follows .mixedOrders = true := by rw [hP]; exact mixed
  have hΘ : TOK E.P Θ := by rw [hP]; exact Θ_ok
  unfold spec_l2Op at h
  show WAt E body69 (FQ (RetE Θ Try.f69.results.toList [] [] (B r) E)) [] ⟨[(0, (AV.agg ((r35 p1)))), (1, (I p2)), (2, (AV.agg ((o85 p3))))], [], [JJ]⟩
  obtain ⟨r4, hr4, h⟩ := bnS h
  rcases itS h with ⟨c5, h⟩ | ⟨c6, h⟩
  · have h := Option.some.inj h
    subst h
    exact go_ret hΘ hm hP hn (hs := [⟨0, .new 1001, none⟩, ⟨1, .new 1002, none⟩, ⟨4, .callV [[]] (B r4), none⟩, ⟨6, .br true, none⟩]) (rh := []) (ph := .raw) (ps := [Meets Try.prog 90 [(AV.agg ((o85 p3)))] (B r4), litA (B r4) = true, (!r4) = true, (B false) = (B false), litA (B false) = true]) (by kernel_rfl) ⟨(spec_l2Plain_m hr4), rfl, c5, rfl, rfl, trivial⟩
  · rcases itS h with ⟨c7, h⟩ | ⟨c29, h⟩
    · exact go_to hΘ hm hx hP hn (hs := [⟨0, .new 1001, none⟩, ⟨1, .new 1002, none⟩, ⟨4, .callV [[]] (B r4), none⟩, ⟨6, .br false, none⟩, ⟨11, .br true, none⟩]) (π := [(1001, 1), (1002, 2)]) (ts := [1, 3, 5, 11, 12]) (kp := []) (ps := [Meets Try.prog 90 [(AV.agg ((o85 p3)))] (B r4), litA (B r4) = true, (!r4) = false, (p3.Code == 2) = true, RenOK [(1001, 1), (1002, 2)] [((r35 p1))], RenOK [(1001, 1), (1002, 2)] [((o85 p3))]]) (by kernel_rfl) ⟨(spec_l2Plain_m hr4), rfl, c6, c7, (rok (treeB t35 p1)), (rok rfl), trivial⟩ (spec_l2Op_j0_m hP hn hx p1 p2 p3 (p3.Code == 2) _ h)
    · exact go_to hΘ hm hx hP hn (hs := [⟨0, .new 1001, none⟩, ⟨1, .new 1002, none⟩, ⟨4, .callV [[]] (B r4), none⟩, ⟨6, .br false, none⟩, ⟨11, .br false, none⟩]) (π := [(1001, 1), (1002, 2)]) (ts := [1, 3, 5, 11, 12]) (kp := []) (ps := [Meets Try.prog 90 [(AV.agg ((o85 p3)))] (B r4), litA (B r4) = true, (!r4) = false, (p3.Code == 2) = false, RenOK [(1001, 1), (1002, 2)] [((r35 p1))], RenOK [(1001, 1), (1002, 2)] [((o85 p3))]]) (by kernel_rfl) ⟨(spec_l2Plain_m hr4), rfl, c6, c29, (rok (treeB t35 p1)), (rok rfl), trivial⟩ (spec_l2Op_j0_m hP hn hx p1 p2 p3 (p3.Code == 3) _ h)
noncomputable def body37 : Code := match Try.f37.body with | some c => c | none => .skip
noncomputable def spec_GoodProg_l1 (K0 : GProg → Int → Option Bool) (p1 : GProg) (v15 : Int) (x17 : (List GOp)) : Nat → GProg → Int → Option Bool
  | 0, _, _ => none
  | n + 1, a18, v19 =>
  if (decide (v19 < (x17.length : Int))) = true then
    Option.bind (rd x17 v19) fun x21 =>
    Option.bind (spec_l2Op a18 (x17.length : Int) x21) fun r22 =>
    if (!r22) = true then
      some false
    else
      spec_GoodProg_l1 K0 p1 v15 x17 n a18 (w64 (v19 + 1))
  else
    if (decide ((x17.length : Int) > 24)) = true then
      some false
    else
      K0 a18 (w64 (v15 + 1))
theorem spec_GoodProg_l1_m {E : Env} (hP : E.P = Try.prog) (hn : E.n = 54) (hx : ∀ p, p ∈ E.fx → p.1 ∈ ([] : List Nat)) (p1 : GProg) (v15 : Int) (x17 : (List GOp)) {K0 : GProg → Int → Option Bool} (hK0 : ∀ (a14 : GProg) (v15 : Int) (r : Bool), K0 a14 v15 = some r → WAt E body37 (FQ (RetE Θ Try.f37.results.toList [] [] (B r) E)) [true, true, false, true, false] ⟨[(1, (AV.ptr 1 0 0)), (31, (AV.ro 1 (p1.Routines.map r82))), (32, (I (p1.Routines.length : Int))), (33, (I v15))], [(1, some ⟨35, 4, [((r35 a14))]⟩)], [1, JJ]⟩) : ∀ (n : Nat) (a18 : GProg) (v19 : Int) (r : Bool), spec_GoodProg_l1 K0 p1 v15 x17 n a18 v19 = some r → WAt E body37 (FQ (RetE Θ Try.f37.results.toList [] [] (B r) E)) [true, true, false, true, false, false, true, true, false, false, true, false, true, false] ⟨[(1, (AV.ptr 1 0 0)), (4, (AV.ro 4 (x17.map o85))), (31, (AV.ro 1 (p1.Routines.map r82))), (32, (I (p1.Routines.length : Int))), (33, (I v15)), (37, (AV.ro 4 (x17.map o85))), (38, (I (x17.length : Int))), (39, (I v19))], [(1, some ⟨35, 4, [((r35 a18))]⟩)], [1, JJ]⟩ := by
  have hm : E.P.follows .mixedOrders = true := by rw [hP]; exact mixed
  have hΘ : TOK E.P Θ := by rw [hP]; exact Θ_ok
  intro n
  induction n with
  | zero => intro a18 v19 r h; simp only [spec_GoodProg_l1] at h; cases h
  | succ n ih =>
    intro a18 v19 r h
    simp only [spec_GoodProg_l1] at h
    rcases itS h with ⟨c20, h⟩ | ⟨c25, h⟩
    · obtain ⟨x21, hx21, h⟩ := bnS h
      obtain ⟨r22, hr22, h⟩ := bnS h
      rcases itS h with ⟨c23, h⟩ | ⟨c24, h⟩
      · have h := Option.some.inj h
        subst h
        exact go_ret hΘ hm hP hn (hs := [⟨1, .br true, none⟩, ⟨2, .row (o85 x21), none⟩, ⟨4, .new 1001, none⟩, ⟨8, .no, some (I (x17.length : Int))⟩, ⟨10, .callV [[], []] (B r22), none⟩, ⟨12, .br true, none⟩]) (rh := []) (ph := .raw) (ps := [(decide (v19 < (x17.length : Int))) = true, (0 : Int) ≤ v19, (x17.map o85)[(Int.toNat v19)]? = some (o85 x21), AV.lit (.int .i64 (((x17.map o85).length : Nat) : Int)) = (I (x17.length : Int)), Meets Try.prog 69 [(AV.agg ((r35 a18))), (I (x17.length : Int)), (AV.agg ((o85 x21)))] (B r22), litA (B r22) = true, (!r22) = true, (B false) = (B false), litA (B false) = true]) (by kernel_rfl) ⟨c20, (rd0 hx21), (rdM o85 hx21), (lenM o85), (spec_l2Op_m hr22), rfl, c23, rfl, rfl, trivial⟩
      · exact go_to hΘ hm hx hP hn (hs := [⟨1, .br true, none⟩, ⟨2, .row (o85 x21), none⟩, ⟨4, .new 1001, none⟩, ⟨8, .no, some (I (x17.length : Int))⟩, ⟨10, .callV [[], []] (B r22), none⟩, ⟨12, .br false, none⟩]) (π := [(1, 1)]) (ts := [1, 4, 31, 32, 33, 37, 38, 39]) (kp := []) (ps := [(decide (v19 < (x17.length : Int))) = true, (0 : Int) ≤ v19, (x17.map o85)[(Int.toNat v19)]? = some (o85 x21), AV.lit (.int .i64 (((x17.map o85).length : Nat) : Int)) = (I (x17.length : Int)), Meets Try.prog 69 [(AV.agg ((r35 a18))), (I (x17.length : Int)), (AV.agg ((o85 x21)))] (B r22), litA (B r22) = true, (!r22) = false, RenOK [(1, 1)] [((r35 a18))]]) (by kernel_rfl) ⟨c20, (rd0 hx21), (rdM o85 hx21), (lenM o85), (spec_l2Op_m hr22), rfl, c24, (rok (treeB t35 a18)), trivial⟩ (ih a18 (w64 (v19 + 1)) _ h)
    · rcases itS h with ⟨c26, h⟩ | ⟨c27, h⟩
      · have h := Option.some.inj h
        subst h
        exact go_ret hΘ hm hP hn (hs := [⟨1, .br false, none⟩, ⟨3, .no, some (I (x17.length : Int))⟩, ⟨5, .br true, none⟩]) (rh := []) (ph := .raw) (ps := [(decide (v19 < (x17.length : Int))) = false, AV.lit (.int .i64 (((x17.map o85).length : Nat) : Int)) = (I (x17.length : Int)), (decide ((x17.length : Int) > 24)) = true, (B false) = (B false), litA (B false) = true]) (by kernel_rfl) ⟨c25, (lenM o85), c26, rfl, rfl, trivial⟩
      · exact go_to hΘ hm hx hP hn (hs := [⟨1, .br false, none⟩, ⟨3, .no, some (I (x17.length : Int))⟩, ⟨5, .br false, none⟩]) (π := [(1, 1)]) (ts := [1, 31, 32, 33]) (kp := []) (ps := [(decide (v19 < (x17.length : Int))) = false, AV.lit (.int .i64 (((x17.map o85).length : Nat) : Int)) = (I (x17.length : Int)), (decide ((x17.length : Int) > 24)) = false, RenOK [(1, 1)] [((r35 a18))]]) (by kernel_rfl) ⟨c25, (lenM o85), c27, (rok (treeB t35 a18)), trivial⟩ (hK0 a18 (w64 (v15 + 1)) _ h)
noncomputable def spec_GoodProg_l0  (p1 : GProg) : Nat → GProg → Int → Option Bool
  | 0, _, _ => none
  | n + 1, a14, v15 =>
  if (decide (v15 < (p1.Routines.length : Int))) = true then
    Option.bind (rd p1.Routines v15) fun x17 =>
    spec_GoodProg_l1 (spec_GoodProg_l0 p1 n) p1 v15 x17 FU a14 0
  else
    some true
theorem spec_GoodProg_l0_m {E : Env} (hP : E.P = Try.prog) (hn : E.n = 54) (hx : ∀ p, p ∈ E.fx → p.1 ∈ ([] : List Nat)) (p1 : GProg)  : ∀ (n : Nat) (a14 : GProg) (v15 : Int) (r : Bool), spec_GoodProg_l0 p1 n a14 v15 = some r → WAt E body37 (FQ (RetE Θ Try.f37.results.toList [] [] (B r) E)) [true, true, false, true, false] ⟨[(1, (AV.ptr 1 0 0)), (31, (AV.ro 1 (p1.Routines.map r82))), (32, (I (p1.Routines.length : Int))), (33, (I v15))], [(1, some ⟨35, 4, [((r35 a14))]⟩)], [1, JJ]⟩ := by
  have hm : E.P.follows .mixedOrders = true := by rw [hP]; exact mixed
  have hΘ : TOK E.P Θ := by rw [hP]; exact Θ_ok
  intro n
  induction n with
  | zero => intro a14 v15 r h; simp only [spec_GoodProg_l0] at h; cases h
  | succ n ih =>
    intro a14 v15 r h
    simp only [spec_GoodProg_l0] at h
    rcases itS h with ⟨c16, h⟩ | ⟨c28, h⟩
    · obtain ⟨x17, hx17, h⟩ := bnS h
      exact go_to hΘ hm hx hP hn (hs := [⟨1, .br true, none⟩, ⟨2, .row (r82 x17), none⟩, ⟨6, .no, some (I (x17.length : Int))⟩]) (π := [(1, 1)]) (ts := [1, 4, 31, 32, 33, 37, 38, 39]) (kp := []) (ps := [(decide (v15 < (p1.Routines.length : Int))) = true, (0 : Int) ≤ v15, (p1.Routines.map r82)[(Int.toNat v15)]? = some (r82 x17), AV.lit (.int .i64 (((x17.map o85).length : Nat) : Int)) = (I (x17.length : Int)), RenOK [(1, 1)] [((r35 a14))]]) (by kernel_rfl) ⟨c16, (rd0 hx17), (rdM r82 hx17), (lenM o85), (rok (treeB t35 a14)), trivial⟩ (spec_GoodProg_l1_m hP hn hx p1 v15 x17 ih FU a14 0 _ h)
    · have h := Option.some.inj h
      subst h
      exact go_ret hΘ hm hP hn (hs := [⟨1, .br false, none⟩]) (rh := []) (ph := .raw) (ps := [(decide (v15 < (p1.Routines.length : Int))) = false, (B true) = (B true), litA (B true) = true]) (by kernel_rfl) ⟨c28, rfl, rfl, trivial⟩
noncomputable def spec_GoodProg (p1 : GProg) : Option Bool :=
  Option.bind (spec_l1In p1.Cells 0 4) fun r2 =>
  if (!r2) = true then
    some false
  else
    Option.bind (spec_l1In p1.Locks 0 4) fun r5 =>
    if (!r5) = true then
      some false
    else
      Option.bind (spec_l1In p1.Conds 0 2) fun r8 =>
      if (!r8) = true then
        some false
      else
        Option.bind (spec_l1In (p1.Routines.length : Int) 1 4) fun r11 =>
        if (!r11) = true then
          some false
        else
          spec_GoodProg_l0 p1 FU p1 0
theorem spec_GoodProg_m {p1 : GProg} {r : Bool} (h : spec_GoodProg p1 = some r) : Meets Try.prog 37 [(AV.agg ((r35 p1)))] (B r) := by
  refine meets_ofC Θ_ok Try.func37 rfl (c := body37) (by kernel_rfl) (Nat.le_of_ble_eq_true rfl) ?_
  intro E hP hn hx
  replace hn : E.n = 54 := hn
  have hm : E.P.follows .mixedOrders = true := by rw [hP]; exact mixed
  have hΘ : TOK E.P Θ := by rw [hP]; exact Θ_ok
  unfold spec_GoodProg at h
  show WAt E body37 (FQ (RetE Θ Try.f37.results.toList [] [] (B r) E)) [] ⟨[(0, (AV.agg ((r35 p1))))], [], [JJ]⟩
  obtain ⟨r2, hr2, h⟩ := bnS h
  rcases itS h with ⟨c3, h⟩ | ⟨c4, h⟩
  · have h := Option.some.inj h
    subst h
    exact go_ret hΘ hm hP hn (hs := [⟨0, .new 1001, none⟩, ⟨4, .callV [] (B r2), none⟩, ⟨6, .no, some (B true)⟩]) (rh := []) (ph := .raw) (ps := [Meets Try.prog 68 [(I p1.Cells), (I 0), (I 4)] (B r2), litA (B r2) = true, (B (!r2)) = (B true), (B false) = (B false), litA (B false) = true]) (by kernel_rfl) ⟨(spec_l1In_m hr2), rfl, (litB c3), rfl, rfl, trivial⟩
  · obtain ⟨r5, hr5, h⟩ := bnS h
    rcases itS h with ⟨c6, h⟩ | ⟨c7, h⟩
    · have h := Option.some.inj h
      subst h
      exact go_ret hΘ hm hP hn (hs := [⟨0, .new 1001, none⟩, ⟨4, .callV [] (B r2), none⟩, ⟨6, .no, some (B false)⟩, ⟨9, .callV [] (B r5), none⟩, ⟨12, .no, some (B true)⟩]) (rh := []) (ph := .raw) (ps := [Meets Try.prog 68 [(I p1.Cells), (I 0), (I 4)] (B r2), litA (B r2) = true, (B (!r2)) = (B false), Meets Try.prog 68 [(I p1.Locks), (I 0), (I 4)] (B r5), litA (B r5) = true, (B (!r5)) = (B true), (B false) = (B false), litA (B false) = true]) (by kernel_rfl) ⟨(spec_l1In_m hr2), rfl, (litB c4), (spec_l1In_m hr5), rfl, (litB c6), rfl, rfl, trivial⟩
    · obtain ⟨r8, hr8, h⟩ := bnS h
      rcases itS h with ⟨c9, h⟩ | ⟨c10, h⟩
      · have h := Option.some.inj h
        subst h
        exact go_ret hΘ hm hP hn (hs := [⟨0, .new 1001, none⟩, ⟨4, .callV [] (B r2), none⟩, ⟨6, .no, some (B false)⟩, ⟨9, .callV [] (B r5), none⟩, ⟨12, .no, some (B false)⟩, ⟨15, .callV [] (B r8), none⟩, ⟨18, .no, some (B true)⟩]) (rh := []) (ph := .raw) (ps := [Meets Try.prog 68 [(I p1.Cells), (I 0), (I 4)] (B r2), litA (B r2) = true, (B (!r2)) = (B false), Meets Try.prog 68 [(I p1.Locks), (I 0), (I 4)] (B r5), litA (B r5) = true, (B (!r5)) = (B false), Meets Try.prog 68 [(I p1.Conds), (I 0), (I 2)] (B r8), litA (B r8) = true, (B (!r8)) = (B true), (B false) = (B false), litA (B false) = true]) (by kernel_rfl) ⟨(spec_l1In_m hr2), rfl, (litB c4), (spec_l1In_m hr5), rfl, (litB c7), (spec_l1In_m hr8), rfl, (litB c9), rfl, rfl, trivial⟩
      · obtain ⟨r11, hr11, h⟩ := bnS h
        rcases itS h with ⟨c12, h⟩ | ⟨c13, h⟩
        · have h := Option.some.inj h
          subst h
          exact go_ret hΘ hm hP hn (hs := [⟨0, .new 1001, none⟩, ⟨4, .callV [] (B r2), none⟩, ⟨6, .no, some (B false)⟩, ⟨9, .callV [] (B r5), none⟩, ⟨12, .no, some (B false)⟩, ⟨15, .callV [] (B r8), none⟩, ⟨18, .no, some (B false)⟩, ⟨21, .no, some (I (p1.Routines.length : Int))⟩, ⟨22, .callV [] (B r11), none⟩, ⟨25, .br true, none⟩]) (rh := []) (ph := .raw) (ps := [Meets Try.prog 68 [(I p1.Cells), (I 0), (I 4)] (B r2), litA (B r2) = true, (B (!r2)) = (B false), Meets Try.prog 68 [(I p1.Locks), (I 0), (I 4)] (B r5), litA (B r5) = true, (B (!r5)) = (B false), Meets Try.prog 68 [(I p1.Conds), (I 0), (I 2)] (B r8), litA (B r8) = true, (B (!r8)) = (B false), AV.lit (.int .i64 (((p1.Routines.map r82).length : Nat) : Int)) = (I (p1.Routines.length : Int)), Meets Try.prog 68 [(I (p1.Routines.length : Int)), (I 1), (I 4)] (B r11), litA (B r11) = true, (!r11) = true, (B false) = (B false), litA (B false) = true]) (by kernel_rfl) ⟨(spec_l1In_m hr2), rfl, (litB c4), (spec_l1In_m hr5), rfl, (litB c7), (spec_l1In_m hr8), rfl, (litB c10), (lenM r82), (spec_l1In_m hr11), rfl, c12, rfl, rfl, trivial⟩
        · exact go_to hΘ hm hx hP hn (hs := [⟨0, .new 1001, none⟩, ⟨4, .callV [] (B r2), none⟩, ⟨6, .no, some (B false)⟩, ⟨9, .callV [] (B r5), none⟩, ⟨12, .no, some (B false)⟩, ⟨15, .callV [] (B r8), none⟩, ⟨18, .no, some (B false)⟩, ⟨21, .no, some (I (p1.Routines.length : Int))⟩, ⟨22, .callV [] (B r11), none⟩, ⟨25, .br false, none⟩, ⟨28, .no, some (I (p1.Routines.length : Int))⟩]) (π := [(1001, 1)]) (ts := [1, 31, 32, 33]) (kp := []) (ps := [Meets Try.prog 68 [(I p1.Cells), (I 0), (I 4)] (B r2), litA (B r2) = true, (B (!r2)) = (B false), Meets Try.prog 68 [(I p1.Locks), (I 0), (I 4)] (B r5), litA (B r5) = true, (B (!r5)) = (B false), Meets Try.prog 68 [(I p1.Conds), (I 0), (I 2)] (B r8), litA (B r8) = true, (B (!r8)) = (B false), AV.lit (.int .i64 (((p1.Routines.map r82).length : Nat) : Int)) = (I (p1.Routines.length : Int)), Meets Try.prog 68 [(I (p1.Routines.length : Int)), (I 1), (I 4)] (B r11), litA (B r11) = true, (!r11) = false, AV.lit (.int .i64 (((p1.Routines.map r82).length : Nat) : Int)) = (I (p1.Routines.length : Int)), RenOK [(1001, 1)] [((r35 p1))]]) (by kernel_rfl) ⟨(spec_l1In_m hr2), rfl, (litB c4), (spec_l1In_m hr5), rfl, (litB c7), (spec_l1In_m hr8), rfl, (litB c10), (lenM r82), (spec_l1In_m hr11), rfl, c13, (lenM r82), (rok (treeB t35 p1)), trivial⟩ (spec_GoodProg_l0_m hP hn hx p1 FU p1 0 _ h)
noncomputable def body71 : Code := match Try.f71.body with | some c => c | none => .skip
noncomputable def spec_l1All_l0  (p1 : (List Int)) (p2 : Int) (p3 : Int) : Nat → Int → Option Bool
  | 0, _ => none
  | n + 1, v4 =>
  if (decide (v4 < (p1.length : Int))) = true then
    Option.bind (rd p1 v4) fun x6 =>
    Option.bind (spec_l1In x6 p2 p3) fun r7 =>
    if (!r7) = true then
      some false
    else
      spec_l1All_l0 p1 p2 p3 n (w64 (v4 + 1))
  else
    some true
theorem spec_l1All_l0_m {E : Env} (hP : E.P = Try.prog) (hn : E.n = 21) (hx : ∀ p, p ∈ E.fx → p.1 ∈ ([] : List Nat)) (p1 : (List Int)) (p2 : Int) (p3 : Int)  : ∀ (n : Nat) (v4 : Int) (r : Bool), spec_l1All_l0 p1 p2 p3 n v4 = some r → WAt E body71 (FQ (RetE Θ Try.f71.results.toList [] [] (B r) E)) [true, false, true, false] ⟨[(1, (I p2)), (2, (I p3)), (9, (AV.ro 1 (p1.map o3))), (10, (I (p1.length : Int))), (11, (I v4))], [], [JJ]⟩ := by
  have hm : E.P.follows .mixedOrders = true := by rw [hP]; exact mixed
  have hΘ : TOK E.P Θ := by rw [hP]; exact Θ_ok
  intro n
  induction n with
  | zero => intro v4 r h; simp only [spec_l1All_l0] at h; cases h
  | succ n ih =>
    intro v4 r h
    simp only [spec_l1All_l0] at h
    rcases itS h with ⟨c5, h⟩ | ⟨c10, h⟩
    · obtain ⟨x6, hx6, h⟩ := bnS h
      obtain ⟨r7, hr7, h⟩ := bnS h
      rcases itS h with ⟨c8, h⟩ | ⟨c9, h⟩
      · have h := Option.some.inj h
        subst h
        exact go_ret hΘ hm hP hn (hs := [⟨1, .br true, none⟩, ⟨2, .row (o3 x6), none⟩, ⟨8, .callV [] (B r7), none⟩, ⟨10, .br true, none⟩]) (rh := []) (ph := .raw) (ps := [(decide (v4 < (p1.length : Int))) = true, (0 : Int) ≤ v4, (p1.map o3)[(Int.toNat v4)]? = some (o3 x6), Meets Try.prog 68 [(I x6), (I p2), (I p3)] (B r7), litA (B r7) = true, (!r7) = true, (B false) = (B false), litA (B false) = true]) (by kernel_rfl) ⟨c5, (rd0 hx6), (rdM o3 hx6), (spec_l1In_m hr7), rfl, c8, rfl, rfl, trivial⟩
      · exact go_to hΘ hm hx hP hn (hs := [⟨1, .br true, none⟩, ⟨2, .row (o3 x6), none⟩, ⟨8, .callV [] (B r7), none⟩, ⟨10, .br false, none⟩]) (π := []) (ts := [1, 2, 9, 10, 11]) (kp := []) (ps := [(decide (v4 < (p1.length : Int))) = true, (0 : Int) ≤ v4, (p1.map o3)[(Int.toNat v4)]? = some (o3 x6), Meets Try.prog 68 [(I x6), (I p2), (I p3)] (B r7), litA (B r7) = true, (!r7) = false]) (by kernel_rfl) ⟨c5, (rd0 hx6), (rdM o3 hx6), (spec_l1In_m hr7), rfl, c9, trivial⟩ (ih (w64 (v4 + 1)) _ h)
    · have h := Option.some.inj h
      subst h
      exact go_ret hΘ hm hP hn (hs := [⟨1, .br false, none⟩]) (rh := []) (ph := .raw) (ps := [(decide (v4 < (p1.length : Int))) = false, (B true) = (B true), litA (B true) = true]) (by kernel_rfl) ⟨c10, rfl, rfl, trivial⟩
noncomputable def spec_l1All (p1 : (List Int)) (p2 : Int) (p3 : Int) : Option Bool :=
  spec_l1All_l0 p1 p2 p3 FU 0
theorem spec_l1All_m {p1 : (List Int)} {p2 : Int} {p3 : Int} {r : Bool} (h : spec_l1All p1 p2 p3 = some r) : Meets Try.prog 71 [(AV.ro 1 (p1.map o3)), (I p2), (I p3)] (B r) := by
  refine meets_ofC Θ_ok Try.func71 rfl (c := body71) (by kernel_rfl) (Nat.le_of_ble_eq_true rfl) ?_
  intro E hP hn hx
  replace hn : E.n = 21 := hn
  have hm : E.P.follows .mixedOrders = true := by rw [hP]; exact mixed
  have hΘ : TOK E.P Θ := by rw [hP]; exact Θ_ok
  unfold spec_l1All at h
  show WAt E body71 (FQ (RetE Θ Try.f71.results.toList [] [] (B r) E)) [] ⟨[(0, (AV.ro 1 (p1.map o3))), (1, (I p2)), (2, (I p3))], [], [JJ]⟩
  exact go_to hΘ hm hx hP hn (hs := [⟨2, .no, some (I (p1.length : Int))⟩]) (π := []) (ts := [1, 2, 9, 10, 11]) (kp := []) (ps := [AV.lit (.int .i64 (((p1.map o3).length : Nat) : Int)) = (I (p1.length : Int))]) (by kernel_rfl) ⟨(lenM o3), trivial⟩ (spec_l1All_l0_m hP hn hx p1 p2 p3 FU 0 _ h)
noncomputable def body70 : Code := match Try.f70.body with | some c => c | none => .skip
noncomputable def spec_l3Thread_j1  (p1 : GProg) (p2 : GThread)  : Option Bool :=
  Option.bind (spec_l1In p2.Cond 0 (w64 (p1.Conds - 1))) fun r16 =>
  if r16 = true then
    Option.bind (spec_l1In p2.Lock 0 (w64 (p1.Locks - 1))) fun r18 =>
    some r18
  else
    some false
theorem spec_l3Thread_j1_m {E : Env} (hP : E.P = Try.prog) (hn : E.n = 66) (hx : ∀ p, p ∈ E.fx → p.1 ∈ ([] : List Nat)) (p1 : GProg) (p2 : GThread)   (r : Bool) (h : spec_l3Thread_j1 p1 p2  = some r) : WAt E body70 (FQ (RetE Θ Try.f70.results.toList [] [] (B r) E)) [true, true, true, false, true, false] ⟨[(2, (AV.ptr 1 0 0)), (3, (AV.ptr 2 0 0))], [(1, some ⟨35, 4, [((r35 p1))]⟩), (2, some ⟨70, 6, [((r70 p2))]⟩)], [1, 2, JJ]⟩ := by
  have hm : E.P.follows .mixedOrders = true := by rw [hP]; exact mixed
  have hΘ : TOK E.P Θ := by rw [hP]; exact Θ_ok
  unfold spec_l3Thread_j1 at h
  obtain ⟨r16, hr16, h⟩ := bnS h
  rcases itS h with ⟨c17, h⟩ | ⟨c19, h⟩
  · obtain ⟨r18, hr18, h⟩ := bnS h
    have h := Option.some.inj h
    subst h
    exact go_ret hΘ hm hP hn (hs := [⟨5, .callV [] (B r16), none⟩, ⟨6, .no, some (B true)⟩, ⟨12, .callV [] (B r18), none⟩]) (rh := []) (ph := .raw) (ps := [Meets Try.prog 68 [(I p2.Cond), (I 0), (I (w64 (p1.Conds - 1)))] (B r16), litA (B r16) = true, (B r16) = (B true), Meets Try.prog 68 [(I p2.Lock), (I 0), (I (w64 (p1.Locks - 1)))] (B r18), litA (B r18) = true, (B r18) = (B r18), litA (B r18) = true]) (by kernel_rfl) ⟨(spec_l1In_m hr16), rfl, (litB c17), (spec_l1In_m hr18), rfl, rfl, rfl, trivial⟩
  · have h := Option.some.inj h
    subst h
    exact go_ret hΘ hm hP hn (hs := [⟨5, .callV [] (B r16), none⟩, ⟨6, .no, some (B false)⟩]) (rh := []) (ph := .raw) (ps := [Meets Try.prog 68 [(I p2.Cond), (I 0), (I (w64 (p1.Conds - 1)))] (B r16), litA (B r16) = true, (B r16) = (B false), (B false) = (B false), litA (B false) = true]) (by kernel_rfl) ⟨(spec_l1In_m hr16), rfl, (litB c19), rfl, rfl, trivial⟩
noncomputable def spec_l3Thread_j0  (p1 : GProg) (p2 : GThread)  : Option Bool :=
  Option.bind (rd p1.Routines p2.Routine) fun x11 =>
  Option.bind (spec_l1In p2.Pc 0 (x11.length : Int)) fun r12 =>
  if (!r12) = true then
    some false
  else
    if (p2.State == 3) = true then
      spec_l3Thread_j1 p1 p2
    else
      if (p2.State == 4) = true then
        spec_l3Thread_j1 p1 p2
      else
        if (p2.Cond == (-1)) = true then
          some (p2.Lock == (-1))
        else
          some false
theorem spec_l3Thread_j0_m {E : Env} (hP : E.P = Try.prog) (hn : E.n = 66) (hx : ∀ p, p ∈ E.fx → p.1 ∈ ([] : List Nat)) (p1 : GProg) (p2 : GThread)   (r : Bool) (h : spec_l3Thread_j0 p1 p2  = some r) : WAt E body70 (FQ (RetE Θ Try.f70.results.toList [] [] (B r) E)) [true, false, true, true] ⟨[(2, (AV.ptr 1 0 0)), (3, (AV.ptr 2 0 0))], [(1, some ⟨35, 4, [((r35 p1))]⟩), (2, some ⟨70, 6, [((r70 p2))]⟩)], [1, 2, JJ]⟩ := by
  have hm : E.P.follows .mixedOrders = true := by rw [hP]; exact mixed
  have hΘ : TOK E.P Θ := by rw [hP]; exact Θ_ok
  unfold spec_l3Thread_j0 at h
  obtain ⟨x11, hx11, h⟩ := bnS h
  obtain ⟨r12, hr12, h⟩ := bnS h
  rcases itS h with ⟨c13, h⟩ | ⟨c14, h⟩
  · have h := Option.some.inj h
    subst h
    exact go_ret hΘ hm hP hn (hs := [⟨6, .row (r82 x11), none⟩, ⟨8, .no, some (I (x11.length : Int))⟩, ⟨9, .callV [] (B r12), none⟩, ⟨11, .br true, none⟩]) (rh := []) (ph := .raw) (ps := [(0 : Int) ≤ p2.Routine, (p1.Routines.map r82)[(Int.toNat p2.Routine)]? = some (r82 x11), AV.lit (.int .i64 (((x11.map o85).length : Nat) : Int)) = (I (x11.length : Int)), Meets Try.prog 68 [(I p2.Pc), (I 0), (I (x11.length : Int))] (B r12), litA (B r12) = true, (!r12) = true, (B false) = (B false), litA (B false) = true]) (by kernel_rfl) ⟨(rd0 hx11), (rdM r82 hx11), (lenM o85), (spec_l1In_m hr12), rfl, c13, rfl, rfl, trivial⟩
  · rcases itS h with ⟨c15, h⟩ | ⟨c20, h⟩
    · exact go_to hΘ hm hx hP hn (hs := [⟨6, .row (r82 x11), none⟩, ⟨8, .no, some (I (x11.length : Int))⟩, ⟨9, .callV [] (B r12), none⟩, ⟨11, .br false, none⟩, ⟨15, .no, some (B true)⟩]) (π := [(1, 1), (2, 2)]) (ts := [2, 3]) (kp := []) (ps := [(0 : Int) ≤ p2.Routine, (p1.Routines.map r82)[(Int.toNat p2.Routine)]? = some (r82 x11), AV.lit (.int .i64 (((x11.map o85).length : Nat) : Int)) = (I (x11.length : Int)), Meets Try.prog 68 [(I p2.Pc), (I 0), (I (x11.length : Int))] (B r12), litA (B r12) = true, (!r12) = false, (B (p2.State == 3)) = (B true), RenOK [(1, 1), (2, 2)] [((r35 p1))], RenOK [(1, 1), (2, 2)] [((r70 p2))]]) (by kernel_rfl) ⟨(rd0 hx11), (rdM r82 hx11), (lenM o85), (spec_l1In_m hr12), rfl, c14, (litB c15), (rok (treeB t35 p1)), (rok (treeB t70 p2)), trivial⟩ (spec_l3Thread_j1_m hP hn hx p1 p2  _ h)
    · rcases itS h with ⟨c21, h⟩ | ⟨c22, h⟩
      · exact go_to hΘ hm hx hP hn (hs := [⟨6, .row (r82 x11), none⟩, ⟨8, .no, some (I (x11.length : Int))⟩, ⟨9, .callV [] (B r12), none⟩, ⟨11, .br false, none⟩, ⟨15, .no, some (B false)⟩, ⟨20, .br true, none⟩]) (π := [(1, 1), (2, 2)]) (ts := [2, 3]) (kp := []) (ps := [(0 : Int) ≤ p2.Routine, (p1.Routines.map r82)[(Int.toNat p2.Routine)]? = some (r82 x11), AV.lit (.int .i64 (((x11.map o85).length : Nat) : Int)) = (I (x11.length : Int)), Meets Try.prog 68 [(I p2.Pc), (I 0), (I (x11.length : Int))] (B r12), litA (B r12) = true, (!r12) = false, (B (p2.State == 3)) = (B false), (p2.State == 4) = true, RenOK [(1, 1), (2, 2)] [((r35 p1))], RenOK [(1, 1), (2, 2)] [((r70 p2))]]) (by kernel_rfl) ⟨(rd0 hx11), (rdM r82 hx11), (lenM o85), (spec_l1In_m hr12), rfl, c14, (litB c20), c21, (rok (treeB t35 p1)), (rok (treeB t70 p2)), trivial⟩ (spec_l3Thread_j1_m hP hn hx p1 p2  _ h)
      · rcases itS h with ⟨c23, h⟩ | ⟨c24, h⟩
        · have h := Option.some.inj h
          subst h
          exact go_ret hΘ hm hP hn (hs := [⟨6, .row (r82 x11), none⟩, ⟨8, .no, some (I (x11.length : Int))⟩, ⟨9, .callV [] (B r12), none⟩, ⟨11, .br false, none⟩, ⟨15, .no, some (B false)⟩, ⟨20, .br false, none⟩, ⟨24, .no, some (B true)⟩]) (rh := []) (ph := .raw) (ps := [(0 : Int) ≤ p2.Routine, (p1.Routines.map r82)[(Int.toNat p2.Routine)]? = some (r82 x11), AV.lit (.int .i64 (((x11.map o85).length : Nat) : Int)) = (I (x11.length : Int)), Meets Try.prog 68 [(I p2.Pc), (I 0), (I (x11.length : Int))] (B r12), litA (B r12) = true, (!r12) = false, (B (p2.State == 3)) = (B false), (p2.State == 4) = false, (B (p2.Cond == (-1))) = (B true), (B (p2.Lock == (-1))) = (B (p2.Lock == (-1))), litA (B (p2.Lock == (-1))) = true]) (by kernel_rfl) ⟨(rd0 hx11), (rdM r82 hx11), (lenM o85), (spec_l1In_m hr12), rfl, c14, (litB c20), c22, (litB c23), rfl, rfl, trivial⟩
        · have h := Option.some.inj h
          subst h
          exact go_ret hΘ hm hP hn (hs := [⟨6, .row (r82 x11), none⟩, ⟨8, .no, some (I (x11.length : Int))⟩, ⟨9, .callV [] (B r12), none⟩, ⟨11, .br false, none⟩, ⟨15, .no, some (B false)⟩, ⟨20, .br false, none⟩, ⟨24, .no, some (B false)⟩]) (rh := []) (ph := .raw) (ps := [(0 : Int) ≤ p2.Routine, (p1.Routines.map r82)[(Int.toNat p2.Routine)]? = some (r82 x11), AV.lit (.int .i64 (((x11.map o85).length : Nat) : Int)) = (I (x11.length : Int)), Meets Try.prog 68 [(I p2.Pc), (I 0), (I (x11.length : Int))] (B r12), litA (B r12) = true, (!r12) = false, (B (p2.State == 3)) = (B false), (p2.State == 4) = false, (B (p2.Cond == (-1))) = (B false), (B false) = (B false), litA (B false) = true]) (by kernel_rfl) ⟨(rd0 hx11), (rdM r82 hx11), (lenM o85), (spec_l1In_m hr12), rfl, c14, (litB c20), c22, (litB c24), rfl, rfl, trivial⟩
noncomputable def spec_l3Thread (p1 : GProg) (p2 : GThread) : Option Bool :=
  Option.bind (spec_l1In p2.Routine 0 (w64 ((p1.Routines.length : Int) - 1))) fun r3 =>
  if (!r3) = true then
    some false
  else
    Option.bind (spec_l1In p2.State 1 4) fun r6 =>
    if (!r6) = true then
      some false
    else
      if (decide ((p2.Stack.length : Int) > 8)) = true then
        some false
      else
        spec_l3Thread_j0 p1 p2
theorem spec_l3Thread_m {p1 : GProg} {p2 : GThread} {r : Bool} (h : spec_l3Thread p1 p2 = some r) : Meets Try.prog 70 [(AV.agg ((r35 p1))), (AV.agg ((r70 p2)))] (B r) := by
  refine meets_ofC Θ_ok Try.func70 rfl (c := body70) (by kernel_rfl) (Nat.le_of_ble_eq_true rfl) ?_
  intro E hP hn hx
  replace hn : E.n = 66 := hn
  have hm : E.P.follows .mixedOrders = true := by rw [hP]; exact mixed
  have hΘ : TOK E.P Θ := by rw [hP]; exact Θ_ok
  unfold spec_l3Thread at h
  show WAt E body70 (FQ (RetE Θ Try.f70.results.toList [] [] (B r) E)) [] ⟨[(0, (AV.agg ((r35 p1)))), (1, (AV.agg ((r70 p2))))], [], [JJ]⟩
  obtain ⟨r3, hr3, h⟩ := bnS h
  rcases itS h with ⟨c4, h⟩ | ⟨c5, h⟩
  · have h := Option.some.inj h
    subst h
    exact go_ret hΘ hm hP hn (hs := [⟨0, .new 1001, none⟩, ⟨1, .new 1002, none⟩, ⟨7, .no, some (I (p1.Routines.length : Int))⟩, ⟨9, .callV [] (B r3), none⟩, ⟨11, .no, some (B true)⟩]) (rh := []) (ph := .raw) (ps := [AV.lit (.int .i64 (((p1.Routines.map r82).length : Nat) : Int)) = (I (p1.Routines.length : Int)), Meets Try.prog 68 [(I p2.Routine), (I 0), (I (w64 ((p1.Routines.length : Int) - 1)))] (B r3), litA (B r3) = true, (B (!r3)) = (B true), (B false) = (B false), litA (B false) = true]) (by kernel_rfl) ⟨(lenM r82), (spec_l1In_m hr3), rfl, (litB c4), rfl, rfl, trivial⟩
  · obtain ⟨r6, hr6, h⟩ := bnS h
    rcases itS h with ⟨c7, h⟩ | ⟨c8, h⟩
    · have h := Option.some.inj h
      subst h
      exact go_ret hΘ hm hP hn (hs := [⟨0, .new 1001, none⟩, ⟨1, .new 1002, none⟩, ⟨7, .no, some (I (p1.Routines.length : Int))⟩, ⟨9, .callV [] (B r3), none⟩, ⟨11, .no, some (B false)⟩, ⟨14, .callV [] (B r6), none⟩, ⟨17, .no, some (B true)⟩]) (rh := []) (ph := .raw) (ps := [AV.lit (.int .i64 (((p1.Routines.map r82).length : Nat) : Int)) = (I (p1.Routines.length : Int)), Meets Try.prog 68 [(I p2.Routine), (I 0), (I (w64 ((p1.Routines.length : Int) - 1)))] (B r3), litA (B r3) = true, (B (!r3)) = (B false), Meets Try.prog 68 [(I p2.State), (I 1), (I 4)] (B r6), litA (B r6) = true, (B (!r6)) = (B true), (B false) = (B false), litA (B false) = true]) (by kernel_rfl) ⟨(lenM r82), (spec_l1In_m hr3), rfl, (litB c5), (spec_l1In_m hr6), rfl, (litB c7), rfl, rfl, trivial⟩
    · rcases itS h with ⟨c9, h⟩ | ⟨c10, h⟩
      · have h := Option.some.inj h
        subst h
        exact go_ret hΘ hm hP hn (hs := [⟨0, .new 1001, none⟩, ⟨1, .new 1002, none⟩, ⟨7, .no, some (I (p1.Routines.length : Int))⟩, ⟨9, .callV [] (B r3), none⟩, ⟨11, .no, some (B false)⟩, ⟨14, .callV [] (B r6), none⟩, ⟨17, .no, some (B false)⟩, ⟨20, .no, some (I (p2.Stack.length : Int))⟩, ⟨23, .br true, none⟩]) (rh := []) (ph := .raw) (ps := [AV.lit (.int .i64 (((p1.Routines.map r82).length : Nat) : Int)) = (I (p1.Routines.length : Int)), Meets Try.prog 68 [(I p2.Routine), (I 0), (I (w64 ((p1.Routines.length : Int) - 1)))] (B r3), litA (B r3) = true, (B (!r3)) = (B false), Meets Try.prog 68 [(I p2.State), (I 1), (I 4)] (B r6), litA (B r6) = true, (B (!r6)) = (B false), AV.lit (.int .i64 (((p2.Stack.map o83).length : Nat) : Int)) = (I (p2.Stack.length : Int)), (decide ((p2.Stack.length : Int) > 8)) = true, (B false) = (B false), litA (B false) = true]) (by kernel_rfl) ⟨(lenM r82), (spec_l1In_m hr3), rfl, (litB c5), (spec_l1In_m hr6), rfl, (litB c8), (lenM o83), c9, rfl, rfl, trivial⟩
      · exact go_to hΘ hm hx hP hn (hs := [⟨0, .new 1001, none⟩, ⟨1, .new 1002, none⟩, ⟨7, .no, some (I (p1.Routines.length : Int))⟩, ⟨9, .callV [] (B r3), none⟩, ⟨11, .no, some (B false)⟩, ⟨14, .callV [] (B r6), none⟩, ⟨17, .no, some (B false)⟩, ⟨20, .no, some (I (p2.Stack.length : Int))⟩, ⟨23, .br false, none⟩]) (π := [(1001, 1), (1002, 2)]) (ts := [2, 3]) (kp := []) (ps := [AV.lit (.int .i64 (((p1.Routines.map r82).length : Nat) : Int)) = (I (p1.Routines.length : Int)), Meets Try.prog 68 [(I p2.Routine), (I 0), (I (w64 ((p1.Routines.length : Int) - 1)))] (B r3), litA (B r3) = true, (B (!r3)) = (B false), Meets Try.prog 68 [(I p2.State), (I 1), (I 4)] (B r6), litA (B r6) = true, (B (!r6)) = (B false), AV.lit (.int .i64 (((p2.Stack.map o83).length : Nat) : Int)) = (I (p2.Stack.length : Int)), (decide ((p2.Stack.length : Int) > 8)) = false, RenOK [(1001, 1), (1002, 2)] [((r35 p1))], RenOK [(1001, 1), (1002, 2)] [((r70 p2))]]) (by kernel_rfl) ⟨(lenM r82), (spec_l1In_m hr3), rfl, (litB c5), (spec_l1In_m hr6), rfl, (litB c8), (lenM o83), c10, (rok (treeB t35 p1)), (rok (treeB t70 p2)), trivial⟩ (spec_l3Thread_j0_m hP hn hx p1 p2  _ h)
noncomputable def body38 : Code := match Try.f38.body with | some c => c | none => .skip
noncomputable def spec_l3Good_l0  (p2 : GState) : Nat → GProg → GState → Int → Option Bool
  | 0, _, _, _ => none
  | n + 1, a13, a14, v15 =>
  if (decide (v15 < (p2.Threads.length : Int))) = true then
    Option.bind (rd p2.Threads v15) fun x17 =>
    Option.bind (spec_l3Thread a13 x17) fun r18 =>
    if (!r18) = true then
      some false
    else
      spec_l3Good_l0 p2 n a13 a14 (w64 (v15 + 1))
  else
    Option.bind (spec_l1All a14.Owner (-1) (w64 ((a14.Threads.length : Int) - 1))) fun r22 =>
    some r22
theorem spec_l3Good_l0_m {E : Env} (hP : E.P = Try.prog) (hn : E.n = 53) (hx : ∀ p, p ∈ E.fx → p.1 ∈ ([] : List Nat)) (p2 : GState)  : ∀ (n : Nat) (a13 : GProg) (a14 : GState) (v15 : Int) (r : Bool), spec_l3Good_l0 p2 n a13 a14 v15 = some r → WAt E body38 (FQ (RetE Θ Try.f38.results.toList [] [] (B r) E)) [true, true, false, true, false] ⟨[(2, (AV.ptr 1 0 0)), (3, (AV.ptr 2 0 0)), (35, (AV.ro 6 (p2.Threads.map r70))), (36, (I (p2.Threads.length : Int))), (37, (I v15))], [(1, some ⟨35, 4, [((r35 a13))]⟩), (2, some ⟨39, 4, [((r39 a14))]⟩)], [1, 2, JJ]⟩ := by
  have hm : E.P.follows .mixedOrders = true := by rw [hP]; exact mixed
  have hΘ : TOK E.P Θ := by rw [hP]; exact Θ_ok
  intro n
  induction n with
  | zero => intro a13 a14 v15 r h; simp only [spec_l3Good_l0] at h; cases h
  | succ n ih =>
    intro a13 a14 v15 r h
    simp only [spec_l3Good_l0] at h
    rcases itS h with ⟨c16, h⟩ | ⟨c21, h⟩
    · obtain ⟨x17, hx17, h⟩ := bnS h
      obtain ⟨r18, hr18, h⟩ := bnS h
      rcases itS h with ⟨c19, h⟩ | ⟨c20, h⟩
      · have h := Option.some.inj h
        subst h
        exact go_ret hΘ hm hP hn (hs := [⟨1, .br true, none⟩, ⟨2, .row (r70 x17), none⟩, ⟨4, .new 1001, none⟩, ⟨8, .callV [[], []] (B r18), none⟩, ⟨10, .br true, none⟩]) (rh := []) (ph := .raw) (ps := [(decide (v15 < (p2.Threads.length : Int))) = true, (0 : Int) ≤ v15, (p2.Threads.map r70)[(Int.toNat v15)]? = some (r70 x17), Meets Try.prog 70 [(AV.agg ((r35 a13))), (AV.agg ((r70 x17)))] (B r18), litA (B r18) = true, (!r18) = true, (B false) = (B false), litA (B false) = true]) (by kernel_rfl) ⟨c16, (rd0 hx17), (rdM r70 hx17), (spec_l3Thread_m hr18), rfl, c19, rfl, rfl, trivial⟩
      · exact go_to hΘ hm hx hP hn (hs := [⟨1, .br true, none⟩, ⟨2, .row (r70 x17), none⟩, ⟨4, .new 1001, none⟩, ⟨8, .callV [[], []] (B r18), none⟩, ⟨10, .br false, none⟩]) (π := [(1, 1), (2, 2)]) (ts := [2, 3, 35, 36, 37]) (kp := []) (ps := [(decide (v15 < (p2.Threads.length : Int))) = true, (0 : Int) ≤ v15, (p2.Threads.map r70)[(Int.toNat v15)]? = some (r70 x17), Meets Try.prog 70 [(AV.agg ((r35 a13))), (AV.agg ((r70 x17)))] (B r18), litA (B r18) = true, (!r18) = false, RenOK [(1, 1), (2, 2)] [((r35 a13))], RenOK [(1, 1), (2, 2)] [((r39 a14))]]) (by kernel_rfl) ⟨c16, (rd0 hx17), (rdM r70 hx17), (spec_l3Thread_m hr18), rfl, c20, (rok (treeB t35 a13)), (rok (treeB t39 a14)), trivial⟩ (ih a13 a14 (w64 (v15 + 1)) _ h)
    · obtain ⟨r22, hr22, h⟩ := bnS h
      have h := Option.some.inj h
      subst h
      exact go_ret hΘ hm hP hn (hs := [⟨1, .br false, none⟩, ⟨6, .no, some (I (a14.Threads.length : Int))⟩, ⟨8, .callV [] (B r22), none⟩]) (rh := []) (ph := .raw) (ps := [(decide (v15 < (p2.Threads.length : Int))) = false, AV.lit (.int .i64 (((a14.Threads.map r70).length : Nat) : Int)) = (I (a14.Threads.length : Int)), Meets Try.prog 71 [(AV.ro 1 (a14.Owner.map o3)), (I (-1)), (I (w64 ((a14.Threads.length : Int) - 1)))] (B r22), litA (B r22) = true, (B r22) = (B r22), litA (B r22) = true]) (by kernel_rfl) ⟨c21, (lenM r70), (spec_l1All_m hr22), rfl, rfl, rfl, trivial⟩
noncomputable def spec_l3Good (p1 : GProg) (p2 : GState) : Option Bool :=
  Option.bind (spec_l1In (p2.Threads.length : Int) 1 5) fun r3 =>
  if (!r3) = true then
    some false
  else
    if ((p2.Cells.length : Int) != p1.Cells) = true then
      some false
    else
      if ((p2.Owner.length : Int) != p1.Locks) = true then
        some false
      else
        Option.bind (spec_l1In p2.Fault 0 4) fun r10 =>
        if (!r10) = true then
          some false
        else
          spec_l3Good_l0 p2 FU p1 p2 0
theorem spec_l3Good_m {p1 : GProg} {p2 : GState} {r : Bool} (h : spec_l3Good p1 p2 = some r) : Meets Try.prog 38 [(AV.agg ((r35 p1))), (AV.agg ((r39 p2)))] (B r) := by
  refine meets_ofC Θ_ok Try.func38 rfl (c := body38) (by kernel_rfl) (Nat.le_of_ble_eq_true rfl) ?_
  intro E hP hn hx
  replace hn : E.n = 53 := hn
  have hm : E.P.follows .mixedOrders = true := by rw [hP]; exact mixed
  have hΘ : TOK E.P Θ := by rw [hP]; exact Θ_ok
  unfold spec_l3Good at h
  show WAt E body38 (FQ (RetE Θ Try.f38.results.toList [] [] (B r) E)) [] ⟨[(0, (AV.agg ((r35 p1)))), (1, (AV.agg ((r39 p2))))], [], [JJ]⟩
  obtain ⟨r3, hr3, h⟩ := bnS h
  rcases itS h with ⟨c4, h⟩ | ⟨c5, h⟩
  · have h := Option.some.inj h
    subst h
    exact go_ret hΘ hm hP hn (hs := [⟨0, .new 1001, none⟩, ⟨1, .new 1002, none⟩, ⟨5, .no, some (I (p2.Threads.length : Int))⟩, ⟨6, .callV [] (B r3), none⟩, ⟨8, .no, some (B true)⟩]) (rh := []) (ph := .raw) (ps := [AV.lit (.int .i64 (((p2.Threads.map r70).length : Nat) : Int)) = (I (p2.Threads.length : Int)), Meets Try.prog 68 [(I (p2.Threads.length : Int)), (I 1), (I 5)] (B r3), litA (B r3) = true, (B (!r3)) = (B true), (B false) = (B false), litA (B false) = true]) (by kernel_rfl) ⟨(lenM r70), (spec_l1In_m hr3), rfl, (litB c4), rfl, rfl, trivial⟩
  · rcases itS h with ⟨c6, h⟩ | ⟨c7, h⟩
    · have h := Option.some.inj h
      subst h
      exact go_ret hΘ hm hP hn (hs := [⟨0, .new 1001, none⟩, ⟨1, .new 1002, none⟩, ⟨5, .no, some (I (p2.Threads.length : Int))⟩, ⟨6, .callV [] (B r3), none⟩, ⟨8, .no, some (B false)⟩, ⟨11, .no, some (I (p2.Cells.length : Int))⟩, ⟨16, .no, some (B true)⟩]) (rh := []) (ph := .raw) (ps := [AV.lit (.int .i64 (((p2.Threads.map r70).length : Nat) : Int)) = (I (p2.Threads.length : Int)), Meets Try.prog 68 [(I (p2.Threads.length : Int)), (I 1), (I 5)] (B r3), litA (B r3) = true, (B (!r3)) = (B false), AV.lit (.int .i64 (((p2.Cells.map o83).length : Nat) : Int)) = (I (p2.Cells.length : Int)), (B ((p2.Cells.length : Int) != p1.Cells)) = (B true), (B false) = (B false), litA (B false) = true]) (by kernel_rfl) ⟨(lenM r70), (spec_l1In_m hr3), rfl, (litB c5), (lenM o83), (litB c6), rfl, rfl, trivial⟩
    · rcases itS h with ⟨c8, h⟩ | ⟨c9, h⟩
      · have h := Option.some.inj h
        subst h
        exact go_ret hΘ hm hP hn (hs := [⟨0, .new 1001, none⟩, ⟨1, .new 1002, none⟩, ⟨5, .no, some (I (p2.Threads.length : Int))⟩, ⟨6, .callV [] (B r3), none⟩, ⟨8, .no, some (B false)⟩, ⟨11, .no, some (I (p2.Cells.length : Int))⟩, ⟨16, .no, some (B false)⟩, ⟨19, .no, some (I (p2.Owner.length : Int))⟩, ⟨24, .no, some (B true)⟩]) (rh := []) (ph := .raw) (ps := [AV.lit (.int .i64 (((p2.Threads.map r70).length : Nat) : Int)) = (I (p2.Threads.length : Int)), Meets Try.prog 68 [(I (p2.Threads.length : Int)), (I 1), (I 5)] (B r3), litA (B r3) = true, (B (!r3)) = (B false), AV.lit (.int .i64 (((p2.Cells.map o83).length : Nat) : Int)) = (I (p2.Cells.length : Int)), (B ((p2.Cells.length : Int) != p1.Cells)) = (B false), AV.lit (.int .i64 (((p2.Owner.map o3).length : Nat) : Int)) = (I (p2.Owner.length : Int)), (B ((p2.Owner.length : Int) != p1.Locks)) = (B true), (B false) = (B false), litA (B false) = true]) (by kernel_rfl) ⟨(lenM r70), (spec_l1In_m hr3), rfl, (litB c5), (lenM o83), (litB c7), (lenM o3), (litB c8), rfl, rfl, trivial⟩
      · obtain ⟨r10, hr10, h⟩ := bnS h
        rcases itS h with ⟨c11, h⟩ | ⟨c12, h⟩
        · have h := Option.some.inj h
          subst h
          exact go_ret hΘ hm hP hn (hs := [⟨0, .new 1001, none⟩, ⟨1, .new 1002, none⟩, ⟨5, .no, some (I (p2.Threads.length : Int))⟩, ⟨6, .callV [] (B r3), none⟩, ⟨8, .no, some (B false)⟩, ⟨11, .no, some (I (p2.Cells.length : Int))⟩, ⟨16, .no, some (B false)⟩, ⟨19, .no, some (I (p2.Owner.length : Int))⟩, ⟨24, .no, some (B false)⟩, ⟨27, .callV [] (B r10), none⟩, ⟨30, .br true, none⟩]) (rh := []) (ph := .raw) (ps := [AV.lit (.int .i64 (((p2.Threads.map r70).length : Nat) : Int)) = (I (p2.Threads.length : Int)), Meets Try.prog 68 [(I (p2.Threads.length : Int)), (I 1), (I 5)] (B r3), litA (B r3) = true, (B (!r3)) = (B false), AV.lit (.int .i64 (((p2.Cells.map o83).length : Nat) : Int)) = (I (p2.Cells.length : Int)), (B ((p2.Cells.length : Int) != p1.Cells)) = (B false), AV.lit (.int .i64 (((p2.Owner.map o3).length : Nat) : Int)) = (I (p2.Owner.length : Int)), (B ((p2.Owner.length : Int) != p1.Locks)) = (B false), Meets Try.prog 68 [(I p2.Fault), (I 0), (I 4)] (B r10), litA (B r10) = true, (!r10) = true, (B false) = (B false), litA (B false) = true]) (by kernel_rfl) ⟨(lenM r70), (spec_l1In_m hr3), rfl, (litB c5), (lenM o83), (litB c7), (lenM o3), (litB c9), (spec_l1In_m hr10), rfl, c11, rfl, rfl, trivial⟩
        · exact go_to hΘ hm hx hP hn (hs := [⟨0, .new 1001, none⟩, ⟨1, .new 1002, none⟩, ⟨5, .no, some (I (p2.Threads.length : Int))⟩, ⟨6, .callV [] (B r3), none⟩, ⟨8, .no, some (B false)⟩, ⟨11, .no, some (I (p2.Cells.length : Int))⟩, ⟨16, .no, some (B false)⟩, ⟨19, .no, some (I (p2.Owner.length : Int))⟩, ⟨24, .no, some (B false)⟩, ⟨27, .callV [] (B r10), none⟩, ⟨30, .br false, none⟩, ⟨33, .no, some (I (p2.Threads.length : Int))⟩]) (π := [(1001, 1), (1002, 2)]) (ts := [2, 3, 35, 36, 37]) (kp := []) (ps := [AV.lit (.int .i64 (((p2.Threads.map r70).length : Nat) : Int)) = (I (p2.Threads.length : Int)), Meets Try.prog 68 [(I (p2.Threads.length : Int)), (I 1), (I 5)] (B r3), litA (B r3) = true, (B (!r3)) = (B false), AV.lit (.int .i64 (((p2.Cells.map o83).length : Nat) : Int)) = (I (p2.Cells.length : Int)), (B ((p2.Cells.length : Int) != p1.Cells)) = (B false), AV.lit (.int .i64 (((p2.Owner.map o3).length : Nat) : Int)) = (I (p2.Owner.length : Int)), (B ((p2.Owner.length : Int) != p1.Locks)) = (B false), Meets Try.prog 68 [(I p2.Fault), (I 0), (I 4)] (B r10), litA (B r10) = true, (!r10) = false, AV.lit (.int .i64 (((p2.Threads.map r70).length : Nat) : Int)) = (I (p2.Threads.length : Int)), RenOK [(1001, 1), (1002, 2)] [((r35 p1))], RenOK [(1001, 1), (1002, 2)] [((r39 p2))]]) (by kernel_rfl) ⟨(lenM r70), (spec_l1In_m hr3), rfl, (litB c5), (lenM o83), (litB c7), (lenM o3), (litB c9), (spec_l1In_m hr10), rfl, c12, (lenM r70), (rok (treeB t35 p1)), (rok (treeB t39 p2)), trivial⟩ (spec_l3Good_l0_m hP hn hx p2 FU p1 p2 0 _ h)
noncomputable def body10 : Code := match Try.f10.body with | some c => c | none => .skip
noncomputable def spec_GoodState (p1 : GProg) (p2 : GState) : Option Bool :=
  Option.bind (spec_GoodProg p1) fun r3 =>
  if r3 = true then
    Option.bind (spec_l3Good p1 p2) fun r5 =>
    some r5
  else
    some false
theorem spec_GoodState_m {p1 : GProg} {p2 : GState} {r : Bool} (h : spec_GoodState p1 p2 = some r) : Meets Try.prog 10 [(AV.agg ((r35 p1))), (AV.agg ((r39 p2)))] (B r) := by
  refine meets_ofC Θ_ok Try.func10 rfl (c := body10) (by kernel_rfl) (Nat.le_of_ble_eq_true rfl) ?_
  intro E hP hn hx
  replace hn : E.n = 12 := hn
  have hm : E.P.follows .mixedOrders = true := by rw [hP]; exact mixed
  have hΘ : TOK E.P Θ := by rw [hP]; exact Θ_ok
  unfold spec_GoodState at h
  show WAt E body10 (FQ (RetE Θ Try.f10.results.toList [] [] (B r) E)) [] ⟨[(0, (AV.agg ((r35 p1)))), (1, (AV.agg ((r39 p2))))], [], [JJ]⟩
  obtain ⟨r3, hr3, h⟩ := bnS h
  rcases itS h with ⟨c4, h⟩ | ⟨c6, h⟩
  · obtain ⟨r5, hr5, h⟩ := bnS h
    have h := Option.some.inj h
    subst h
    exact go_ret hΘ hm hP hn (hs := [⟨0, .new 1001, none⟩, ⟨1, .new 1002, none⟩, ⟨4, .callV [[]] (B r3), none⟩, ⟨5, .no, some (B true)⟩, ⟨8, .callV [[], []] (B r5), none⟩]) (rh := []) (ph := .raw) (ps := [Meets Try.prog 37 [(AV.agg ((r35 p1)))] (B r3), litA (B r3) = true, (B r3) = (B true), Meets Try.prog 38 [(AV.agg ((r35 p1))), (AV.agg ((r39 p2)))] (B r5), litA (B r5) = true, (B r5) = (B r5), litA (B r5) = true]) (by kernel_rfl) ⟨(spec_GoodProg_m hr3), rfl, (litB c4), (spec_l3Good_m hr5), rfl, rfl, rfl, trivial⟩
  · have h := Option.some.inj h
    subst h
    exact go_ret hΘ hm hP hn (hs := [⟨0, .new 1001, none⟩, ⟨1, .new 1002, none⟩, ⟨4, .callV [[]] (B r3), none⟩, ⟨5, .no, some (B false)⟩]) (rh := []) (ph := .raw) (ps := [Meets Try.prog 37 [(AV.agg ((r35 p1)))] (B r3), litA (B r3) = true, (B r3) = (B false), (B false) = (B false), litA (B false) = true]) (by kernel_rfl) ⟨(spec_GoodProg_m hr3), rfl, (litB c6), rfl, rfl, trivial⟩
noncomputable def body3 : Code := match Try.f3.body with | some c => c | none => .skip
noncomputable def laws_FnExactGoodState (p1 : GProg) (p2 : GState) : Option Bool :=
  Option.bind (laws_szProg p1 1048576) fun r3 =>
  if (decide (r3 < 0)) = true then
    some true
  else
    Option.bind (laws_szState p2 r3) fun r6 =>
    if (decide (r6 < 0)) = true then
      some true
    else
      Option.bind (laws_toProg p1) fun r9 =>
      Option.bind (laws_toState p2) fun r10 =>
      Option.bind (spec_GoodState (GProg.mk r9.Cells r9.Locks r9.Conds r9.Routines) (GState.mk r10.Threads r10.Cells r10.Owner r10.Fault)) fun r11 =>
      Option.bind (laws_toProg p1) fun r12 =>
      Option.bind (laws_toState p2) fun r13 =>
      Option.bind (impl_GoodState (GProg.mk r12.Cells r12.Locks r12.Conds r12.Routines) (GState.mk r13.Threads r13.Cells r13.Owner r13.Fault)) fun r14 =>
      if (!(r14 == r11)) = true then
        some false
      else
        Option.bind (laws_toProg p1) fun r17 =>
        Option.bind (laws_eqProg (GProg.mk r12.Cells r12.Locks r12.Conds r12.Routines) (GProg.mk r17.Cells r17.Locks r17.Conds r17.Routines)) fun r18 =>
        if (!r18) = true then
          some false
        else
          Option.bind (laws_toState p2) fun r21 =>
          Option.bind (laws_eqState (GState.mk r13.Threads r13.Cells r13.Owner r13.Fault) (GState.mk r21.Threads r21.Cells r21.Owner r21.Fault)) fun r22 =>
          if (!r22) = true then
            some false
          else
            some true
theorem laws_FnExactGoodState_m {p1 : GProg} {p2 : GState} {r : Bool} (h : laws_FnExactGoodState p1 p2 = some r) : Meets Try.prog 3 [(AV.agg ((r24 p1))), (AV.agg ((r29 p2)))] (B r) := by
  refine meets_ofC Θ_ok Try.func3 rfl (c := body3) (by kernel_rfl) (Nat.le_of_ble_eq_true rfl) ?_
  intro E hP hn hx
  replace hn : E.n = 45 := hn
  have hm : E.P.follows .mixedOrders = true := by rw [hP]; exact mixed
  have hΘ : TOK E.P Θ := by rw [hP]; exact Θ_ok
  unfold laws_FnExactGoodState at h
  show WAt E body3 (FQ (RetE Θ Try.f3.results.toList [] [] (B r) E)) [] ⟨[(0, (AV.agg ((r24 p1)))), (1, (AV.agg ((r29 p2))))], [], [JJ]⟩
  obtain ⟨r3, hr3, h⟩ := bnS h
  rcases itS h with ⟨c4, h⟩ | ⟨c5, h⟩
  · have h := Option.some.inj h
    subst h
    exact go_ret hΘ hm hP hn (hs := [⟨0, .new 1001, none⟩, ⟨1, .new 1002, none⟩, ⟨6, .callV [[]] (I r3), none⟩, ⟨10, .br true, none⟩]) (rh := []) (ph := .raw) (ps := [Meets Try.prog 8 [(AV.agg ((r24 p1))), (I 1048576)] (I r3), litA (I r3) = true, (decide (r3 < 0)) = true, (B true) = (B true), litA (B true) = true]) (by kernel_rfl) ⟨(laws_szProg_m hr3), rfl, c4, rfl, rfl, trivial⟩
  · obtain ⟨r6, hr6, h⟩ := bnS h
    rcases itS h with ⟨c7, h⟩ | ⟨c8, h⟩
    · have h := Option.some.inj h
      subst h
      exact go_ret hΘ hm hP hn (hs := [⟨0, .new 1001, none⟩, ⟨1, .new 1002, none⟩, ⟨6, .callV [[]] (I r3), none⟩, ⟨10, .br false, none⟩, ⟨13, .callV [[]] (I r6), none⟩, ⟨17, .br true, none⟩]) (rh := []) (ph := .raw) (ps := [Meets Try.prog 8 [(AV.agg ((r24 p1))), (I 1048576)] (I r3), litA (I r3) = true, (decide (r3 < 0)) = false, Meets Try.prog 9 [(AV.agg ((r29 p2))), (I r3)] (I r6), litA (I r6) = true, (decide (r6 < 0)) = true, (B true) = (B true), litA (B true) = true]) (by kernel_rfl) ⟨(laws_szProg_m hr3), rfl, c5, (laws_szState_m hr6), rfl, c7, rfl, rfl, trivial⟩
    · obtain ⟨r9, hr9, h⟩ := bnS h
      obtain ⟨r10, hr10, h⟩ := bnS h
      obtain ⟨r11, hr11, h⟩ := bnS h
      obtain ⟨r12, hr12, h⟩ := bnS h
      obtain ⟨r13, hr13, h⟩ := bnS h
      obtain ⟨r14, hr14, h⟩ := bnS h
      rcases itS h with ⟨c15, h⟩ | ⟨c16, h⟩
      · have h := Option.some.inj h
        subst h
        exact go_ret hΘ hm hP hn (hs := [⟨0, .new 1001, none⟩, ⟨1, .new 1002, none⟩, ⟨6, .callV [[]] (I r3), none⟩, ⟨10, .br false, none⟩, ⟨13, .callV [[]] (I r6), none⟩, ⟨17, .br false, none⟩, ⟨19, .call [[]] (AV.agg (o35 r9)) [1003], none⟩, ⟨22, .call [[]] (AV.agg (o39 r10)) [1004, 1005, 1006], none⟩, ⟨23, .callV [[], (r9.Routines.map r82), [], (r10.Threads.map r70), (r10.Cells.map o83), (r10.Owner.map o3)] (B r11), none⟩, ⟨26, .call [[]] (AV.agg (o35 r12)) [1007], none⟩, ⟨27, .new 1008, none⟩, ⟨30, .call [[]] (AV.agg (o39 r13)) [1009, 1010, 1011], none⟩, ⟨31, .new 1012, none⟩, ⟨35, .callV [[], (r12.Routines.map r82), [], (r13.Threads.map r70), (r13.Cells.map o83), (r13.Owner.map o3)] (B r14), none⟩, ⟨40, .br true, none⟩]) (rh := []) (ph := .raw) (ps := [Meets Try.prog 8 [(AV.agg ((r24 p1))), (I 1048576)] (I r3), litA (I r3) = true, (decide (r3 < 0)) = false, Meets Try.prog 9 [(AV.agg ((r29 p2))), (I r3)] (I r6), litA (I r6) = true, (decide (r6 < 0)) = false, Meets Try.prog 11 [(AV.agg ((r24 p1)))] (AV.agg (o35 r9)), noRo (AV.agg (o35 r9)) = true, (AV.agg ((r29 p2))) = (AV.agg ((r29 p2))), Meets Try.prog 12 [(AV.agg ((r29 p2)))] (AV.agg (o39 r10)), noRo (AV.agg (o39 r10)) = true, Meets Try.prog 10 [(AV.agg [(I r9.Cells), (I r9.Locks), (I r9.Conds), (AV.ro 1 (r9.Routines.map r82))]), (AV.agg [(AV.ro 6 (r10.Threads.map r70)), (AV.ro 1 (r10.Cells.map o83)), (AV.ro 1 (r10.Owner.map o3)), (I r10.Fault)])] (B r11), litA (B r11) = true, Frz (((r9.Routines.map o82).drop 0).take (List.length (r9.Routines.map o82))) (r9.Routines.map r82), Frz (((r10.Threads.map o70).drop 0).take (List.length (r10.Threads.map o70))) (r10.Threads.map r70), Frz (((r10.Cells.map o83).drop 0).take (List.length (r10.Cells.map o83))) (r10.Cells.map o83), Frz (((r10.Owner.map o3).drop 0).take (List.length (r10.Owner.map o3))) (r10.Owner.map o3), Meets Try.prog 11 [(AV.agg ((r24 p1)))] (AV.agg (o35 r12)), noRo (AV.agg (o35 r12)) = true, Meets Try.prog 12 [(AV.agg ((r29 p2)))] (AV.agg (o39 r13)), noRo (AV.agg (o39 r13)) = true, Meets Try.prog 13 [(AV.agg [(I r12.Cells), (I r12.Locks), (I r12.Conds), (AV.ro 1 (r12.Routines.map r82))]), (AV.agg [(AV.ro 6 (r13.Threads.map r70)), (AV.ro 1 (r13.Cells.map o83)), (AV.ro 1 (r13.Owner.map o3)), (I r13.Fault)])] (B r14), litA (B r14) = true, Frz (((r12.Routines.map o82).drop 0).take (List.length (r12.Routines.map o82))) (r12.Routines.map r82), Frz (((r13.Threads.map o70).drop 0).take (List.length (r13.Threads.map o70))) (r13.Threads.map r70), Frz (((r13.Cells.map o83).drop 0).take (List.length (r13.Cells.map o83))) (r13.Cells.map o83), Frz (((r13.Owner.map o3).drop 0).take (List.length (r13.Owner.map o3))) (r13.Owner.map o3), (!(r14 == r11)) = true, (B false) = (B false), litA (B false) = true]) (by kernel_rfl) ⟨(laws_szProg_m hr3), rfl, c5, (laws_szState_m hr6), rfl, c8, (laws_toProg_m hr9), (by simp only [noRo, noRoL, noRoM n82, o35, Bool.and_self]), rfl, (laws_toState_m hr10), (by simp only [noRo, noRoL, noRoM n3, noRoM n70, noRoM n83, o39, Bool.and_self]), (spec_GoodState_m hr11), rfl, (frzF t82 z82), (frzF t70 z70), (frzF t83 z83), (frzF t3 z3), (laws_toProg_m hr12), (by simp only [noRo, noRoL, noRoM n82, o35, Bool.and_self]), (laws_toState_m hr13), (by simp only [noRo, noRoL, noRoM n3, noRoM n70, noRoM n83, o39, Bool.and_self]), (impl_GoodState_m hr14), rfl, (frzF t82 z82), (frzF t70 z70), (frzF t83 z83), (frzF t3 z3), c15, rfl, rfl, trivial⟩
      · obtain ⟨r17, hr17, h⟩ := bnS h
        obtain ⟨r18, hr18, h⟩ := bnS h
        rcases itS h with ⟨c19, h⟩ | ⟨c20, h⟩
        · have h := Option.some.inj h
          subst h
          exact go_ret hΘ hm hP hn (hs := [⟨0, .new 1001, none⟩, ⟨1, .new 1002, none⟩, ⟨6, .callV [[]] (I r3), none⟩, ⟨10, .br false, none⟩, ⟨13, .callV [[]] (I r6), none⟩, ⟨17, .br false, none⟩, ⟨19, .call [[]] (AV.agg (o35 r9)) [1003], none⟩, ⟨22, .call [[]] (AV.agg (o39 r10)) [1004, 1005, 1006], none⟩, ⟨23, .callV [[], (r9.Routines.map r82), [], (r10.Threads.map r70), (r10.Cells.map o83), (r10.Owner.map o3)] (B r11), none⟩, ⟨26, .call [[]] (AV.agg (o35 r12)) [1007], none⟩, ⟨27, .new 1008, none⟩, ⟨30, .call [[]] (AV.agg (o39 r13)) [1009, 1010, 1011], none⟩, ⟨31, .new 1012, none⟩, ⟨35, .callV [[], (r12.Routines.map r82), [], (r13.Threads.map r70), (r13.Cells.map o83), (r13.Owner.map o3)] (B r14), none⟩, ⟨40, .br false, none⟩, ⟨43, .call [[]] (AV.agg (o35 r17)) [1013], none⟩, ⟨45, .callV [[], (r12.Routines.map r82), [], (r17.Routines.map r82)] (B r18), none⟩, ⟨47, .br true, none⟩]) (rh := []) (ph := .raw) (ps := [Meets Try.prog 8 [(AV.agg ((r24 p1))), (I 1048576)] (I r3), litA (I r3) = true, (decide (r3 < 0)) = false, Meets Try.prog 9 [(AV.agg ((r29 p2))), (I r3)] (I r6), litA (I r6) = true, (decide (r6 < 0)) = false, Meets Try.prog 11 [(AV.agg ((r24 p1)))] (AV.agg (o35 r9)), noRo (AV.agg (o35 r9)) = true, (AV.agg ((r29 p2))) = (AV.agg ((r29 p2))), Meets Try.prog 12 [(AV.agg ((r29 p2)))] (AV.agg (o39 r10)), noRo (AV.agg (o39 r10)) = true, Meets Try.prog 10 [(AV.agg [(I r9.Cells), (I r9.Locks), (I r9.Conds), (AV.ro 1 (r9.Routines.map r82))]), (AV.agg [(AV.ro 6 (r10.Threads.map r70)), (AV.ro 1 (r10.Cells.map o83)), (AV.ro 1 (r10.Owner.map o3)), (I r10.Fault)])] (B r11), litA (B r11) = true, Frz (((r9.Routines.map o82).drop 0).take (List.length (r9.Routines.map o82))) (r9.Routines.map r82), Frz (((r10.Threads.map o70).drop 0).take (List.length (r10.Threads.map o70))) (r10.Threads.map r70), Frz (((r10.Cells.map o83).drop 0).take (List.length (r10.Cells.map o83))) (r10.Cells.map o83), Frz (((r10.Owner.map o3).drop 0).take (List.length (r10.Owner.map o3))) (r10.Owner.map o3), Meets Try.prog 11 [(AV.agg ((r24 p1)))] (AV.agg (o35 r12)), noRo (AV.agg (o35 r12)) = true, Meets Try.prog 12 [(AV.agg ((r29 p2)))] (AV.agg (o39 r13)), noRo (AV.agg (o39 r13)) = true, Meets Try.prog 13 [(AV.agg [(I r12.Cells), (I r12.Locks), (I r12.Conds), (AV.ro 1 (r12.Routines.map r82))]), (AV.agg [(AV.ro 6 (r13.Threads.map r70)), (AV.ro 1 (r13.Cells.map o83)), (AV.ro 1 (r13.Owner.map o3)), (I r13.Fault)])] (B r14), litA (B r14) = true, Frz (((r12.Routines.map o82).drop 0).take (List.length (r12.Routines.map o82))) (r12.Routines.map r82), Frz (((r13.Threads.map o70).drop 0).take (List.length (r13.Threads.map o70))) (r13.Threads.map r70), Frz (((r13.Cells.map o83).drop 0).take (List.length (r13.Cells.map o83))) (r13.Cells.map o83), Frz (((r13.Owner.map o3).drop 0).take (List.length (r13.Owner.map o3))) (r13.Owner.map o3), (!(r14 == r11)) = false, Meets Try.prog 11 [(AV.agg ((r24 p1)))] (AV.agg (o35 r17)), noRo (AV.agg (o35 r17)) = true, (AV.agg [(I r12.Cells), (I r12.Locks), (I r12.Conds), (AV.sl 1007 0 (List.length (r12.Routines.map o82)))]) = (AV.agg [(I r12.Cells), (I r12.Locks), (I r12.Conds), (AV.sl 1007 0 (List.length (r12.Routines.map o82)))]), Meets Try.prog 14 [(AV.agg [(I r12.Cells), (I r12.Locks), (I r12.Conds), (AV.ro 1 (r12.Routines.map r82))]), (AV.agg [(I r17.Cells), (I r17.Locks), (I r17.Conds), (AV.ro 1 (r17.Routines.map r82))])] (B r18), litA (B r18) = true, Frz (((r12.Routines.map o82).drop 0).take (List.length (r12.Routines.map o82))) (r12.Routines.map r82), Frz (((r17.Routines.map o82).drop 0).take (List.length (r17.Routines.map o82))) (r17.Routines.map r82), (!r18) = true, (B false) = (B false), litA (B false) = true]) (by kernel_rfl) ⟨(laws_szProg_m hr3), rfl, c5, (laws_szState_m hr6), rfl, c8, (laws_toProg_m hr9), (by simp only [noRo, noRoL, noRoM n82, o35, Bool.and_self]), rfl, (laws_toState_m hr10), (by simp only [noRo, noRoL, noRoM n3, noRoM n70, noRoM n83, o39, Bool.and_self]), (spec_GoodState_m hr11), rfl, (frzF t82 z82), (frzF t70 z70), (frzF t83 z83), (frzF t3 z3), (laws_toProg_m hr12), (by simp only [noRo, noRoL, noRoM n82, o35, Bool.and_self]), (laws_toState_m hr13), (by simp only [noRo, noRoL, noRoM n3, noRoM n70, noRoM n83, o39, Bool.and_self]), (impl_GoodState_m hr14), rfl, (frzF t82 z82), (frzF t70 z70), (frzF t83 z83), (frzF t3 z3), c16, (laws_toProg_m hr17), (by simp only [noRo, noRoL, noRoM n82, o35, Bool.and_self]), rfl, (laws_eqProg_m hr18), rfl, (frzF t82 z82), (frzF t82 z82), c19, rfl, rfl, trivial⟩
        · obtain ⟨r21, hr21, h⟩ := bnS h
          obtain ⟨r22, hr22, h⟩ := bnS h
          rcases itS h with ⟨c23, h⟩ | ⟨c24, h⟩
          · have h := Option.some.inj h
            subst h
            exact go_ret hΘ hm hP hn (hs := [⟨0, .new 1001, none⟩, ⟨1, .new 1002, none⟩, ⟨6, .callV [[]] (I r3), none⟩, ⟨10, .br false, none⟩, ⟨13, .callV [[]] (I r6), none⟩, ⟨17, .br false, none⟩, ⟨19, .call [[]] (AV.agg (o35 r9)) [1003], none⟩, ⟨22, .call [[]] (AV.agg (o39 r10)) [1004, 1005, 1006], none⟩, ⟨23, .callV [[], (r9.Routines.map r82), [], (r10.Threads.map r70), (r10.Cells.map o83), (r10.Owner.map o3)] (B r11), none⟩, ⟨26, .call [[]] (AV.agg (o35 r12)) [1007], none⟩, ⟨27, .new 1008, none⟩, ⟨30, .call [[]] (AV.agg (o39 r13)) [1009, 1010, 1011], none⟩, ⟨31, .new 1012, none⟩, ⟨35, .callV [[], (r12.Routines.map r82), [], (r13.Threads.map r70), (r13.Cells.map o83), (r13.Owner.map o3)] (B r14), none⟩, ⟨40, .br false, none⟩, ⟨43, .call [[]] (AV.agg (o35 r17)) [1013], none⟩, ⟨45, .callV [[], (r12.Routines.map r82), [], (r17.Routines.map r82)] (B r18), none⟩, ⟨47, .br false, none⟩, ⟨50, .call [[]] (AV.agg (o39 r21)) [1014, 1015, 1016], none⟩, ⟨52, .callV [[], (r13.Threads.map r70), (r13.Cells.map o83), (r13.Owner.map o3), [], (r21.Threads.map r70), (r21.Cells.map o83), (r21.Owner.map o3)] (B r22), none⟩, ⟨54, .br true, none⟩]) (rh := []) (ph := .raw) (ps := [Meets Try.prog 8 [(AV.agg ((r24 p1))), (I 1048576)] (I r3), litA (I r3) = true, (decide (r3 < 0)) = false, Meets Try.prog 9 [(AV.agg ((r29 p2))), (I r3)] (I r6), litA (I r6) = true, (decide (r6 < 0)) = false, Meets Try.prog 11 [(AV.agg ((r24 p1)))] (AV.agg (o35 r9)), noRo (AV.agg (o35 r9)) = true, (AV.agg ((r29 p2))) = (AV.agg ((r29 p2))), Meets Try.prog 12 [(AV.agg ((r29 p2)))] (AV.agg (o39 r10)), noRo (AV.agg (o39 r10)) = true, Meets Try.prog 10 [(AV.agg [(I r9.Cells), (I r9.Locks), (I r9.Conds), (AV.ro 1 (r9.Routines.map r82))]), (AV.agg [(AV.ro 6 (r10.Threads.map r70)), (AV.ro 1 (r10.Cells.map o83)), (AV.ro 1 (r10.Owner.map o3)), (I r10.Fault)])] (B r11), litA (B r11) = true, Frz (((r9.Routines.map o82).drop 0).take (List.length (r9.Routines.map o82))) (r9.Routines.map r82), Frz (((r10.Threads.map o70).drop 0).take (List.length (r10.Threads.map o70))) (r10.Threads.map r70), Frz (((r10.Cells.map o83).drop 0).take (List.length (r10.Cells.map o83))) (r10.Cells.map o83), Frz (((r10.Owner.map o3).drop 0).take (List.length (r10.Owner.map o3))) (r10.Owner.map o3), Meets Try.prog 11 [(AV.agg ((r24 p1)))] (AV.agg (o35 r12)), noRo (AV.agg (o35 r12)) = true, Meets Try.prog 12 [(AV.agg ((r29 p2)))] (AV.agg (o39 r13)), noRo (AV.agg (o39 r13)) = true, Meets Try.prog 13 [(AV.agg [(I r12.Cells), (I r12.Locks), (I r12.Conds), (AV.ro 1 (r12.Routines.map r82))]), (AV.agg [(AV.ro 6 (r13.Threads.map r70)), (AV.ro 1 (r13.Cells.map o83)), (AV.ro 1 (r13.Owner.map o3)), (I r13.Fault)])] (B r14), litA (B r14) = true, Frz (((r12.Routines.map o82).drop 0).take (List.length (r12.Routines.map o82))) (r12.Routines.map r82), Frz (((r13.Threads.map o70).drop 0).take (List.length (r13.Threads.map o70))) (r13.Threads.map r70), Frz (((r13.Cells.map o83).drop 0).take (List.length (r13.Cells.map o83))) (r13.Cells.map o83), Frz (((r13.Owner.map o3).drop 0).take (List.length (r13.Owner.map o3))) (r13.Owner.map o3), (!(r14 == r11)) = false, Meets Try.prog 11 [(AV.agg ((r24 p1)))] (AV.agg (o35 r17)), noRo (AV.agg (o35 r17)) = true, (AV.agg [(I r12.Cells), (I r12.Locks), (I r12.Conds), (AV.sl 1007 0 (List.length (r12.Routines.map o82)))]) = (AV.agg [(I r12.Cells), (I r12.Locks), (I r12.Conds), (AV.sl 1007 0 (List.length (r12.Routines.map o82)))]), Meets Try.prog 14 [(AV.agg [(I r12.Cells), (I r12.Locks), (I r12.Conds), (AV.ro 1 (r12.Routines.map r82))]), (AV.agg [(I r17.Cells), (I r17.Locks), (I r17.Conds), (AV.ro 1 (r17.Routines.map r82))])] (B r18), litA (B r18) = true, Frz (((r12.Routines.map o82).drop 0).take (List.length (r12.Routines.map o82))) (r12.Routines.map r82), Frz (((r17.Routines.map o82).drop 0).take (List.length (r17.Routines.map o82))) (r17.Routines.map r82), (!r18) = false, Meets Try.prog 12 [(AV.agg ((r29 p2)))] (AV.agg (o39 r21)), noRo (AV.agg (o39 r21)) = true, (AV.agg [(AV.sl 1009 0 (List.length (r13.Threads.map o70))), (AV.sl 1010 0 (List.length (r13.Cells.map o83))), (AV.sl 1011 0 (List.length (r13.Owner.map o3))), (I r13.Fault)]) = (AV.agg [(AV.sl 1009 0 (List.length (r13.Threads.map o70))), (AV.sl 1010 0 (List.length (r13.Cells.map o83))), (AV.sl 1011 0 (List.length (r13.Owner.map o3))), (I r13.Fault)]), Meets Try.prog 15 [(AV.agg [(AV.ro 6 (r13.Threads.map r70)), (AV.ro 1 (r13.Cells.map o83)), (AV.ro 1 (r13.Owner.map o3)), (I r13.Fault)]), (AV.agg [(AV.ro 6 (r21.Threads.map r70)), (AV.ro 1 (r21.Cells.map o83)), (AV.ro 1 (r21.Owner.map o3)), (I r21.Fault)])] (B r22), litA (B r22) = true, Frz (((r13.Threads.map o70).drop 0).take (List.length (r13.Threads.map o70))) (r13.Threads.map r70), Frz (((r13.Cells.map o83).drop 0).take (List.length (r13.Cells.map o83))) (r13.Cells.map o83), Frz (((r13.Owner.map o3).drop 0).take (List.length (r13.Owner.map o3))) (r13.Owner.map o3), Frz (((r21.Threads.map o70).drop 0).take (List.length (r21.Threads.map o70))) (r21.Threads.map r70), Frz (((r21.Cells.map o83).drop 0).take (List.length (r21.Cells.map o83))) (r21.Cells.map o83), Frz (((r21.Owner.map o3).drop 0).take (List.length (r21.Owner.map o3))) (r21.Owner.map o3), (!r22) = true, (B false) = (B false), litA (B false) = true]) (by kernel_rfl) ⟨(laws_szProg_m hr3), rfl, c5, (laws_szState_m hr6), rfl, c8, (laws_toProg_m hr9), (by simp only [noRo, noRoL, noRoM n82, o35, Bool.and_self]), rfl, (laws_toState_m hr10), (by simp only [noRo, noRoL, noRoM n3, noRoM n70, noRoM n83, o39, Bool.and_self]), (spec_GoodState_m hr11), rfl, (frzF t82 z82), (frzF t70 z70), (frzF t83 z83), (frzF t3 z3), (laws_toProg_m hr12), (by simp only [noRo, noRoL, noRoM n82, o35, Bool.and_self]), (laws_toState_m hr13), (by simp only [noRo, noRoL, noRoM n3, noRoM n70, noRoM n83, o39, Bool.and_self]), (impl_GoodState_m hr14), rfl, (frzF t82 z82), (frzF t70 z70), (frzF t83 z83), (frzF t3 z3), c16, (laws_toProg_m hr17), (by simp only [noRo, noRoL, noRoM n82, o35, Bool.and_self]), rfl, (laws_eqProg_m hr18), rfl, (frzF t82 z82), (frzF t82 z82), c20, (laws_toState_m hr21), (by simp only [noRo, noRoL, noRoM n3, noRoM n70, noRoM n83, o39, Bool.and_self]), rfl, (laws_eqState_m hr22), rfl, (frzF t70 z70), (frzF t83 z83), (frzF t3 z3), (frzF t70 z70), (frzF t83 z83), (frzF t3 z3), c23, rfl, rfl, trivial⟩
          · have h := Option.some.inj h
            subst h
            exact go_ret hΘ hm hP hn (hs := [⟨0, .new 1001, none⟩, ⟨1, .new 1002, none⟩, ⟨6, .callV [[]] (I r3), none⟩, ⟨10, .br false, none⟩, ⟨13, .callV [[]] (I r6), none⟩, ⟨17, .br false, none⟩, ⟨19, .call [[]] (AV.agg (o35 r9)) [1003], none⟩, ⟨22, .call [[]] (AV.agg (o39 r10)) [1004, 1005, 1006], none⟩, ⟨23, .callV [[], (r9.Routines.map r82), [], (r10.Threads.map r70), (r10.Cells.map o83), (r10.Owner.map o3)] (B r11), none⟩, ⟨26, .call [[]] (AV.agg (o35 r12)) [1007], none⟩, ⟨27, .new 1008, none⟩, ⟨30, .call [[]] (AV.agg (o39 r13)) [1009, 1010, 1011], none⟩, ⟨31, .new 1012, none⟩, ⟨35, .callV [[], (r12.Routines.map r82), [], (r13.Threads.map r70), (r13.Cells.map o83), (r13.Owner.map o3)] (B r14), none⟩, ⟨40, .br false, none⟩, ⟨43, .call [[]] (AV.agg (o35 r17)) [1013], none⟩, ⟨45, .callV [[], (r12.Routines.map r82), [], (r17.Routines.map r82)] (B r18), none⟩, ⟨47, .br false, none⟩, ⟨50, .call [[]] (AV.agg (o39 r21)) [1014, 1015, 1016], none⟩, ⟨52, .callV [[], (r13.Threads.map r70), (r13.Cells.map o83), (r13.Owner.map o3), [], (r21.Threads.map r70), (r21.Cells.map o83), (r21.Owner.map o3)] (B r22), none⟩, ⟨54, .br false, none⟩]) (rh := []) (ph := .raw) (ps := [Meets Try.prog 8 [(AV.agg ((r24 p1))), (I 1048576)] (I r3), litA (I r3) = true, (decide (r3 < 0)) = false, Meets Try.prog 9 [(AV.agg ((r29 p2))), (I r3)] (I r6), litA (I r6) = true, (decide (r6 < 0)) = false, Meets Try.prog 11 [(AV.agg ((r24 p1)))] (AV.agg (o35 r9)), noRo (AV.agg (o35 r9)) = true, (AV.agg ((r29 p2))) = (AV.agg ((r29 p2))), Meets Try.prog 12 [(AV.agg ((r29 p2)))] (AV.agg (o39 r10)), noRo (AV.agg (o39 r10)) = true, Meets Try.prog 10 [(AV.agg [(I r9.Cells), (I r9.Locks), (I r9.Conds), (AV.ro 1 (r9.Routines.map r82))]), (AV.agg [(AV.ro 6 (r10.Threads.map r70)), (AV.ro 1 (r10.Cells.map o83)), (AV.ro 1 (r10.Owner.map o3)), (I r10.Fault)])] (B r11), litA (B r11) = true, Frz (((r9.Routines.map o82).drop 0).take (List.length (r9.Routines.map o82))) (r9.Routines.map r82), Frz (((r10.Threads.map o70).drop 0).take (List.length (r10.Threads.map o70))) (r10.Threads.map r70), Frz (((r10.Cells.map o83).drop 0).take (List.length (r10.Cells.map o83))) (r10.Cells.map o83), Frz (((r10.Owner.map o3).drop 0).take (List.length (r10.Owner.map o3))) (r10.Owner.map o3), Meets Try.prog 11 [(AV.agg ((r24 p1)))] (AV.agg (o35 r12)), noRo (AV.agg (o35 r12)) = true, Meets Try.prog 12 [(AV.agg ((r29 p2)))] (AV.agg (o39 r13)), noRo (AV.agg (o39 r13)) = true, Meets Try.prog 13 [(AV.agg [(I r12.Cells), (I r12.Locks), (I r12.Conds), (AV.ro 1 (r12.Routines.map r82))]), (AV.agg [(AV.ro 6 (r13.Threads.map r70)), (AV.ro 1 (r13.Cells.map o83)), (AV.ro 1 (r13.Owner.map o3)), (I r13.Fault)])] (B r14), litA (B r14) = true, Frz (((r12.Routines.map o82).drop 0).take (List.length (r12.Routines.map o82))) (r12.Routines.map r82), Frz (((r13.Threads.map o70).drop 0).take (List.length (r13.Threads.map o70))) (r13.Threads.map r70), Frz (((r13.Cells.map o83).drop 0).take (List.length (r13.Cells.map o83))) (r13.Cells.map o83), Frz (((r13.Owner.map o3).drop 0).take (List.length (r13.Owner.map o3))) (r13.Owner.map o3), (!(r14 == r11)) = false, Meets Try.prog 11 [(AV.agg ((r24 p1)))] (AV.agg (o35 r17)), noRo (AV.agg (o35 r17)) = true, (AV.agg [(I r12.Cells), (I r12.Locks), (I r12.Conds), (AV.sl 1007 0 (List.length (r12.Routines.map o82)))]) = (AV.agg [(I r12.Cells), (I r12.Locks), (I r12.Conds), (AV.sl 1007 0 (List.length (r12.Routines.map o82)))]), Meets Try.prog 14 [(AV.agg [(I r12.Cells), (I r12.Locks), (I r12.Conds), (AV.ro 1 (r12.Routines.map r82))]), (AV.agg [(I r17.Cells), (I r17.Locks), (I r17.Conds), (AV.ro 1 (r17.Routines.map r82))])] (B r18), litA (B r18) = true, Frz (((r12.Routines.map o82).drop 0).take (List.length (r12.Routines.map o82))) (r12.Routines.map r82), Frz (((r17.Routines.map o82).drop 0).take (List.length (r17.Routines.map o82))) (r17.Routines.map r82), (!r18) = false, Meets Try.prog 12 [(AV.agg ((r29 p2)))] (AV.agg (o39 r21)), noRo (AV.agg (o39 r21)) = true, (AV.agg [(AV.sl 1009 0 (List.length (r13.Threads.map o70))), (AV.sl 1010 0 (List.length (r13.Cells.map o83))), (AV.sl 1011 0 (List.length (r13.Owner.map o3))), (I r13.Fault)]) = (AV.agg [(AV.sl 1009 0 (List.length (r13.Threads.map o70))), (AV.sl 1010 0 (List.length (r13.Cells.map o83))), (AV.sl 1011 0 (List.length (r13.Owner.map o3))), (I r13.Fault)]), Meets Try.prog 15 [(AV.agg [(AV.ro 6 (r13.Threads.map r70)), (AV.ro 1 (r13.Cells.map o83)), (AV.ro 1 (r13.Owner.map o3)), (I r13.Fault)]), (AV.agg [(AV.ro 6 (r21.Threads.map r70)), (AV.ro 1 (r21.Cells.map o83)), (AV.ro 1 (r21.Owner.map o3)), (I r21.Fault)])] (B r22), litA (B r22) = true, Frz (((r13.Threads.map o70).drop 0).take (List.length (r13.Threads.map o70))) (r13.Threads.map r70), Frz (((r13.Cells.map o83).drop 0).take (List.length (r13.Cells.map o83))) (r13.Cells.map o83), Frz (((r13.Owner.map o3).drop 0).take (List.length (r13.Owner.map o3))) (r13.Owner.map o3), Frz (((r21.Threads.map o70).drop 0).take (List.length (r21.Threads.map o70))) (r21.Threads.map r70), Frz (((r21.Cells.map o83).drop 0).take (List.length (r21.Cells.map o83))) (r21.Cells.map o83), Frz (((r21.Owner.map o3).drop 0).take (List.length (r21.Owner.map o3))) (r21.Owner.map o3), (!r22) = false, (B true) = (B true), litA (B true) = true]) (by kernel_rfl) ⟨(laws_szProg_m hr3), rfl, c5, (laws_szState_m hr6), rfl, c8, (laws_toProg_m hr9), (by simp only [noRo, noRoL, noRoM n82, o35, Bool.and_self]), rfl, (laws_toState_m hr10), (by simp only [noRo, noRoL, noRoM n3, noRoM n70, noRoM n83, o39, Bool.and_self]), (spec_GoodState_m hr11), rfl, (frzF t82 z82), (frzF t70 z70), (frzF t83 z83), (frzF t3 z3), (laws_toProg_m hr12), (by simp only [noRo, noRoL, noRoM n82, o35, Bool.and_self]), (laws_toState_m hr13), (by simp only [noRo, noRoL, noRoM n3, noRoM n70, noRoM n83, o39, Bool.and_self]), (impl_GoodState_m hr14), rfl, (frzF t82 z82), (frzF t70 z70), (frzF t83 z83), (frzF t3 z3), c16, (laws_toProg_m hr17), (by simp only [noRo, noRoL, noRoM n82, o35, Bool.and_self]), rfl, (laws_eqProg_m hr18), rfl, (frzF t82 z82), (frzF t82 z82), c20, (laws_toState_m hr21), (by simp only [noRo, noRoL, noRoM n3, noRoM n70, noRoM n83, o39, Bool.and_self]), rfl, (laws_eqState_m hr22), rfl, (frzF t70 z70), (frzF t83 z83), (frzF t3 z3), (frzF t70 z70), (frzF t83 z83), (frzF t3 z3), c24, rfl, rfl, trivial⟩
end Go.Proofs.Ytgofeoobgpadiaa
