/- Plain facts for FnExactSpotOf; no condition. -/

import Derived.Test.YtemmdkcpcjidmaaGreatST4
set_option linter.unusedVariables false
namespace Go.Proofs.YtemmdkcpcjidmaaGreat
open Go Go.T
def Xgm (c l : Nat) : Qa1 := Qa1.mk [Qa0.mk 0 0 1 (-1) (-1) []] (List.replicate c 0) (List.replicate l (-1)) 0
theorem Qzw {α : Type} (x : α) (k : Nat) : List.replicate k x ++ [x] = List.replicate (k + 1) x := by
 rw [List.replicate_succ']
theorem Xlq (l k : Nat) (h : k < l) : (List.replicate k (-1 : Int) ++ List.replicate (l - k) 0).set k (-1) = List.replicate (k + 1) (-1) ++ List.replicate (l - (k + 1)) 0 := by
 have e : List.replicate (l - k) (0 : Int) = 0 :: List.replicate (l - (k + 1)) 0 := by
  rw [show l - k = (l - (k + 1)) + 1 by omega, List.replicate_succ]
 rw [e, List.set_append_right _ _ (by simp), List.length_replicate, Nat.sub_self, List.set_cons_zero, ← Qzw]
 simp
theorem Qnw {q : Qa1} {l : Nat} {T : List Qa0} {C : List Nat} (hl : l ≤ 4) : ∀ (n m k : Nat), k + m = l → m < n →
  Qe6 (List.replicate l 0) n q (Qa1.mk T C (List.replicate k (-1) ++ List.replicate (l - k) 0) 0) k = some (Qa1.mk T C (List.replicate l (-1)) 0)
 | 0, m, k, h1, h2 => by omega
 | n + 1, 0, k, h1, h2 => by
  have : k = l := by omega
  subst this
  rw [Qe6]
  simp
 | n + 1, m + 1, k, h1, h2 => by
  have hk : k < l := by omega
  rw [Qe6]
  have c1 : decide ((k : Int) < ((List.replicate l (0 : Int)).length : Int)) = true := by simp; omega
  have r1 : rd (List.replicate k (-1 : Int) ++ List.replicate (l - k) 0) (k : Int) = some 0 := by
   rw [Xem, List.getElem?_append_right (by simp), List.length_replicate, Nat.sub_self, List.getElem?_replicate, if_pos (by omega)]
  simp only [c1, if_true, r1, Option.bind_some, Qk2 (show k < 4611686018427387904 by omega), Int.toNat_natCast, Xlq l k hk]
  exact Qnw hl n m (k + 1) (by omega) (by omega)
theorem Qt3 {p : Qag} {q : Qa1} {l : Nat} {T : List Qa0} {C : List Nat} (hl : l ≤ 4) (hp : p.Locks = (l : Int)) : ∀ (n m k : Nat), k + m = l → m < n →
  Qeb n p q (Qa1.mk T C (List.replicate k (-1)) 0) k = some (Qa1.mk T C (List.replicate l (-1)) 0)
 | 0, m, k, h1, h2 => by omega
 | n + 1, 0, k, h1, h2 => by
  have : k = l := by omega
  subst this
  rw [Qeb]
  simp [hp]
 | n + 1, m + 1, k, h1, h2 => by
  rw [Qeb]
  have c1 : decide ((k : Int) < p.Locks) = true := by rw [hp]; simp; omega
  simp only [c1, if_true, Qht (a := List.replicate k (-1 : Int)) (b := [-1]) (by simp; omega), Option.bind_some, Qk2 (show k < 4611686018427387904 by omega), Qzw]
  exact Qt3 hl hp n m (k + 1) (by omega) (by omega)
theorem Que {p : Qag} {q : Qa1} {c l : Nat} {T : List Qa0} (hc : c ≤ 4) (hl : l ≤ 4) (hpc : p.Cells = (c : Int)) (hp : p.Locks = (l : Int)) : ∀ (n m k : Nat), k + m = c → m < n →
  Qe9 n p q (Qa1.mk T (List.replicate k 0) [] 0) k = some (Qa1.mk T (List.replicate c 0) (List.replicate l (-1)) 0)
 | 0, m, k, h1, h2 => by omega
 | n + 1, 0, k, h1, h2 => by
  have : k = c := by omega
  subst this
  rw [Qe9]
  have c1 : decide ((k : Int) < p.Cells) = false := by rw [hpc]; simp
  simp only [c1, Bool.false_eq_true, if_false]
  exact Qt3 (q := q) (T := T) (C := List.replicate k 0) hl hp FU l 0 (by omega) (Qjt (by omega))
 | n + 1, m + 1, k, h1, h2 => by
  rw [Qe9]
  have c1 : decide ((k : Int) < p.Cells) = true := by rw [hpc]; simp; omega
  simp only [c1, if_true, Qht (a := List.replicate k (0 : Nat)) (b := [0]) (by simp; omega), Option.bind_some, Qk2 (show k < 4611686018427387904 by omega), Qzw]
  exact Que hc hl hpc hp n m (k + 1) (by omega) (by omega)
theorem Xhd {p : Qag} (h : Qje p = true) : ∃ c l : Nat, c ≤ 4 ∧ l ≤ 4 ∧ p.Cells = (c : Int) ∧ p.Locks = (l : Int) := by
 unfold Qje at h
 simp only [Bool.and_eq_true, inr, decide_eq_true_eq] at h
 exact ⟨p.Cells.toNat, p.Locks.toNat, by omega, by omega, by omega, by omega⟩
theorem Xcl {p : Qag} (hg : Qje p = true) : ∃ c l : Nat, c ≤ 4 ∧ l ≤ 4 ∧ p.Cells = (c : Int) ∧ p.Locks = (l : Int) ∧ Qga p = some (Xgm c l) ∧ Qgd p = some (Xgm c l) := by
 obtain ⟨c, l, h1, h2, h3, h4⟩ := Xhd hg
 have s1 := Que (p := p) (q := Qa1.mk [] [] [] 0) (T := [Qa0.mk 0 0 1 (-1) (-1) []]) h1 h2 h3 h4 FU c 0 (by omega) (Qjt (by omega))
 have s2 := Qnw (q := Qa1.mk [] [] [] 0) (l := l) (T := [Qa0.mk 0 0 1 (-1) (-1) []]) (C := List.replicate c 0) h2 FU l 0 (by omega) (Qjt (by omega))
 refine ⟨c, l, h1, h2, h3, h4, ?_, ?_⟩
 ·rw [Qga, Qdy, Option.bind_some]
  exact s1
 ·rw [Qgd, Qfs, Option.bind_some, h3, h4, Xjr (z := (0 : Nat)) (n := c) (by omega), Xjr (z := (0 : Int)) (n := l) (by omega)]
  simp only [Option.bind_some]
  simpa [Xgm] using s2
end Go.Proofs.YtemmdkcpcjidmaaGreat
