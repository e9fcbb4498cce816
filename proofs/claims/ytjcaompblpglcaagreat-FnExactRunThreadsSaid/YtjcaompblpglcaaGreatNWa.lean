/- Plain facts for FnExactRunThreads; no condition. -/

import Derived.Test.YtjcaompblpglcaaGreatHC
set_option linter.unusedVariables false
namespace Go.Proofs.YtjcaompblpglcaaGreat
open Go Go.T
def newS (c l : Nat) : GState := GState.mk [GThread.mk 0 0 1 (-1) (-1) []] (List.replicate c 0) (List.replicate l (-1)) 0
theorem rep_app {α : Type} (x : α) (k : Nat) : List.replicate k x ++ [x] = List.replicate (k + 1) x := by
 rw [List.replicate_succ']
theorem rep_set (l k : Nat) (h : k < l) : (List.replicate k (-1 : Int) ++ List.replicate (l - k) 0).set k (-1) = List.replicate (k + 1) (-1) ++ List.replicate (l - (k + 1)) 0 := by
 have e : List.replicate (l - k) (0 : Int) = 0 :: List.replicate (l - (k + 1)) 0 := by
  rw [show l - k = (l - (k + 1)) + 1 by omega, List.replicate_succ]
 rw [e, List.set_append_right _ _ (by simp), List.length_replicate, Nat.sub_self, List.set_cons_zero, ← rep_app]
 simp
theorem impl_start_run {q : GState} {l : Nat} {T : List GThread} {C : List Nat} (hl : l ≤ 4) : ∀ (n m k : Nat), k + m = l → m < n →
  impl_start_l0 (List.replicate l 0) n q (GState.mk T C (List.replicate k (-1) ++ List.replicate (l - k) 0) 0) k = some (GState.mk T C (List.replicate l (-1)) 0)
 | 0, m, k, h1, h2 => by omega
 | n + 1, 0, k, h1, h2 => by
  have : k = l := by omega
  subst this
  rw [impl_start_l0]
  simp
 | n + 1, m + 1, k, h1, h2 => by
  have hk : k < l := by omega
  rw [impl_start_l0]
  have c1 : decide ((k : Int) < ((List.replicate l (0 : Int)).length : Int)) = true := by simp; omega
  have r1 : rd (List.replicate k (-1 : Int) ++ List.replicate (l - k) 0) (k : Int) = some 0 := by
   rw [rd_nat, List.getElem?_append_right (by simp), List.length_replicate, Nat.sub_self, List.getElem?_replicate, if_pos (by omega)]
  simp only [c1, if_true, r1, Option.bind_some, w64_s (show k < 4611686018427387904 by omega), Int.toNat_natCast, rep_set l k hk]
  exact impl_start_run hl n m (k + 1) (by omega) (by omega)
theorem spec_new_l1 {p : GProg} {q : GState} {l : Nat} {T : List GThread} {C : List Nat} (hl : l ≤ 4) (hp : p.Locks = (l : Int)) : ∀ (n m k : Nat), k + m = l → m < n →
  spec_l3New_l1 n p q (GState.mk T C (List.replicate k (-1)) 0) k = some (GState.mk T C (List.replicate l (-1)) 0)
 | 0, m, k, h1, h2 => by omega
 | n + 1, 0, k, h1, h2 => by
  have : k = l := by omega
  subst this
  rw [spec_l3New_l1]
  simp [hp]
 | n + 1, m + 1, k, h1, h2 => by
  rw [spec_l3New_l1]
  have c1 : decide ((k : Int) < p.Locks) = true := by rw [hp]; simp; omega
  simp only [c1, if_true, app_ok (a := List.replicate k (-1 : Int)) (b := [-1]) (by simp; omega), Option.bind_some, w64_s (show k < 4611686018427387904 by omega), rep_app]
  exact spec_new_l1 hl hp n m (k + 1) (by omega) (by omega)
theorem spec_new_l0 {p : GProg} {q : GState} {c l : Nat} {T : List GThread} (hc : c ≤ 4) (hl : l ≤ 4) (hpc : p.Cells = (c : Int)) (hp : p.Locks = (l : Int)) : ∀ (n m k : Nat), k + m = c → m < n →
  spec_l3New_l0 n p q (GState.mk T (List.replicate k 0) [] 0) k = some (GState.mk T (List.replicate c 0) (List.replicate l (-1)) 0)
 | 0, m, k, h1, h2 => by omega
 | n + 1, 0, k, h1, h2 => by
  have : k = c := by omega
  subst this
  rw [spec_l3New_l0]
  have c1 : decide ((k : Int) < p.Cells) = false := by rw [hpc]; simp
  simp only [c1, Bool.false_eq_true, if_false]
  exact spec_new_l1 (q := q) (T := T) (C := List.replicate k 0) hl hp FU l 0 (by omega) (FU_gt (by omega))
 | n + 1, m + 1, k, h1, h2 => by
  rw [spec_l3New_l0]
  have c1 : decide ((k : Int) < p.Cells) = true := by rw [hpc]; simp; omega
  simp only [c1, if_true, app_ok (a := List.replicate k (0 : Nat)) (b := [0]) (by simp; omega), Option.bind_some, w64_s (show k < 4611686018427387904 by omega), rep_app]
  exact spec_new_l0 hc hl hpc hp n m (k + 1) (by omega) (by omega)
theorem goodP_cl {p : GProg} (h : goodP p = true) : ∃ c l : Nat, c ≤ 4 ∧ l ≤ 4 ∧ p.Cells = (c : Int) ∧ p.Locks = (l : Int) := by
 unfold goodP at h
 simp only [Bool.and_eq_true, inr, decide_eq_true_eq] at h
 exact ⟨p.Cells.toNat, p.Locks.toNat, by omega, by omega, by omega, by omega⟩
theorem start_both {p : GProg} (hg : goodP p = true) : ∃ c l : Nat, c ≤ 4 ∧ l ≤ 4 ∧ p.Cells = (c : Int) ∧ p.Locks = (l : Int) ∧ spec_l3New p = some (newS c l) ∧ impl_start p = some (newS c l) := by
 obtain ⟨c, l, h1, h2, h3, h4⟩ := goodP_cl hg
 have s1 := spec_new_l0 (p := p) (q := GState.mk [] [] [] 0) (T := [GThread.mk 0 0 1 (-1) (-1) []]) h1 h2 h3 h4 FU c 0 (by omega) (FU_gt (by omega))
 have s2 := impl_start_run (q := GState.mk [] [] [] 0) (l := l) (T := [GThread.mk 0 0 1 (-1) (-1) []]) (C := List.replicate c 0) h2 FU l 0 (by omega) (FU_gt (by omega))
 refine ⟨c, l, h1, h2, h3, h4, ?_, ?_⟩
 ·rw [spec_l3New, spec_l3NewThread, Option.bind_some]
  exact s1
 ·rw [impl_start, impl_newThread, Option.bind_some, h3, h4, mk_ok (z := (0 : Nat)) (n := c) (by omega), mk_ok (z := (0 : Int)) (n := l) (by omega)]
  simp only [Option.bind_some]
  simpa [newS] using s2
end Go.Proofs.YtjcaompblpglcaaGreat
