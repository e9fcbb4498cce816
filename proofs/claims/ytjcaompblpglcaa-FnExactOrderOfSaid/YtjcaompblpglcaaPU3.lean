/- Plain facts for FnExactOrderOf; no condition. -/

import Derived.Test.YtjcaompblpglcaaH2
set_option linter.unusedVariables false
namespace Go.Proofs.Ytjcaompblpglcaa
open Go Go.T
theorem Qty {r x : Int} : ∀ {l : List Int}, x ∈ put r l ↔ x = r ∨ x ∈ l
 | [] => by simp [put]
 | y :: l => by
  unfold put
  split
  ·rw [List.mem_cons, List.mem_cons, Qty]
   constructor
   ·rintro (h | h | h)
    ·exact .inr (.inl h)
    ·exact .inl h
    ·exact .inr (.inr h)
   ·rintro (h | h | h)
    ·exact .inr (.inl h)
    ·exact .inl h
    ·exact .inr (.inr h)
  ·split
   ·rename_i h; subst h
    constructor
    ·intro h; exact .inr h
    ·rintro (h | h)
     ·rw [h]; simp
     ·exact h
   ·rw [List.mem_cons]
theorem Qpd {r : Int} : ∀ {l : List Int}, l.Pairwise (· < ·) → (put r l).Pairwise (· < ·)
 | [], h => by simp [put]
 | y :: l, h => by
  rw [List.pairwise_cons] at h
  unfold put
  split
  ·rename_i hy
   rw [List.pairwise_cons]
   refine ⟨fun x hx => ?_, Qpd h.2⟩
   rcases Qty.1 hx with e | e
   ·omega
   ·exact h.1 x e
  ·split
   ·rw [List.pairwise_cons]; exact h
   ·rw [List.pairwise_cons, List.pairwise_cons]
    refine ⟨fun x hx => ?_, h⟩
    rcases List.mem_cons.1 hx with e | e
    ·omega
    ·have := h.1 x e; omega
def Qoo (a c : List Int) : List Int := c.foldl (fun a x => put x a) a
theorem Qqf (a : List Int) : ∀ c : List Int, (Qoo a c).length ≤ a.length + c.length := by
 intro c
 induction c generalizing a with
 | nil => simp [Qoo]
 | cons x c ih =>
  have := ih (put x a)
  have h2 := Qqx x a
  simp only [Qoo, List.foldl_cons, List.length_cons] at *
  omega
theorem Qmz {x : Int} : ∀ {c a : List Int}, x ∈ Qoo a c ↔ x ∈ a ∨ x ∈ c := by
 intro c
 induction c with
 | nil => intro a; simp [Qoo]
 | cons y c ih =>
  intro a
  have : Qoo a (y :: c) = Qoo (put y a) c := rfl
  rw [this, ih, Qty, List.mem_cons]
  constructor
  ·rintro ((h | h) | h)
   ·exact .inr (.inl h)
   ·exact .inl h
   ·exact .inr (.inr h)
  ·rintro (h | h | h)
   ·exact .inl (.inr h)
   ·exact .inl (.inl h)
   ·exact .inr h
theorem Qnu : ∀ {c a : List Int}, a.Pairwise (· < ·) → (Qoo a c).Pairwise (· < ·) := by
 intro c
 induction c with
 | nil => intro a h; exact h
 | cons y c ih => intro a h; exact ih (Qpd h)
end Go.Proofs.Ytjcaompblpglcaa
