/- Plain facts for FnExactWarnsGuarded; no condition. -/

import Derived.Test.YtihgcgccajikpaaH2
set_option linter.unusedVariables false
namespace Go.Proofs.Ytihgcgccajikpaa
open Go Go.T

theorem put_mem {r x : Int} : ∀ {l : List Int}, x ∈ put r l ↔ x = r ∨ x ∈ l
  | [] => by simp [put]
  | y :: l => by
    unfold put
    split
    · rw [List.mem_cons, List.mem_cons, put_mem]
      constructor
      · rintro (h | h | h)
        · exact .inr (.inl h)
        · exact .inl h
        · exact .inr (.inr h)
      · rintro (h | h | h)
        · exact .inr (.inl h)
        · exact .inl h
        · exact .inr (.inr h)
    · split
      · rename_i h; subst h
        constructor
        · intro h; exact .inr h
        · rintro (h | h)
          · rw [h]; simp
          · exact h
      · rw [List.mem_cons]
theorem put_strict {r : Int} : ∀ {l : List Int}, l.Pairwise (· < ·) → (put r l).Pairwise (· < ·)
  | [], h => by simp [put]
  | y :: l, h => by
    rw [List.pairwise_cons] at h
    unfold put
    split
    · rename_i hy
      rw [List.pairwise_cons]
      refine ⟨fun x hx => ?_, put_strict h.2⟩
      rcases put_mem.1 hx with e | e
      · omega
      · exact h.1 x e
    · split
      · rw [List.pairwise_cons]; exact h
      · rw [List.pairwise_cons, List.pairwise_cons]
        refine ⟨fun x hx => ?_, h⟩
        rcases List.mem_cons.1 hx with e | e
        · omega
        · have := h.1 x e; omega
/-- put one behind the other -/
def puts (a c : List Int) : List Int := c.foldl (fun a x => put x a) a
theorem puts_len (a : List Int) : ∀ c : List Int, (puts a c).length ≤ a.length + c.length := by
  intro c
  induction c generalizing a with
  | nil => simp [puts]
  | cons x c ih =>
    have := ih (put x a)
    have h2 := put_len x a
    simp only [puts, List.foldl_cons, List.length_cons] at *
    omega
theorem puts_mem {x : Int} : ∀ {c a : List Int}, x ∈ puts a c ↔ x ∈ a ∨ x ∈ c := by
  intro c
  induction c with
  | nil => intro a; simp [puts]
  | cons y c ih =>
    intro a
    have : puts a (y :: c) = puts (put y a) c := rfl
    rw [this, ih, put_mem, List.mem_cons]
    constructor
    · rintro ((h | h) | h)
      · exact .inr (.inl h)
      · exact .inl h
      · exact .inr (.inr h)
    · rintro (h | h | h)
      · exact .inl (.inr h)
      · exact .inl (.inl h)
      · exact .inr h
theorem puts_strict : ∀ {c a : List Int}, a.Pairwise (· < ·) → (puts a c).Pairwise (· < ·) := by
  intro c
  induction c with
  | nil => intro a h; exact h
  | cons y c ih => intro a h; exact ih (put_strict h)
end Go.Proofs.Ytihgcgccajikpaa
