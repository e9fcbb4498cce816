/- Plain facts about the words that the printed functions are made of; no condition. -/

import Derived.Test.YtihgcgccajikpaaBG
set_option linter.unusedVariables false
namespace Go.T
open Go

theorem w64_id {n : Int} (h : -9223372036854775808 ≤ n ∧ n < 9223372036854775808) : w64 n = n := by
  show IntKind.i64.wrap n = n
  rw [IntKind.wrap_i64]; omega
theorem w64_s {k : Nat} (h : k < 4611686018427387904) : w64 ((k : Int) + 1) = ((k + 1 : Nat) : Int) := by rw [w64_id (by omega)]; omega
theorem w64_p {k : Nat} (h : k < 4611686018427387904) : w64 ((k : Int) - 1) = (k : Int) - 1 := by rw [w64_id (by omega)]
section
variable {α β : Type}
theorem rd_at {l : List α} {k : Nat} (h : k < l.length) : rd l (k : Int) = some l[k] := by simp [rd, h]
theorem rd_nat {l : List α} {k : Nat} : rd l (k : Int) = l[k]? := by simp [rd]
theorem rd_eq {l : List α} {i : Int} {x : α} (h0 : 0 ≤ i) (h : l[i.toNat]? = some x) : rd l i = some x := by simp [rd, h0, h]
theorem rdv_at {k : Nat} {v : Vector α k} {i : Nat} (h : i < k) : rdv v (i : Int) = some v[i] := by simp [rdv, h]
theorem rdv_ok {k : Nat} {v : Vector α k} {i : Int} (h0 : 0 ≤ i) (h : i.toNat < k) : rdv v i = some v[i.toNat] := by simp [rdv, h0, h]
theorem app_ok {a b : List α} (h : a.length + b.length < 1099511627776) : app a b = some (a ++ b) := by simp [app, h]
theorem mk_ok {z : α} {n : Nat} (h : n < 1099511627776) : mk z (n : Int) = some (List.replicate n z) := by
  unfold mk; rw [if_pos (by omega)]; rfl
theorem slc_take {l : List α} {k : Nat} (h : k ≤ l.length) : slc l 0 (k : Int) = some (l.take k) := by
  unfold slc; rw [if_pos (by omega)]; simp [List.take_of_length_le]
theorem slc_drop {l : List α} {k : Nat} (h : k ≤ l.length) : slc l (k : Int) (l.length : Int) = some (l.drop k) := by
  unfold slc; rw [if_pos (by omega)]; simp [List.take_of_length_le]
theorem sameLen_ok {a b : List α} (h : b.length = a.length) : sameLen a b = some () := by simp [sameLen, h]
theorem ltD {a b : Nat} : (decide ((a : Int) < (b : Int))) = decide (a < b) := by
  by_cases h : a < b
  · rw [decide_eq_true (by omega), decide_eq_true h]
  · rw [decide_eq_false (by omega), decide_eq_false h]
end
/-- the fuel of a loop that counts a list's places -/
theorem FU_gt {n : Nat} (h : n < 1099511627776) : n < FU := by rw [FU_eq]; omega
theorem FU_gt0 {n : Nat} (h : n < 4611686018427387904) : n < FU := by rw [FU_eq]; omega
/-- a list by its places -/
def tbl {α : Type} (f : Nat → α) (n : Nat) : List α := (List.range n).map f
section
variable {α : Type} {f g : Nat → α} {n : Nat}
theorem tbl_len : (tbl f n).length = n := by simp [tbl]
theorem tbl_rd {k : Nat} (h : k < n) : rd (tbl f n) (k : Int) = some (f k) := by rw [rd_nat]; simp [tbl, h]
theorem tbl_get {k : Nat} (h : k < n) : (tbl f n)[k]? = some (f k) := by simp [tbl, h]
theorem tbl_congr (h : ∀ k, k < n → f k = g k) : tbl f n = tbl g n := List.map_congr_left (fun k hk => h k (List.mem_range.1 hk))
theorem tbl_set {i : Nat} {x : α} : (tbl f n).set i x = tbl (fun j => if j = i then x else f j) n := by
  apply List.ext_getElem?
  intro k
  rw [List.getElem?_set]
  by_cases hk : k < n
  · rw [tbl_get hk, tbl_get hk, tbl_len]
    by_cases h : i = k
    · subst h; simp [hk]
    · have h' : ¬ k = i := fun e => h e.symm
      simp [h, h']
  · have h1 : (tbl f n)[k]? = none := List.getElem?_eq_none (by rw [tbl_len]; omega)
    have h2 : (tbl (fun j => if j = i then x else f j) n)[k]? = none := List.getElem?_eq_none (by rw [tbl_len]; omega)
    rw [h1, h2, tbl_len]
    split <;> simp; omega
theorem tbl_rep {x : α} : List.replicate n x = tbl (fun _ => x) n := by
  apply List.ext_getElem?
  intro k
  by_cases hk : k < n
  · rw [tbl_get hk]; simp [hk]
  · rw [List.getElem?_eq_none (by simp; omega), List.getElem?_eq_none (by rw [tbl_len]; omega)]
/-- one of the numbers from a on, m of them -/
def exi (f : Nat → Bool) (a : Nat) : Nat → Bool
  | 0 => false
  | m + 1 => f a || exi f (a + 1) m
theorem exi_congr {f g : Nat → Bool} : ∀ (m a : Nat), (∀ k, a ≤ k → k < a + m → f k = g k) → exi f a m = exi g a m
  | 0, a, h => rfl
  | m + 1, a, h => by rw [exi, exi, h a (by omega) (by omega), exi_congr m (a + 1) (fun k h1 h2 => h k (by omega) (by omega))]
theorem exi_true {f : Nat → Bool} : ∀ (m a : Nat), exi f a m = true ↔ ∃ k, a ≤ k ∧ k < a + m ∧ f k = true
  | 0, a => by simp [exi]; intro k h1 h2; omega
  | m + 1, a => by
    rw [exi, Bool.or_eq_true, exi_true m (a + 1)]
    constructor
    · rintro (h | ⟨k, h1, h2, h3⟩)
      · exact ⟨a, Nat.le_refl _, by omega, h⟩
      · exact ⟨k, by omega, by omega, h3⟩
    · rintro ⟨k, h1, h2, h3⟩
      by_cases h : k = a
      · subst h; exact .inl h3
      · exact .inr ⟨k, by omega, by omega, h3⟩
end
theorem PS : (∀ {a b : Nat}, decide ((a : Int) < (b : Int)) = decide (a < b)) ∧ (∀ (h : Decidable True), @decide True h = true) ∧ (∀ (h : Decidable False), @decide False h = false)
    ∧ (∀ {β : Type} (h : Decidable True) (x y : β), @ite β True h x y = x) ∧ (∀ {β : Type} (h : Decidable False) (x y : β), @ite β False h x y = y) ∧ ((false = true) = False) ∧ ((true = false) = False)
    ∧ (∀ {α β : Type} (a : α) (f : α → Option β), (some a).bind f = f a) ∧ ((!true) = false) ∧ ((!false) = true) ∧ (∀ n : Nat, ((n : Int)).toNat = n) ∧ (∀ {α : Type} [BEq α] [LawfulBEq α] (a : α), (a == a) = true) ∧ (∀ {α : Type} [BEq α] [LawfulBEq α] (a : α), (a != a) = false) :=
  ⟨ltD, fun h => decide_true h, fun h => decide_false h, fun h x y => if_pos trivial, fun h x y => if_neg id, Bool.false_eq_true, Bool.true_eq_false, fun a f => rfl, rfl, rfl, Int.toNat_natCast, fun a => beq_self_eq_true a, fun a => bne_self_eq_false a⟩
end Go.T
