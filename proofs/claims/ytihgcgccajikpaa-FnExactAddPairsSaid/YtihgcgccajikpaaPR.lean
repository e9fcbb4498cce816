/- Plain facts for FnExactAddPairs; no condition. -/

import Derived.Test.YtihgcgccajikpaaAL
set_option linter.unusedVariables false
namespace Go.Proofs.Ytihgcgccajikpaa
open Go Go.T

theorem decF {L k : Nat} (h : k < L) : decide ((k : Int) < (L : Int)) = true := by simp; omega
theorem decE {L : Nat} : decide ((L : Int) < (L : Int)) = false := by simp
theorem bnot_if {α : Type} {b : Bool} {x y : α} : (if (!b) = true then x else y) = if b = true then y else x := by cases b <;> rfl
/- pairs in their order -/
def goodPr (x : GPair) : Bool := inr x.Cell 0 99 && inr x.One 0 999 && inr x.Two 0 999
theorem spec_pair (x : GPair) : spec_l11Pair x = some (goodPr x) := by
  rw [spec_l11Pair]; unfold goodPr
  simp only [spec_in_eq, Option.bind_some]
  cases inr x.Cell 0 99 <;> cases inr x.One 0 999 <;> simp
theorem impl_pair (x : GPair) : impl_Pair_isGood x = some (goodPr x) := by
  rw [impl_Pair_isGood]; unfold goodPr
  simp only [impl_in_eq, Option.bind_some]
  cases inr x.Cell 0 99 <;> cases inr x.One 0 999 <;> simp
def cmpI (x y : Int) : Int := if x < y then -1 else if x > y then 1 else 0
theorem cmp_int (x y : Int) : cmp_Compare_int x y = some (cmpI x y) := by
  rw [cmp_Compare_int, cmp_isNaN_int, cmp_isNaN_int]
  unfold cmpI
  simp only [bne_self_eq_false, Option.bind_some, Bool.false_eq_true, if_false, decide_eq_true_eq]
  split
  · rfl
  · split <;> rfl
theorem or3 (a b c : Int) : cmp_Or_int [a, b, c] = some (if a ≠ 0 then a else if b ≠ 0 then b else c) := by
  rw [cmp_Or_int]
  obtain ⟨n, hn⟩ : ∃ n, FU = n + 4 := ⟨FU - 4, by have := FU_gt (n := 4) (by omega); omega⟩
  rw [hn]
  have r0 : rd [a, b, c] 0 = some a := rfl
  have r1 : rd [a, b, c] 1 = some b := rfl
  have r2 : rd [a, b, c] 2 = some c := rfl
  have w1 : w64 (0 + 1) = 1 := by decide
  have w2 : w64 (1 + 1) = 2 := by decide
  have w3 : w64 (2 + 1) = 3 := by decide
  rw [cmp_Or_int_l0, r0, w1, cmp_Or_int_l0, r1, w2, cmp_Or_int_l0, r2, w3, cmp_Or_int_l0]
  by_cases ha : a = 0 <;> by_cases hb : b = 0 <;> by_cases hc : c = 0 <;> simp [ha, hb, hc]
def ordP (x y : GPair) : Int := if cmpI x.Cell y.Cell ≠ 0 then cmpI x.Cell y.Cell else if cmpI x.One y.One ≠ 0 then cmpI x.One y.One else cmpI x.Two y.Two
theorem impl_order (x y : GPair) : impl_Pair_order x y = some (ordP x y) := by
  rw [impl_Pair_order]
  simp only [cmp_int, Option.bind_some, or3]
  rfl
def keyP (x : GPair) : Int := w64 (w64 (w64 (x.Cell * 1000000) + w64 (x.One * 1000)) + x.Two)
theorem key_good {x : GPair} (h : goodPr x = true) : keyP x = x.Cell * 1000000 + x.One * 1000 + x.Two := by
  unfold goodPr at h
  simp only [Bool.and_eq_true] at h
  have h1 := inr_true.1 h.1.1
  have h2 := inr_true.1 h.1.2
  have h3 := inr_true.1 h.2
  unfold keyP
  rw [w64_id (n := x.Cell * 1000000) (by omega), w64_id (n := x.One * 1000) (by omega), w64_id (n := x.Cell * 1000000 + x.One * 1000) (by omega), w64_id (by omega)]
theorem ord_key {x y : GPair} (hx : goodPr x = true) (hy : goodPr y = true) : decide (ordP x y ≥ 0) = decide (keyP x ≥ keyP y) := by
  rw [key_good hx, key_good hy]
  unfold goodPr at hx hy
  simp only [Bool.and_eq_true] at hx hy
  have h1 := inr_true.1 hx.1.1
  have h2 := inr_true.1 hx.1.2
  have h3 := inr_true.1 hx.2
  have k1 := inr_true.1 hy.1.1
  have k2 := inr_true.1 hy.1.2
  have k3 := inr_true.1 hy.2
  rw [decide_eq_decide]
  unfold ordP cmpI
  repeat' split
  all_goals omega
def dP : GPair := ⟨0, 0, 0⟩
def risP (f : GPair → GPair → Bool) (p : List GPair) (k : Nat) : Bool := goodPr (p.getD k dP) && (k == 0 || !f (p.getD (k - 1) dP) (p.getD k dP))
theorem risP_step {p : List GPair} {f : GPair → GPair → Bool} {k : Nat} {F : Option Bool} {G : GPair → Option Bool} (hk : k < p.length) (hp : p.length ≤ 1048576) (hG : ∀ x, G x = if f x p[k] = true then some false else F) : (if goodPr p[k] = true then if decide ((k : Int) > 0) = true then Option.bind (rd p (w64 ((k : Int) - 1))) G else F else some false) = if risP f p k = true then F else some false := by
  unfold risP
  rw [getD_at dP hk]
  cases goodPr p[k]
  · simp
  · by_cases h0 : k = 0
    · subst h0; simp
    · have h1 : decide ((k : Int) > 0) = true := by simp; omega
      have h2 : w64 ((k : Int) - 1) = ((k - 1 : Nat) : Int) := by rw [w64_id (by omega)]; omega
      have h3 : k - 1 < p.length := by omega
      have h4 : (k == 0) = false := by simp [h0]
      rw [getD_at dP h3]
      simp only [h1, h2, rd_at h3, if_true, Option.bind_some, h4, Bool.false_or, Bool.true_and, hG]
      cases f p[k - 1] p[k] <;> simp
theorem impl_ris {p : List GPair} (hp : p.length ≤ 1048576) : impl_areRising p = some ((List.range p.length).all (risP (fun x y => decide (ordP x y ≥ 0)) p) && decide (p.length ≤ 200)) := by
  rw [impl_areRising]
  exact allL (F := impl_areRising_l0 p) (L := p.length) (c := risP (fun x y => decide (ordP x y ≥ 0)) p) (fin := decide (p.length ≤ 200)) (fun n => by rw [impl_areRising_l0, decE]; simp only [Bool.false_eq_true, if_false, Option.some.injEq, decide_eq_decide]; omega)
    (fun n k hk => by
      rw [impl_areRising_l0, decF hk]
      simp only [if_true, rd_at hk, Option.bind_some, impl_pair, bnot_if]
      exact risP_step hk hp (fun x => by simp only [impl_order, Option.bind_some])) (by omega)
theorem spec_ris {p : List GPair} (hp : p.length ≤ 1048576) : spec_l11Rising p = some ((List.range p.length).all (risP (fun x y => decide (keyP x ≥ keyP y)) p) && decide (p.length ≤ 200)) := by
  rw [spec_l11Rising]
  exact allL (F := spec_l11Rising_l0 p) (L := p.length) (c := risP (fun x y => decide (keyP x ≥ keyP y)) p) (fin := decide (p.length ≤ 200)) (fun n => by rw [spec_l11Rising_l0, decE]; simp only [Bool.false_eq_true, if_false, Option.some.injEq, decide_eq_decide]; omega)
    (fun n k hk => by
      rw [spec_l11Rising_l0, decF hk]
      simp only [if_true, rd_at hk, Option.bind_some, spec_pair, bnot_if]
      exact risP_step hk hp (fun x => by simp only [spec_l11Key, Option.bind_some]; rfl)) (by omega)
theorem ris_same (p : List GPair) : (List.range p.length).all (risP (fun x y => decide (ordP x y ≥ 0)) p) = (List.range p.length).all (risP (fun x y => decide (keyP x ≥ keyP y)) p) := by
  have key : ∀ (f g : GPair → GPair → Bool), (∀ x y, goodPr x = true → goodPr y = true → f x y = g x y) → (List.range p.length).all (risP f p) = true → (List.range p.length).all (risP g p) = true := by
    intro f g hfg h
    rw [List.all_eq_true] at h ⊢
    intro k hk
    have hk' := List.mem_range.1 hk
    have h1 := h k hk
    unfold risP at h1 ⊢
    rw [Bool.and_eq_true] at h1 ⊢
    refine ⟨h1.1, ?_⟩
    by_cases h0 : k = 0
    · simp [h0]
    · have h2 := h (k - 1) (List.mem_range.2 (by omega))
      unfold risP at h2
      rw [Bool.and_eq_true] at h2
      rw [← hfg _ _ h2.1 h1.1]
      exact h1.2
  rw [Bool.eq_iff_iff]
  exact ⟨key _ _ fun x y hx hy => ord_key hx hy, key _ _ fun x y hx hy => (ord_key hx hy).symm⟩
end Go.Proofs.Ytihgcgccajikpaa
