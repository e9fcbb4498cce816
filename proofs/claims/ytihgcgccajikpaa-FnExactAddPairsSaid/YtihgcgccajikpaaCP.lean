/- Plain facts for FnExactAddPairs; no condition. -/

import Derived.Test.YtihgcgccajikpaaPR
set_option linter.unusedVariables false
namespace Go.Proofs.Ytihgcgccajikpaa
open Go Go.T

def gP (s : List GPair) (j : Nat) : GPair := (s[j]?).getD dP
theorem gP_get {s : List GPair} {j : Nat} (h : j < s.length) : s[j]? = some (gP s j) := by simp [gP, h]
theorem gP_elem {s : List GPair} {j : Nat} (h : j < s.length) : gP s j = s[j] := by simp [gP, h]
/-- the list without what stands behind its like -/
def ddP (s : List GPair) : Nat → List GPair
  | 0 => []
  | q + 1 => ddP s q ++ (if q = 0 ∨ gP s q ≠ gP s (q - 1) then [gP s q] else [])
theorem ddP_len (s : List GPair) : ∀ q, (ddP s q).length ≤ q
  | 0 => by simp [ddP]
  | q + 1 => by
    rw [ddP, List.length_append]
    have := ddP_len s q
    split <;> simp <;> omega
theorem compactP_l1 {s p1 : List GPair} {k : Nat} {K0 : List GPair → Int → Option (List GPair)} (hL : s.length < 1099511627776) (hk : 1 ≤ k) : ∀ (n p q : Nat) (a : List GPair), k < q → q ≤ s.length → s.length < n + q → p < q → a.length = s.length → p = (ddP s q).length → a.take p = ddP s q → (∀ j, p ≤ j → a[j]? = s[j]?) →
    slices_Compact_Pair_Pair_l1 K0 p1 s (k : Int) n a (p : Int) ((q - k : Nat) : Int) = some (ddP s s.length)
  | 0, p, q, a, h1, h2, h3, h4, h5, h6, h7, h8 => by omega
  | n + 1, p, q, a, h1, h2, h3, h4, h5, h6, h7, h8 => by
    have ih := compactP_l1 (p1 := p1) (K0 := K0) hL hk n
    have hln : (subO (Int.toNat (((s.map o51).length : Nat) : Int)) (Int.toNat (k : Int))) = s.length - k := by
      rw [subO_eq, List.length_map]; simp
    rw [slices_Compact_Pair_Pair_l1, hln]
    by_cases hq : q < s.length
    · have c1 : decide (((q - k : Nat) : Int) < ((s.length - k : Nat) : Int)) = true := by simp; omega
      have r1 : rdc a k (s.length - k) ((q - k : Nat) : Int) = some (gP s q) := by
        unfold rdc
        rw [if_pos (by omega)]
        show a[addO k (q - k)]? = some (gP s q)
        rw [addO_eq, show k + (q - k) = q by omega, h8 q (by omega), gP_get hq]
      have w1 : w64 (((q - k : Nat) : Int) - 1) = ((q - 1 - k : Nat) : Int) := by rw [w64_id (by omega)]; omega
      have r2 : rdc a k (s.length - k) ((q - 1 - k : Nat) : Int) = some (gP s (q - 1)) := by
        unfold rdc
        rw [if_pos (by omega)]
        show a[addO k (q - 1 - k)]? = some (gP s (q - 1))
        rw [addO_eq, show k + (q - 1 - k) = q - 1 by omega, h8 (q - 1) (by omega), gP_get (by omega)]
      have w2 : w64 (((q - k : Nat) : Int) + 1) = ((q + 1 - k : Nat) : Int) := by rw [w64_id (by omega)]; omega
      have r3 : ∃ x, rd a (p : Int) = some x := ⟨a[p]'(by omega), rd_at (by omega)⟩
      obtain ⟨x3, r3⟩ := r3
      have w3 : w64 ((p : Int) + 1) = ((p + 1 : Nat) : Int) := w64_s (by omega)
      simp only [c1, if_true, r1, w1, r2, Option.bind_some, w2, r3, w3, Int.toNat_natCast]
      have hq0 : ¬ q = 0 := by omega
      by_cases hd : gP s q = gP s (q - 1)
      · have : (!(decide (gP s q = gP s (q - 1)))) = false := by simp [hd]
        simp only [this, Bool.false_eq_true, if_false]
        have e : ddP s (q + 1) = ddP s q := by
          rw [ddP, if_neg (fun h => h.elim (fun h => by omega) (fun h => h hd)), List.append_nil]
        exact ih p (q + 1) a (by omega) (by omega) (by omega) (by omega) h5 (by rw [e]; exact h6) (by rw [e]; exact h7) h8
      · have : (!(decide (gP s q = gP s (q - 1)))) = true := by simp [hd]
        simp only [this, if_true]
        have e : ddP s (q + 1) = ddP s q ++ [gP s q] := by rw [ddP, if_pos (.inr hd)]
        refine ih (p + 1) (q + 1) (a.set p (gP s q)) (by omega) (by omega) (by omega) (by omega) (by simp [h5]) (by rw [e, List.length_append, ← h6]; rfl) ?_ ?_
        · rw [e, ← h7]
          apply List.ext_getElem?
          intro j
          rw [List.getElem?_take, List.getElem?_set, List.getElem?_append]
          have hpl : (a.take p).length = p := by rw [List.length_take]; omega
          rw [hpl]
          by_cases hj : j < p
          · rw [if_pos (by omega), if_neg (by omega), if_pos hj, List.getElem?_take, if_pos hj]
          · rw [if_neg hj]
            by_cases hj2 : j = p
            · subst hj2
              simp; omega
            · rw [if_neg (by omega), List.getElem?_eq_none (by simp; omega)]
        · intro j hj
          rw [List.getElem?_set_ne (by omega)]
          exact h8 j (by omega)
    · have hq' : q = s.length := by omega
      subst hq'
      have c1 : decide (((s.length - k : Nat) : Int) < ((s.length - k : Nat) : Int)) = false := by simp
      have hp : p ≤ a.length := by omega
      have s1 : slc a (p : Int) (a.length : Int) = some (a.drop p) := slc_drop hp
      have e0 : (subO (a.map o51).length p) = a.length - p := by
        rw [subO_eq, List.length_map]
      have hcl : (clrT a (GPair.mk 0 0 0) p (a.length - p)).length = a.length := clrT_len (by omega)
      have s2 : slc (clrT a (GPair.mk 0 0 0) p (a.length - p)) 0 (p : Int) = some ((clrT a (GPair.mk 0 0 0) p (a.length - p)).take p) := slc_take (by omega)
      have e1 : (clrT a (GPair.mk 0 0 0) p (a.length - p)).take p = a.take p := by
        unfold clrT ovT
        rw [List.append_assoc, List.take_append_of_le_length (by rw [List.length_take]; omega), List.take_take, Nat.min_self]
      simp only [c1, Bool.false_eq_true, if_false, s1, Int.toNat_natCast, e0, s2, Option.bind_some, e1, h7]
theorem compactP_l0 {s p1 : List GPair} (hL : s.length < 1099511627776) : ∀ (n k : Nat), 1 ≤ k → k ≤ s.length → s.length < n + k → ddP s k = s.take k →
    slices_Compact_Pair_Pair_l0 p1 n s (k : Int) = some (ddP s s.length)
  | 0, k, h1, h2, h3, h4 => by omega
  | n + 1, k, h1, h2, h3, h4 => by
    have ih := compactP_l0 (p1 := p1) hL n
    rw [slices_Compact_Pair_Pair_l0]
    by_cases hk : k < s.length
    · have r1 : rd s (k : Int) = some (gP s k) := by rw [rd_nat, gP_get hk]
      have w1 : w64 ((k : Int) - 1) = ((k - 1 : Nat) : Int) := by rw [w64_id (by omega)]; omega
      have r2 : rd s ((k - 1 : Nat) : Int) = some (gP s (k - 1)) := by rw [rd_nat, gP_get (by omega)]
      have c1 : decide ((k : Int) < (s.length : Int)) = true := by simp; omega
      simp only [c1, if_true, r1, w1, r2, Option.bind_some, slc_drop (show k ≤ s.length by omega), w64_s (show k < 4611686018427387904 by omega)]
      by_cases hd : gP s k = gP s (k - 1)
      · have : decide (gP s k = gP s (k - 1)) = true := by simp [hd]
        simp only [this, if_true]
        have e : ddP s (k + 1) = ddP s k := by rw [ddP, if_neg (fun h => h.elim (fun h => by omega) (fun h => h hd)), List.append_nil]
        have hlen : k = (ddP s (k + 1)).length := by rw [e, h4, List.length_take]; omega
        have := compactP_l1 (s := s) (p1 := p1) (k := k) (K0 := slices_Compact_Pair_Pair_l0 p1 n) hL h1 FU k (k + 1) s (by omega) (by omega) (by have := FU_gt (n := s.length) hL; omega) (by omega) rfl hlen (by rw [e, h4]) (fun j _ => rfl)
        rw [show ((k + 1 - k : Nat) : Int) = 1 by omega] at this
        exact this
      · have : decide (gP s k = gP s (k - 1)) = false := by simp [hd]
        simp only [this, Bool.false_eq_true, if_false]
        have e : ddP s (k + 1) = s.take (k + 1) := by
          rw [ddP, if_pos (.inr hd), h4, List.take_add_one, gP_get hk]
          rfl
        exact ih (k + 1) (by omega) (by omega) (by omega) e
    · have hk' : k = s.length := by omega
      have c1 : decide ((k : Int) < (s.length : Int)) = false := by simp; omega
      simp only [c1, Bool.false_eq_true, if_false]
      rw [hk'] at h4
      rw [h4, List.take_length]
theorem compactP_eq {s : List GPair} (hL : s.length < 1099511627776) : slices_Compact_Pair_Pair s = some (ddP s s.length) := by
  rw [slices_Compact_Pair_Pair]
  by_cases h : s.length < 2
  · have c1 : decide ((s.length : Int) < 2) = true := by simp; omega
    simp only [c1, if_true]
    match s, h with
    | [], _ => rfl
    | [x], _ => simp [ddP, gP]
    | x :: y :: l, h => simp at h; omega
  · have c1 : decide ((s.length : Int) < 2) = false := by simp; omega
    simp only [c1, Bool.false_eq_true, if_false]
    refine compactP_l0 hL FU 1 (by omega) (by omega) (by have := FU_gt (n := s.length) hL; omega) ?_
    match s, h with
    | [], h => simp at h
    | x :: l, _ => simp [ddP, gP]
theorem ddP_mem {s : List GPair} {x : GPair} : ∀ q, q ≤ s.length → (x ∈ ddP s q ↔ ∃ j, j < q ∧ gP s j = x)
  | 0, h => by simp [ddP]
  | q + 1, h => by
    rw [ddP, List.mem_append, ddP_mem q (by omega)]
    constructor
    · rintro (⟨j, h1, h2⟩ | h1)
      · exact ⟨j, by omega, h2⟩
      · split at h1
        · simp at h1; exact ⟨q, by omega, h1.symm⟩
        · simp at h1
    · rintro ⟨j, h1, h2⟩
      by_cases hj : j < q
      · exact .inl ⟨j, hj, h2⟩
      · have : j = q := by omega
        subst this
        by_cases hc : j = 0 ∨ gP s j ≠ gP s (j - 1)
        · right; rw [if_pos hc]; simp [h2]
        · left
          have hj0 : j ≠ 0 := fun h => hc (.inl h)
          exact ⟨j - 1, by omega, by rw [← h2]; exact Classical.byContradiction fun e => hc (.inr fun h => e h.symm)⟩
end Go.Proofs.Ytihgcgccajikpaa
