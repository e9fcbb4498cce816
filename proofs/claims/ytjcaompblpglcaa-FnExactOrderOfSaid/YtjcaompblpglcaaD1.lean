/- Plain facts for FnExactOrderOf; no condition. -/

import Derived.Test.YtjcaompblpglcaaOR3
set_option linter.unusedVariables false
namespace Go.Proofs.Ytjcaompblpglcaa
open Go Go.T
def gA (s : List Int) (j : Nat) : Int := (s[j]?).getD 0
theorem Qsh {s : List Int} {j : Nat} (h : j < s.length) : s[j]? = some (gA s j) := by simp [gA, h]
theorem Qqe {s : List Int} {j : Nat} (h : j < s.length) : gA s j = s[j] := by simp [gA, h]
def ddN (s : List Int) : Nat → List Int
 | 0 => []
 | q + 1 => ddN s q ++ (if q = 0 ∨ gA s q ≠ gA s (q - 1) then [gA s q] else [])
theorem Qpn {s p1 : List Int} {k : Nat} {K0 : List Int → Int → Option (List Int)} (hL : s.length < 1099511627776) (hk : 1 ≤ k) : ∀ (n p q : Nat) (a : List Int), k < q → q ≤ s.length → s.length < n + q → p < q → a.length = s.length → p = (ddN s q).length → a.take p = ddN s q → (∀ j, p ≤ j → a[j]? = s[j]?) →
  Qaq K0 p1 s (k : Int) n a (p : Int) ((q - k : Nat) : Int) = some (ddN s s.length)
 | 0, p, q, a, h1, h2, h3, h4, h5, h6, h7, h8 => by omega
 | n + 1, p, q, a, h1, h2, h3, h4, h5, h6, h7, h8 => by
  have ih := Qpn (p1 := p1) (K0 := K0) hL hk n
  have hln : (Qh4 (Int.toNat (((s.map o3).length : Nat) : Int)) (Int.toNat (k : Int))) = s.length - k := by
   rw [Qgh, List.length_map]; simp
  rw [Qaq, hln]
  by_cases hq : q < s.length
  ·have c1 : decide (((q - k : Nat) : Int) < ((s.length - k : Nat) : Int)) = true := by simp; omega
   have r1 : rdc a k (s.length - k) ((q - k : Nat) : Int) = some (gA s q) := by
    unfold rdc
    rw [if_pos (by omega)]
    show a[Qwd k (q - k)]? = some (gA s q)
    rw [Qll, show k + (q - k) = q by omega, h8 q (by omega), Qsh hq]
   have w1 : w64 (((q - k : Nat) : Int) - 1) = ((q - 1 - k : Nat) : Int) := by rw [Qgo (by omega)]; omega
   have r2 : rdc a k (s.length - k) ((q - 1 - k : Nat) : Int) = some (gA s (q - 1)) := by
    unfold rdc
    rw [if_pos (by omega)]
    show a[Qwd k (q - 1 - k)]? = some (gA s (q - 1))
    rw [Qll, show k + (q - 1 - k) = q - 1 by omega, h8 (q - 1) (by omega), Qsh (by omega)]
   have w2 : w64 (((q - k : Nat) : Int) + 1) = ((q + 1 - k : Nat) : Int) := by rw [Qgo (by omega)]; omega
   have r3 : ∃ x, rd a (p : Int) = some x := ⟨a[p]'(by omega), Qdm (by omega)⟩
   obtain ⟨x3, r3⟩ := r3
   have w3 : w64 ((p : Int) + 1) = ((p + 1 : Nat) : Int) := Qcx (by omega)
   simp only [c1, if_true, r1, w1, r2, Option.bind_some, w2, r3, w3, Int.toNat_natCast]
   have hq0 : ¬ q = 0 := by omega
   by_cases hd : gA s q = gA s (q - 1)
   ·have : (gA s q != gA s (q - 1)) = false := by simp [hd]
    simp only [this, Bool.false_eq_true, if_false]
    have e : ddN s (q + 1) = ddN s q := by
     rw [ddN, if_neg (by omega), List.append_nil]
    exact ih p (q + 1) a (by omega) (by omega) (by omega) (by omega) h5 (by rw [e]; exact h6) (by rw [e]; exact h7) h8
   ·have : (gA s q != gA s (q - 1)) = true := by simp [hd]
    simp only [this, if_true]
    have e : ddN s (q + 1) = ddN s q ++ [gA s q] := by rw [ddN, if_pos (.inr hd)]
    refine ih (p + 1) (q + 1) (a.set p (gA s q)) (by omega) (by omega) (by omega) (by omega) (by simp [h5]) (by rw [e, List.length_append, ← h6]; rfl) ?_ ?_
    ·rw [e, ← h7]
     apply List.ext_getElem?
     intro j
     rw [List.getElem?_take, List.getElem?_set, List.getElem?_append]
     have hpl : (a.take p).length = p := by rw [List.length_take]; omega
     rw [hpl]
     by_cases hj : j < p
     ·rw [if_pos (by omega), if_neg (by omega), if_pos hj, List.getElem?_take, if_pos hj]
     ·rw [if_neg hj]
      by_cases hj2 : j = p
      ·subst hj2
       simp; omega
      ·rw [if_neg (by omega), List.getElem?_eq_none (by simp; omega)]
    ·intro j hj
     rw [List.getElem?_set_ne (by omega)]
     exact h8 j (by omega)
  ·have hq' : q = s.length := by omega
   subst hq'
   have c1 : decide (((s.length - k : Nat) : Int) < ((s.length - k : Nat) : Int)) = false := by simp
   have hp : p ≤ a.length := by omega
   have s1 : slc a (p : Int) (a.length : Int) = some (a.drop p) := Qr0 hp
   have e0 : (Qh4 (a.map o3).length p) = a.length - p := by
    rw [Qgh, List.length_map]
   have hcl : (Qud a 0 p (a.length - p)).length = a.length := Qv4 (by omega)
   have s2 : slc (Qud a 0 p (a.length - p)) 0 (p : Int) = some ((Qud a 0 p (a.length - p)).take p) := Qmq (by omega)
   have e1 : (Qud a 0 p (a.length - p)).take p = a.take p := by
    unfold Qud ovT
    rw [List.append_assoc, List.take_append_of_le_length (by rw [List.length_take]; omega), List.take_take, Nat.min_self]
   simp only [c1, Bool.false_eq_true, if_false, s1, Int.toNat_natCast, e0, s2, Option.bind_some, e1, h7]
theorem Qpc {s p1 : List Int} (hL : s.length < 1099511627776) : ∀ (n k : Nat), 1 ≤ k → k ≤ s.length → s.length < n + k → ddN s k = s.take k →
  Qai p1 n s (k : Int) = some (ddN s s.length)
 | 0, k, h1, h2, h3, h4 => by omega
 | n + 1, k, h1, h2, h3, h4 => by
  have ih := Qpc (p1 := p1) hL n
  rw [Qai]
  by_cases hk : k < s.length
  ·have r1 : rd s (k : Int) = some (gA s k) := by rw [Qur, Qsh hk]
   have w1 : w64 ((k : Int) - 1) = ((k - 1 : Nat) : Int) := by rw [Qgo (by omega)]; omega
   have r2 : rd s ((k - 1 : Nat) : Int) = some (gA s (k - 1)) := by rw [Qur, Qsh (by omega)]
   have c1 : decide ((k : Int) < (s.length : Int)) = true := by simp; omega
   simp only [c1, if_true, r1, w1, r2, Option.bind_some, Qr0 (show k ≤ s.length by omega), Qcx (show k < 4611686018427387904 by omega)]
   by_cases hd : gA s k = gA s (k - 1)
   ·have : (gA s k == gA s (k - 1)) = true := by simp [hd]
    simp only [this, if_true]
    have e : ddN s (k + 1) = ddN s k := by rw [ddN, if_neg (by omega), List.append_nil]
    have hlen : k = (ddN s (k + 1)).length := by rw [e, h4, List.length_take]; omega
    have := Qpn (s := s) (p1 := p1) (k := k) (K0 := Qai p1 n) hL h1 FU k (k + 1) s (by omega) (by omega) (by have := Qdg (n := s.length) hL; omega) (by omega) rfl hlen (by rw [e, h4]) (fun j _ => rfl)
    rw [show ((k + 1 - k : Nat) : Int) = 1 by omega] at this
    exact this
   ·have : (gA s k == gA s (k - 1)) = false := by simp [hd]
    simp only [this, Bool.false_eq_true, if_false]
    have e : ddN s (k + 1) = s.take (k + 1) := by
     rw [ddN, if_pos (.inr hd), h4, List.take_add_one, Qsh hk]
     rfl
    exact ih (k + 1) (by omega) (by omega) (by omega) e
  ·have hk' : k = s.length := by omega
   have c1 : decide ((k : Int) < (s.length : Int)) = false := by simp; omega
   simp only [c1, Bool.false_eq_true, if_false]
   rw [hk'] at h4
   rw [h4, List.take_length]
theorem Qvl {s : List Int} (hL : s.length < 1099511627776) : Qbh s = some (ddN s s.length) := by
 rw [Qbh]
 by_cases h : s.length < 2
 ·have c1 : decide ((s.length : Int) < 2) = true := by simp; omega
  simp only [c1, if_true]
  match s, h with
  | [], _ => rfl
  | [x], _ => simp [ddN, gA]
  | x :: y :: l, h => simp at h; omega
 ·have c1 : decide ((s.length : Int) < 2) = false := by simp; omega
  simp only [c1, Bool.false_eq_true, if_false]
  refine Qpc hL FU 1 (by omega) (by omega) (by have := Qdg (n := s.length) hL; omega) ?_
  match s, h with
  | [], h => simp at h
  | x :: l, _ => simp [ddN, gA]
theorem Qt5 {s : List Int} {x : Int} : ∀ q, q ≤ s.length → (x ∈ ddN s q ↔ ∃ j, j < q ∧ gA s j = x)
 | 0, h => by simp [ddN]
 | q + 1, h => by
  rw [ddN, List.mem_append, Qt5 q (by omega)]
  constructor
  ·rintro (⟨j, h1, h2⟩ | h1)
   ·exact ⟨j, by omega, h2⟩
   ·split at h1
    ·simp at h1; exact ⟨q, by omega, h1.symm⟩
    ·simp at h1
  ·rintro ⟨j, h1, h2⟩
   by_cases hj : j < q
   ·exact .inl ⟨j, hj, h2⟩
   ·have : j = q := by omega
    subst this
    by_cases hc : j = 0 ∨ gA s j ≠ gA s (j - 1)
    ·right; rw [if_pos hc]; simp [h2]
    ·left
     exact ⟨j - 1, by omega, by rw [← h2]; omega⟩
theorem Qpr {s : List Int} (hs : ∀ i j, i ≤ j → j < s.length → gA s i ≤ gA s j) : ∀ q, q ≤ s.length → (ddN s q).Pairwise (· < ·)
 | 0, h => by simp [ddN]
 | q + 1, h => by
  rw [ddN, List.pairwise_append]
  refine ⟨Qpr hs q (by omega), by split <;> simp, ?_⟩
  intro x hx y hy
  split at hy
  ·rename_i hc
   simp at hy
   subst hy
   obtain ⟨j, h1, h2⟩ := (Qt5 q (by omega)).1 hx
   have h3 := hs j (q - 1) (by omega) (by omega)
   have h4 := hs (q - 1) q (by omega) (by omega)
   omega
  ·simp at hy
theorem Qph : ∀ {a b : List Int}, a.Pairwise (· < ·) → b.Pairwise (· < ·) → (∀ x, x ∈ a ↔ x ∈ b) → a = b
 | [], [], _, _, _ => rfl
 | [], y :: b, _, _, h => by have := (h y).2 (by simp); simp at this
 | x :: a, [], _, _, h => by have := (h x).1 (by simp); simp at this
 | x :: a, y :: b, ha, hb, h => by
  rw [List.pairwise_cons] at ha hb
  have hxy : x = y := by
   rcases List.mem_cons.1 ((h x).1 (by simp)) with e | e
   ·exact e
   ·rcases List.mem_cons.1 ((h y).2 (by simp)) with e2 | e2
    ·exact e2.symm
    ·have := ha.1 y e2
     have := hb.1 x e
     omega
  subst hxy
  congr 1
  refine Qph ha.2 hb.2 fun z => ?_
  constructor
  ·intro hz
   rcases List.mem_cons.1 ((h z).1 (List.mem_cons_of_mem _ hz)) with e | e
   ·have := ha.1 z hz; omega
   ·exact e
  ·intro hz
   rcases List.mem_cons.1 ((h z).2 (List.mem_cons_of_mem _ hz)) with e | e
   ·have := hb.1 z hz; omega
   ·exact e
def Qyp (p : List Int) : List Int := ddN (p.mergeSort fun x y => decide (x ≤ y)) (p.mergeSort fun x y => decide (x ≤ y)).length
theorem Xd5 (p : List Int) : (p.mergeSort fun x y => decide (x ≤ y)).Pairwise (fun x y => x ≤ y) := by
 have := List.pairwise_mergeSort (le := fun x y : Int => decide (x ≤ y)) (by intro a b c h1 h2; simp at *; omega) (by intro a b; simp; omega) p
 exact this.imp (by intro a b h; simpa using h)
theorem Qzd (p : List Int) : ∀ i j, i ≤ j → j < (p.mergeSort fun x y => decide (x ≤ y)).length → gA (p.mergeSort fun x y => decide (x ≤ y)) i ≤ gA (p.mergeSort fun x y => decide (x ≤ y)) j := by
 intro i j h1 h2
 have hi : i < (p.mergeSort fun x y => decide (x ≤ y)).length := by omega
 rcases Nat.lt_or_ge i j with h | h
 ·have := List.pairwise_iff_getElem.1 (Xd5 p) i j hi h2 h
  rw [Qqe hi, Qqe h2]; exact this
 ·have : i = j := by omega
  subst this; exact Int.le_refl _
theorem Qnc (p : List Int) : (Qyp p).Pairwise (· < ·) := Qpr (Qzd p) _ (Nat.le_refl _)
theorem Qre {p : List Int} {x : Int} : x ∈ Qyp p ↔ x ∈ p := by
 unfold Qyp
 rw [Qt5 _ (Nat.le_refl _), ← List.mem_mergeSort (le := fun x y : Int => decide (x ≤ y)), List.mem_iff_getElem]
 constructor
 ·rintro ⟨j, h1, h2⟩; exact ⟨j, h1, by rw [← Qqe h1]; exact h2⟩
 ·rintro ⟨j, h1, h2⟩; exact ⟨j, h1, by rw [Qqe h1]; exact h2⟩
theorem Qxm {p : List Int} (hp : p.length < 1099511627776) : Qfv p = some (Qyp p) := by
 have hl : (p.mergeSort fun x y => decide (x ≤ y)).length = p.length := List.length_mergeSort _
 rw [Qfv, Qec, srtL, if_pos (by omega), Option.bind_some, Qlm hl, Option.bind_some, Qvl (by rw [hl]; exact hp)]
 rfl
end Go.Proofs.Ytjcaompblpglcaa
