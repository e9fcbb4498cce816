/- Plain facts for FnExactOrderOf; no condition. -/

import Derived.Test.YtjcaompblpglcaaOR2
set_option linter.unusedVariables false
set_option linter.unusedSimpArgs false
namespace Go.Proofs.Ytjcaompblpglcaa
open Go Go.T
theorem or_11 {P : List (List Int)} (hP : E2 P) {L : List Int} (hl : L.length < 1000000) {k : Int} : ∀ e ∈ P, Qch e k L = some (match e with | [a, b] => b == k && L.any (· == a) | _ => false) := by
 intro e he
 obtain ⟨a, b, rfl, _⟩ := hP e he
 have rx : rd [a, b] 0 = some a := rfl
 have ry : rd [a, b] 1 = some b := rfl
 rw [Qch]
 simp only [PS, rx, ry, Qu5 (p := L) (x := a) hl]
 cases h : (b == k) <;> simp
theorem or_1 {P : List (List Int)} (hP : E2 P) (hpl : P.length ≤ 100000) {L : List Int} (hl : L.length < 1000000) (k : Int) : Qe7 k P L = some (Qiv P L k) := by
 obtain ⟨r, e1, e2⟩ := findL (p := P) (t := fun x => Qch x k L) (F := Qa4 P k L) (by intros; rw [Qa4]) (by omega) (or_11 hP hl)
 rw [Qe7, Qal, Qam]
 simp only [PS, e1, e2]
 rfl
theorem Qyg {P : List (List Int)} (hP : E2 P) (hpl : P.length ≤ 100000) {L : List Int} (hl : L.length < 1000000) : ∀ (n k : Nat), k ≤ L.length → L.length < n + k → (∀ i (hi : i < k) (hl : i < L.length), Qiv P L L[i] = false) →
  (Qa2 L P L n k = some (-1) ∧ ∀ x ∈ L, Qiv P L x = false) ∨ ∃ (j : Nat) (hj : j < L.length), Qa2 L P L n k = some (j : Int) ∧ Qiv P L L[j] = true ∧ ∀ i (hi : i < j), Qiv P L (L[i]'(Nat.lt_trans hi hj)) = false
 | 0, k, h1, h2, _ => by omega
 | n + 1, k, h1, h2, h3 => by
  rw [Qa2]
  by_cases hk : k < L.length
  ·simp only [PS, hk, Qdm hk, or_1 hP hpl hl, Qcx (k := k) (by omega)]
   cases hf : Qiv P L L[k]
   ·refine Qyg hP hpl hl n (k + 1) hk (by omega) ?_
    intro i hi hl
    rcases Nat.lt_or_ge i k with h | h
    ·exact h3 i h hl
    ·have : i = k := by omega
     subst this; exact hf
   ·exact .inr ⟨k, hk, rfl, hf, fun i hi => h3 i hi _⟩
  ·have : k = L.length := by omega
   subst this
   refine .inl ⟨by simp, fun x hx => ?_⟩
   obtain ⟨i, hi, rfl⟩ := List.mem_iff_getElem.1 hx
   exact h3 i hi hi
theorem Qn1 {P : List (List Int)} (hP : E2 P) (hpl : P.length ≤ 100000) {K0 : List (List Int) → List Int → List Int → Option (List Int × Bool)} {K1 : List (List Int) → List Int → List Int → Int → Option (List Int × Bool)} {a20 L o : List Int} (hl : L.length < 1000000) (ho : o.length < 1000000) {i : Nat} (hi : i < 1000000) {x : Int} : ∀ (n k : Nat) (f : Bool), k ≤ P.length → P.length < n + k →
  Qbb K0 K1 a20 P L o i x n f k = if f && Qiv (P.drop k) L x then K0 P (L.filter (· != x)) (o ++ [x]) else K1 P L o ((i + 1 : Nat) : Int)
 | 0, k, f, h1, h2 => by omega
 | n + 1, k, f, h1, h2 => by
  rw [Qbb]
  by_cases hk : k < P.length
  ·obtain ⟨a, b, e, r1, r2, r3, r4⟩ := hP P[k] (List.getElem_mem hk)
   have hd : P.drop k = [a, b] :: P.drop (k + 1) := by rw [List.drop_eq_getElem_cons hk, e]
   have rx : rd [a, b] 0 = some a := rfl
   have ry : rd [a, b] 1 = some b := rfl
   have hfr : Qiv (P.drop k) L x = (!(b == x && L.any (· == a)) && Qiv (P.drop (k + 1)) L x) := by
    rw [hd]; unfold Qiv; rw [List.any_cons, Bool.not_or]
   simp only [PS, hk, Qdm hk, e, rx, ry, Qcx (k := k) (by omega), Xag (p := L) (x := a) hl]
   rw [hfr]
   cases f
   ·simpa using Qn1 hP hpl hl ho hi n (k + 1) false hk (by omega)
   ·by_cases hb : b = x
    ·subst hb
     simpa using Qn1 hP hpl hl ho hi n (k + 1) (!L.any (· == a)) hk (by omega)
    ·have hbb : (b == x) = false := by simpa using hb
     have hbn : (b != x) = true := by simpa using hb
     simpa [hbb, hbn] using Qn1 hP hpl hl ho hi n (k + 1) true hk (by omega)
  ·have : k = P.length := by omega
   subst this
   have a1 : app o [x] = some (o ++ [x]) := Qf2 (by simp; omega)
   simp only [PS, List.drop_length, a1, Qwr (p := L) (r := x) hl, Qcx (k := i) (by omega)]
   cases f <;> simp [Qiv]
theorem Qu9 {P : List (List Int)} (hP : E2 P) (hpl : P.length ≤ 100000) {K0 : List (List Int) → List Int → List Int → Option (List Int × Bool)} {L o : List Int} (hl : L.length < 1000000) (ho : o.length < 1000000) {j : Nat} (hj : j < L.length) (hf : Qiv P L L[j] = true) : ∀ (n k : Nat), k ≤ j → L.length < n + k → (∀ i (hi : i < j), Qiv P L (L[i]'(Nat.lt_trans hi hj)) = false) →
  Qbs K0 L n P L o k = K0 P (L.filter (· != L[j])) (o ++ [L[j]])
 | 0, k, h1, h2, _ => by omega
 | n + 1, k, h1, h2, h3 => by
  have hk : k < L.length := by omega
  have hFU : P.length < FU + 0 := by have := Qdg (n := P.length) (by omega); omega
  have hx := Qn1 hP hpl (K0 := K0) (K1 := Qbs K0 L n) (a20 := L) hl ho (i := k) (by omega) (x := L[k]) FU 0 true (by omega) hFU
  rw [List.drop_zero, show ((0 : Nat) : Int) = 0 from rfl] at hx
  rw [Qbs]
  simp only [PS, hk, Qdm hk, hx]
  rcases Nat.lt_or_ge k j with h | h
  ·rw [h3 k h]
   simpa using Qu9 hP hpl hl ho hj hf n (k + 1) h (by omega) h3
  ·have : k = j := by omega
   subst this
   simp [hf]
theorem Xaz {L : List Int} (hn : L.Nodup) {j : Nat} (hj : j < L.length) : L.take j ++ L.drop (j + 1) = L.filter (· != L[j]) := by
 have hd : L = L.take j ++ L[j] :: L.drop (j + 1) := by
  rw [← List.drop_eq_getElem_cons hj, List.take_append_drop]
 generalize hx : L[j] = x at hd ⊢
 generalize L.take j = A at hd ⊢
 generalize L.drop (j + 1) = B at hd ⊢
 rw [hd] at hn ⊢
 rw [List.nodup_append] at hn
 obtain ⟨n1, n2, n3⟩ := hn
 rw [List.nodup_cons] at n2
 rw [List.filter_append, List.filter_cons]
 have f1 : A.filter (· != x) = A := List.filter_eq_self.2 fun y hy => by
  have := n3 y hy x (by simp)
  simpa using this
 have f2 : B.filter (· != x) = B := List.filter_eq_self.2 fun y hy => by
  simp
  rintro rfl
  exact n2.1 hy
 rw [f1, f2]
 simp
theorem Qvi {L : List Int} (hn : L.Nodup) {j : Nat} (hj : j < L.length) : (L.filter (· != L[j])).length + 1 = L.length := by
 rw [← Xaz hn hj]
 simp; omega
theorem Xaa {L : List Int} (hn : L.Nodup) {j : Nat} (hj : j < L.length) (hl : L.length < 1000000) : Qbo L (j : Int) (w64 ((j : Int) + 1)) = some (L.filter (· != L[j])) := by
 rw [Qbo, Qcx (k := j) (by omega), ← Xaz hn hj]
 unfold delL
 rw [if_pos ⟨by omega, by omega, by omega⟩]
 simp
theorem kahn {P : List (List Int)} (hP : E2 P) (hpl : P.length ≤ 100000) (hac : ¬ ∃ x, Way P x x) : ∀ (m : Nat) (L o : List Int) (n n' : Nat), L.length = m → L.Nodup → (∀ x ∈ L, 0 ≤ x ∧ x < 100) → m < n → m < n' → o.length + m ≤ 200 →
  ∃ r, Qb4 n L P o = some (r, true) ∧ Qb7 n' P L o = some (r, true) ∧ r.length ≤ 200
 | m, L, o, 0, n', h1, _, _, h4, _, _ => by omega
 | m, L, o, n + 1, 0, h1, _, _, _, h4, _ => by omega
 | 0, L, o, n + 1, n' + 1, h1, h2, h3, h4, h5, h6 => by
  have : L = [] := List.length_eq_zero_iff.1 h1
  subst this
  rw [Qb4, Qb7]
  exact ⟨o, rfl, rfl, by omega⟩
 | m + 1, L, o, n + 1, n' + 1, h1, h2, h3, h4, h5, h6 => by
  have hl := Qhe 100 L h2 h3
  have c1 : decide ((L.length : Int) > 0) = true := by simp; omega
  rw [Qb4, Qb7]
  have hFU : L.length < FU + 0 := by have := Qdg (n := L.length) (by omega); omega
  rcases Qyg hP hpl (L := L) (by omega) FU 0 (by omega) hFU (fun i hi => by omega) with ⟨_, hno⟩ | ⟨j, hj, e1, e2, e3⟩
  ·exfalso
   refine hac (Qt2 h3 (by rintro rfl; simp at h1) fun k hk => ?_)
   have := hno k hk
   apply Classical.byContradiction
   intro hh
   have : Qiv P L k = true := (Qp8 hP).2 fun a ha hp => hh ⟨a, ha, hp⟩
   simp_all
  ·rw [show ((0 : Nat) : Int) = 0 from rfl] at e1
   have hs := Qu9 hP hpl (K0 := Qb7 n') (L := L) (o := o) (by omega) (by omega) hj e2 FU 0 (by omega) hFU e3
   rw [show ((0 : Nat) : Int) = 0 from rfl] at hs
   have a1 : app o [L[j]] = some (o ++ [L[j]]) := Qf2 (by simp; omega)
   have c2 : decide ((j : Int) < 0) = false := by simp <;> omega
   simp only [PS, c1, Qa9, e1, c2, Qdm hj, a1, Xaa h2 hj (by omega), hs]
   have hfl := Qvi h2 hj
   exact kahn hP hpl hac m (L.filter (· != L[j])) (o ++ [L[j]]) n n' (by omega) (h2.filter _) (fun x hx => h3 x (List.mem_filter.1 hx).1) (by omega) (by omega) (by simp; omega)
theorem Xcm {P : List (List Int)} (hP : E2 P) (hpl : P.length ≤ 100000) {z : Int} (hz : Way P z z) : ∀ (m : Nat) (L o : List Int) (n : Nat), L.length = m → L.Nodup → (∀ x ∈ L, 0 ≤ x ∧ x < 100) → (∀ x, Way P z x → Way P x z → x ∈ L) → m < n → o.length + m ≤ 200 →
  Qb4 n L P o = some ([], false)
 | m, L, o, 0, h1, _, _, _, h4, _ => by omega
 | 0, L, o, n + 1, h1, h2, h3, hC, h4, h6 => by
  have : L = [] := List.length_eq_zero_iff.1 h1
  subst this
  have := hC z hz hz
  simp at this
 | m + 1, L, o, n + 1, h1, h2, h3, hC, h4, h6 => by
  have hl := Qhe 100 L h2 h3
  have c1 : decide ((L.length : Int) > 0) = true := by simp; omega
  rw [Qb4]
  have hFU : L.length < FU + 0 := by have := Qdg (n := L.length) (by omega); omega
  rcases Qyg hP hpl (L := L) (by omega) FU 0 (by omega) hFU (fun i hi => by omega) with ⟨e1, _⟩ | ⟨j, hj, e1, e2, e3⟩
  ·rw [show ((0 : Nat) : Int) = 0 from rfl] at e1
   simp only [PS, c1, Qa9, e1]
   rfl
  ·rw [show ((0 : Nat) : Int) = 0 from rfl] at e1
   have a1 : app o [L[j]] = some (o ++ [L[j]]) := Qf2 (by simp; omega)
   have c2 : decide ((j : Int) < 0) = false := by simp <;> omega
   simp only [PS, c1, Qa9, e1, c2, Qdm hj, a1, Xaa h2 hj (by omega)]
   have hfl := Qvi h2 hj
   refine Xcm hP hpl hz m (L.filter (· != L[j])) (o ++ [L[j]]) n (by omega) (h2.filter _) (fun x hx => h3 x (List.mem_filter.1 hx).1) ?_ (by omega) (by simp; omega)
   intro x hx1 hx2
   rw [List.mem_filter]
   refine ⟨hC x hx1 hx2, ?_⟩
   simp
   rintro rfl
   -- one leads to it that is on the way round
   have hfr := (Qp8 hP).1 e2
   cases hx1 with
   | one k => exact hfr z (hC z hz hz) k
   | more w k => exact hfr _ (hC _ w (.cons k hx2)) k
end Go.Proofs.Ytjcaompblpglcaa
