/- Plain facts for FnExactOrderOf; no condition. -/

import Derived.Test.YtjcaompblpglcaaH1
set_option linter.unusedVariables false
namespace Go.Proofs.Ytjcaompblpglcaa
open Go Go.T
theorem Qpt {T : Int} {p : List Qa0} {i : Nat} (hi : i < p.length) : Qhg T (p.take (i + 1)) = stp T (Qhg T (p.take i)) (Qet p i) := by
 unfold Qhg
 rw [List.take_add_one, List.getElem?_eq_getElem hi, Option.toList_some, List.foldl_append]
 have : p[i] = Qet p i := by simp [Qet, hi]
 rw [this]; rfl
theorem Qsz {p : List Qa0} {i k : Nat} {r3 : List Int} (hp : p.length < 1000000) (hg : p.all Qdl = true) (hi : i < p.length) : ∀ (n j : Nat), j ≤ i → i < n + j →
  Qb1 p i r3 (k : Int) n (Qhg (Qet p i).Thread (p.take j) k) j = if Qhg (Qet p i).Thread (p.take i) k = true then some r3 else Qda r3 k
 | 0, j, h1, h2 => by omega
 | n + 1, j, h1, h2 => by
  rw [Qb1]
  by_cases hj : j < i
  ·have next := Qsz (r3 := r3) (k := k) hp hg hi n (j + 1) hj (by omega)
   rw [Qpt (by omega)] at next
   simp only [PS, hj, Qlp (show j < p.length by omega), Qlp hi, Qcx (k := j) (by omega), Qgn]
   by_cases ht : (Qet p j).Thread = (Qet p i).Thread
   ·have ht' : ((Qet p j).Thread != (Qet p i).Thread) = false := by simp [ht]
    rw [Qmw ht] at next
    have second : ∀ b : Bool, Qcg (Qb1 p i r3 (k : Int) n) p i r3 k j b = Qb1 p i r3 (k : Int) n (if (k : Int) = Qbt (Qet p j) then false else b) ((j + 1 : Nat) : Int) := by
     intro b
     rw [Qcg]
     simp only [PS, Qlp (show j < p.length by omega), Qp9, Qcx (k := j) (by omega)]
     by_cases hgv : Qbt (Qet p j) = (k : Int)
     ·have e5 : (Qbt (Qet p j) == (k : Int)) = true := by simp [hgv]
      rw [if_pos e5, if_pos hgv.symm]
     ·have e5 : ¬ (Qbt (Qet p j) == (k : Int)) = true := by simp [hgv]
      rw [if_neg e5, if_neg (fun h => hgv h.symm)]
    simp only [PS, ht']
    by_cases htk : Qas (Qet p j) = (k : Int)
    ·have e5 : (Qas (Qet p j) == (k : Int)) = true := by simp [htk]
     rw [if_pos e5, second true]
     rw [htk] at next
     simpa using next
    ·have e5 : ¬ (Qas (Qet p j) == (k : Int)) = true := by simp [htk]
     rw [if_neg e5, second _]
     have e6 : ¬ (k : Int) = Qas (Qet p j) := fun h => htk h.symm
     simp only [e6, if_false] at next
     exact next
   ·have ht' : ((Qet p j).Thread != (Qet p i).Thread) = true := by simp [ht]
    rw [Qx9 ht] at next
    simp only [PS, ht']
    exact next
  ·have : j = i := by omega
   subst this
   simp only [PS, Nat.lt_irrefl]
   cases Qhg (Qet p j).Thread (p.take j) k <;> simp
theorem Qtn {p : List Qa0} {i : Nat} (hp : p.length < 1000000) (hg : p.all Qdl = true) (hi : i < p.length) (hk : 0 ≤ Qas (Qet p i)) : Qeo p i = some (Qga (Qhg (Qet p i).Thread (p.take i))) := by
 rw [Qeo, Qwm hp hg hi]
 simp only [PS, Qlp hi, Qgn]
 have e5 : decide (Qas (Qet p i) ≥ 0) = true := by simpa using hk
 rw [if_pos e5]
 rcases Qdc (Qhu hg hi) with hr | ⟨h0, h9, hgv⟩
 ·omega
 obtain ⟨k, hkk⟩ : ∃ k : Nat, Qas (Qet p i) = (k : Int) := ⟨(Qas (Qet p i)).toNat, by omega⟩
 have h1 := Qsz (k := k) (r3 := Qga (Qhg (Qet p i).Thread (p.take (i + 1)))) hp hg hi FU 0 (by omega) (by have := Qdg (n := i) (by omega); omega)
 have e0 : Qhg (Qet p i).Thread (p.take 0) k = false := rfl
 rw [e0] at h1
 rw [hkk, show (0 : Int) = ((0 : Nat) : Int) from rfl, h1]
 have hs : Qhg (Qet p i).Thread (p.take (i + 1)) = fun j : Nat => if (j : Int) = (k : Int) then true else Qhg (Qet p i).Thread (p.take i) j := by
  rw [Qpt hi, Qmw rfl, hkk, hgv]
  funext j
  rw [if_neg (by omega)]
 by_cases hh : Qhg (Qet p i).Thread (p.take i) k = true
 ·rw [if_pos hh, hs]
  congr 2
  funext j
  by_cases hj : j = k
  ·subst hj; simp [hh]
  ·rw [if_neg (by omega)]
 ·rw [if_neg hh, hs, Qpw (by omega)]
  congr 2
  funext j
  by_cases hj : j = k
  ·subst hj; simp [hh]
  ·rw [if_neg (by omega), if_neg (by omega)]
def Qtz (p : List Qa0) (i : Nat) : List Qaj := if 0 ≤ Qas (Qet p i) then (Qga (Qhg (Qet p i).Thread (p.take i))).map (fun h => ⟨h, Qas (Qet p i), (Qet p i).Thread, (i : Int)⟩) else []
def Qox (p : List Qa0) (m : Nat) : List Qaj := (List.range m).flatMap (Qtz p)
theorem Qsa (p : List Qa0) (m : Nat) : Qox p (m + 1) = Qox p m ++ Qtz p m := by
 unfold Qox; rw [List.range_succ, List.flatMap_append]; simp
theorem Qmv (p : List Qa0) : ∀ m, (Qox p m).length ≤ 100 * m
 | 0 => by simp [Qox]
 | m + 1 => by
  rw [Qsa, List.length_append]
  have := Qmv p m
  have : (Qtz p m).length ≤ 100 := by
   unfold Qtz
   split
   ·rw [List.length_map]; exact Qfp _
   ·simp
  omega
theorem Qn6 {p : List Qa0} {K : List Qaj → Int → Option (List Qaj)} {i : Nat} {k : Int} {e : Qa0} {r9 : List Int} (h9 : r9.length ≤ 100) {o : List Qaj} (ho : o.length ≤ 100000) : ∀ (n j : Nat) (a : List Qaj), j ≤ r9.length → r9.length < n + j → a = o ++ (r9.take j).map (fun h => ⟨h, k, e.Thread, (i : Int)⟩) →
    Qbu K p i k r9 n a e r9 j = K (o ++ r9.map (fun h => ⟨h, k, e.Thread, (i : Int)⟩)) (w64 ((i : Int) + 1))
  | 0, j, a, h1, h2, h3 => by omega
  | n + 1, j, a, h1, h2, h3 => by
    rw [Qbu]
    by_cases hj : j < r9.length
    · have hal : a.length ≤ 100200 := by rw [h3]; simp; omega
      simp only [PS, hj, Qdm hj, Qcx (k := j) (by omega), Qf2 (a := a) (b := [(⟨r9[j], k, e.Thread, (i : Int)⟩ : Qaj)]) (by simp; omega)]
      exact Qn6 h9 ho n (j + 1) _ hj (by omega) (by
        rw [h3, List.take_add_one, List.getElem?_eq_getElem hj, Option.toList_some, List.map_append, List.append_assoc]; rfl)
    · have : j = r9.length := by omega
      subst this
      simp only [PS, Nat.lt_irrefl]
      rw [h3, List.take_length]
theorem Qnn {p : List Qa0} {K : List Qaj → Int → Option (List Qaj)} {i : Nat} {k : Int} {e : Qa0} {r9 : List Int} (he : Qb0 e = some k) (h9 : r9.length ≤ 100) {o : List Qaj} (ho : o.length ≤ 100000) : ∀ (n j : Nat) (a : List Qaj), j ≤ r9.length → r9.length < n + j → a = o ++ (r9.take j).map (fun h => ⟨h, k, e.Thread, (i : Int)⟩) →
    Qcv K p i r9 n a e r9 j = K (o ++ r9.map (fun h => ⟨h, k, e.Thread, (i : Int)⟩)) (w64 ((i : Int) + 1))
  | 0, j, a, h1, h2, h3 => by omega
  | n + 1, j, a, h1, h2, h3 => by
    rw [Qcv]
    by_cases hj : j < r9.length
    · have hal : a.length ≤ 100200 := by rw [h3]; simp; omega
      simp only [PS, hj, Qdm hj, he, Qcx (k := j) (by omega), Qf2 (a := a) (b := [(⟨r9[j], k, e.Thread, (i : Int)⟩ : Qaj)]) (by simp; omega)]
      exact Qnn he h9 ho n (j + 1) _ hj (by omega) (by
        rw [h3, List.take_add_one, List.getElem?_eq_getElem hj, Option.toList_some, List.map_append, List.append_assoc]; rfl)
    · have : j = r9.length := by omega
      subst this
      simp only [PS, Nat.lt_irrefl]
      rw [h3, List.take_length]
theorem Qrn {p : List Qa0} (hl : p.length ≤ 200) (hg : p.all Qdl = true) : ∀ (n i : Nat), i ≤ p.length → p.length < n + i →
  Qbe p n (Qox p i) i = some (Qox p p.length) ∧ Qc2 p n (Qox p i) i = some (Qox p p.length)
 | 0, i, h1, h2 => by omega
 | n + 1, i, h1, h2 => by
  rw [Qbe, Qc2]
  by_cases hi : i < p.length
  ·have next := Qrn hl hg n (i + 1) hi (by omega)
   have hul := Qmv p i
   have ho : (Qox p i).length ≤ 100000 := by omega
   have hs := Qsa p i
   unfold Qtz at hs
   simp only [PS, hi, Qlp hi, Qgn, Qih (Qhu hg hi), Qcx (k := i) (by omega)]
   rcases Qdc (Qhu hg hi) with hr | ⟨h0, h9, hgv⟩
   ·have e5 : decide (Qas (Qet p i) < 0) = true := by rw [hr]; decide
    have e6 : decide ((if Qas (Qet p i) = -3 then (-1 : Int) else Qas (Qet p i)) < 0) = true := by rw [hr]; decide
    rw [if_neg (by omega), List.append_nil] at hs
    rw [hs] at next
    simp only [PS, e5, e6]
    exact next
   ·have e5 : decide (Qas (Qet p i) < 0) = false := by simpa using h0
    have e7 : ¬ Qas (Qet p i) = -3 := by omega
    rw [if_neg e7]
    rw [if_pos h0] at hs
    have ht : Qb0 (Qet p i) = some (Qas (Qet p i)) := by rw [Qih (Qhu hg hi), if_neg e7]
    simp only [PS, e5, Qtn (show p.length < 1000000 by omega) hg hi h0, Qs9 (T := (Qet p i).Thread) (show p.length < 1000000 by omega) hg (show i ≤ p.length by omega)]
    rw [show (0 : Int) = ((0 : Nat) : Int) from rfl, Qn6 (Qfp _) ho FU 0 _ (by omega) (by have := Qfp (Qhg (Qet p i).Thread (p.take i)); have := Qdg (n := (Qga (Qhg (Qet p i).Thread (p.take i))).length) (by omega); omega) (by simp),
     Qnn ht (Qfp _) ho FU 0 _ (by omega) (by have := Qfp (Qhg (Qet p i).Thread (p.take i)); have := Qdg (n := (Qga (Qhg (Qet p i).Thread (p.take i))).length) (by omega); omega) (by simp), Qcx (k := i) (by omega), ← hs]
    exact next
  ·have : i = p.length := by omega
   subst this
   simp only [PS, Nat.lt_irrefl]
   exact ⟨trivial, trivial⟩
theorem Qt9 {p : List Qa0} (hl : p.length ≤ 200) (hg : p.all Qdl = true) : Qdw p = some (Qox p p.length) ∧ Qfw p = some (Qox p p.length) := by
 rw [Qdw, Qfw]
 exact Qrn hl hg FU 0 (by omega) (by have := Qdg (n := p.length) (by omega); omega)
end Go.Proofs.Ytjcaompblpglcaa
