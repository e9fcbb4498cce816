/- Plain facts for FnExactOrderOf; no condition. -/

import Derived.Test.YtjcaompblpglcaaHC
set_option linter.unusedVariables false
set_option linter.unusedSimpArgs false
namespace Go.Proofs.Ytjcaompblpglcaa
open Go Go.T
def E2 (P : List (List Int)) : Prop := ∀ e ∈ P, ∃ a b : Int, e = [a, b] ∧ 0 ≤ a ∧ a < 100 ∧ 0 ≤ b ∧ b < 100
inductive Way (P : List (List Int)) : Int → Int → Prop
 | one {a b : Int} (h : [a, b] ∈ P) : Way P a b
 | more {a b c : Int} (h : Way P a b) (k : [b, c] ∈ P) : Way P a c
theorem Way.trans {P : List (List Int)} {a b c : Int} (h : Way P a b) (k : Way P b c) : Way P a c := by
 induction k with
 | one k => exact .more h k
 | more _ k ih => exact .more ih k
theorem Way.cons {P : List (List Int)} {a b c : Int} (h : [a, b] ∈ P) (k : Way P b c) : Way P a c := Way.trans (.one h) k
theorem Way.rng {P : List (List Int)} (hP : E2 P) {a b : Int} (h : Way P a b) : 0 ≤ a ∧ a < 100 ∧ 0 ≤ b ∧ b < 100 := by
 induction h with
 | one h => obtain ⟨x, y, e, h1, h2, h3, h4⟩ := hP _ h; simp at e; omega
 | more _ k ih => obtain ⟨x, y, e, h1, h2, h3, h4⟩ := hP _ k; simp at e; omega
theorem Qhe : ∀ (m : Nat) (l : List Int), l.Nodup → (∀ x ∈ l, 0 ≤ x ∧ x < (m : Int)) → l.length ≤ m
  | 0, [], _, _ => by simp
  | 0, x :: l, _, h => by have := h x (by simp); omega
  | m + 1, l, hn, h => by
    have h1 := Qhe m (l.filter (· != (m : Int))) (hn.filter _) (fun x hx => by
      rw [List.mem_filter] at hx
      have := h x hx.1
      have h2 : x ≠ (m : Int) := by simpa using hx.2
      omega)
    have h2 : l.length ≤ (l.filter (· != (m : Int))).length + 1 := by
      clear h h1
      induction l with
      | nil => simp
      | cons y l ih =>
        have hn' := List.nodup_cons.1 hn
        by_cases hy : y = (m : Int)
        · subst hy
          have : l.filter (· != (m : Int)) = l := by
            rw [List.filter_eq_self]
            intro x hx
            simp
            rintro rfl
            exact hn'.1 hx
          simp [this]
        · have := ih hn'.2
          have hb : (y != (m : Int)) = true := by simpa using hy
          simp only [List.filter_cons, hb, if_true, List.length_cons]
          omega
    omega
def Qh2 : List Int → List Int → List Int
 | _, [] => []
 | S, m :: l => if m ∈ S then Qh2 S l else m :: Qh2 (S ++ [m]) l
theorem Qkg {x : Int} : ∀ {l S : List Int}, x ∈ S ++ Qh2 S l ↔ x ∈ S ∨ x ∈ l
 | [], S => by simp [Qh2]
 | m :: l, S => by
  rw [Qh2]
  split
  ·rename_i h
   rw [Qkg, List.mem_cons]
   constructor
   ·rintro (h1 | h1)
    ·exact .inl h1
    ·exact .inr (.inr h1)
   ·rintro (h1 | rfl | h1)
    ·exact .inl h1
    ·exact .inl h
    ·exact .inr h1
  ·rw [show S ++ m :: Qh2 (S ++ [m]) l = (S ++ [m]) ++ Qh2 (S ++ [m]) l by simp, Qkg, List.mem_append, List.mem_cons, List.mem_cons, or_assoc]
   simp
theorem Qk0 : ∀ {l S : List Int}, S.Nodup → (S ++ Qh2 S l).Nodup
 | [], S, h => by simpa [Qh2] using h
 | m :: l, S, h => by
  rw [Qh2]
  split
  ·exact Qk0 h
  ·rename_i hm
   rw [show S ++ m :: Qh2 (S ++ [m]) l = (S ++ [m]) ++ Qh2 (S ++ [m]) l by simp]
   refine Qk0 ?_
   rw [List.nodup_append]
   refine ⟨h, by simp, ?_⟩
   intro a ha b hb
   simp at hb
   subst hb
   rintro rfl
   exact hm ha
theorem Qy7 {x : Int} {l S : List Int} (h : x ∈ Qh2 S l) : x ∈ l ∧ x ∉ S := by
 induction l generalizing S with
 | nil => simp [Qh2] at h
 | cons m l ih =>
  rw [Qh2] at h
  split at h
  ·have := ih h; exact ⟨by simp [this.1], this.2⟩
  ·rename_i hm
   rw [List.mem_cons] at h
   rcases h with rfl | h
   ·exact ⟨by simp, hm⟩
   ·have := ih h
    simp at this
    exact ⟨by simp [this.1], fun h => this.2.1 h⟩
def nxt (P : List (List Int)) (x : Int) : List Int := P.filterMap fun e => if e[0]? = some x then e[1]? else none
theorem Xbx {P : List (List Int)} (hP : E2 P) {x y : Int} : y ∈ nxt P x ↔ [x, y] ∈ P := by
 unfold nxt
 rw [List.mem_filterMap]
 constructor
 ·rintro ⟨e, he, h⟩
  obtain ⟨a, b, rfl, _⟩ := hP e he
  simp at h
  obtain ⟨rfl, rfl⟩ := h
  exact he
 ·intro h
  exact ⟨_, h, by simp⟩
def lst (w : List Int) : Int := w.getLast?.getD 0
theorem Qws (w : List Int) (m : Int) : lst (w ++ [m]) = m := by simp [lst]
theorem Xco {w : List Int} (h : w ≠ []) (hl : w.length < 1000000) : rd w (w64 ((w.length : Int) - 1)) = some (lst w) := by
 have h0 : 0 < w.length := List.length_pos_iff.2 h
 rw [Qgo (by omega), show ((w.length : Int) - 1) = ((w.length - 1 : Nat) : Int) by omega, Qdm (by omega)]
 unfold lst
 rw [List.getLast?_eq_getElem?, List.getElem?_eq_getElem (by omega)]
 rfl
theorem Qya {P : List (List Int)} (hP : E2 P) (hl : P.length ≤ 100000) {K0 : List (List Int) → List Int → Int → Option (List Int)} {to i : Int} {w : List Int} (hw : w ≠ []) (hwl : w.length < 1000000) {W : List (List Int)} {S : List Int} : ∀ (n k : Nat) (a : List Int), k ≤ P.length → P.length < n + k → a.length ≤ k →
  Qcm K0 P to i n W w S a k = Qbx K0 P to i (Qoo a (nxt (P.drop k) (lst w))) FU W w S (Qoo a (nxt (P.drop k) (lst w))) 0
 | 0, k, a, h1, h2, _ => by omega
 | n + 1, k, a, h1, h2, h3 => by
  rw [Qcm]
  by_cases hk : k < P.length
  ·obtain ⟨x, y, e, r1, r2, r3, r4⟩ := hP P[k] (List.getElem_mem hk)
   have hd : P.drop k = [x, y] :: P.drop (k + 1) := by rw [List.drop_eq_getElem_cons hk, e]
   have rx : rd [x, y] 0 = some x := rfl
   have ry : rd [x, y] 1 = some y := rfl
   simp only [PS, hk, Qdm hk, e, rx, ry, Xco hw hwl]
   by_cases hx : x = lst w
   ·subst hx
    have hp := Qqx y a
    simp only [PS, Qvc (p := a) (r := y) (by omega), Qcx (k := k) (by omega)]
    rw [hd]
    rw [Qya hP hl hw hwl n (k + 1) (put y a) hk (by omega) (by omega)]
    have : nxt ([lst w, y] :: P.drop (k + 1)) (lst w) = y :: nxt (P.drop (k + 1)) (lst w) := by simp [nxt]
    rw [this]
    rfl
   ·have hb : (x == lst w) = false := by simpa using hx
    simp only [PS, hb, Qcx (k := k) (by omega)]
    rw [hd]
    rw [Qya hP hl hw hwl n (k + 1) a hk (by omega) (by omega)]
    have : nxt ([x, y] :: P.drop (k + 1)) (lst w) = nxt (P.drop (k + 1)) (lst w) := by simp [nxt, hx]
    rw [this]
  ·have : k = P.length := by omega
   subst this
   simp only [PS, List.drop_length]
   simp [nxt, Qoo]
theorem Qxf {P : List (List Int)} {K0 : List (List Int) → List Int → Int → Option (List Int)} {to : Int} {i : Nat} {w : List Int} {nx : List Int} (hnl : nx.length < 1000000) (hr : ∀ x ∈ nx, 0 ≤ x ∧ x < 100) (hwl : w.length < 1000000) (hi : i < 1000000) : ∀ (n k : Nat) (W : List (List Int)) (S : List Int), k ≤ nx.length → nx.length < n + k → W.length < 1000000 + S.length → S.Nodup → (∀ x ∈ S, 0 ≤ x ∧ x < 100) → W[i]? = some w →
    Qbx K0 P to i nx n W w S nx k = if to ∈ nx.drop k then some w else K0 (W ++ (Qh2 S (nx.drop k)).map (fun m => w ++ [m])) (S ++ Qh2 S (nx.drop k)) ((i + 1 : Nat) : Int)
  | 0, k, W, S, h1, h2, _, _, _, _ => by omega
  | n + 1, k, W, S, h1, h2, hWl, hS, hSr, hW => by
    rw [Qbx]
    by_cases hk : k < nx.length
    · have hd : nx.drop k = nx[k] :: nx.drop (k + 1) := List.drop_eq_getElem_cons hk
      have hSl := Qhe 100 S hS hSr
      simp only [PS, hk, Qdm hk]
      rw [hd]
      by_cases ht : nx[k] = to
      · have : (nx[k] == to) = true := by simpa using ht
        simp [this, ht]
      · have hb : (nx[k] == to) = false := by simpa using ht
        have ht' : ¬ to = nx[k] := fun e => ht e.symm
        simp only [PS, hb, Xag (p := S) (x := nx[k]) (by omega)]
        simp only [Bool.false_eq_true, if_false, List.mem_cons, ht', false_or]
        by_cases hm : nx[k] ∈ S
        · have hc : (S.any (· == nx[k])) = true := by simp; exact hm
          simp only [PS, hc, Qcx (k := k) (by omega)]
          rw [Qh2, if_pos hm]
          exact Qxf hnl hr hwl hi n (k + 1) W S hk (by omega) hWl hS hSr hW
        · have hc : (S.any (· == nx[k])) = false := by
            rw [Bool.eq_false_iff]; simp; exact hm
          have hil := (List.getElem?_eq_some_iff.1 hW)
          obtain ⟨hil, hie⟩ := hil
          have a1 : app S [nx[k]] = some (S ++ [nx[k]]) := Qf2 (by simp; omega)
          have a2 : app ([] : List Int) w = some w := by rw [Qf2 (by simp; omega)]; rfl
          have a3 : app w [nx[k]] = some (w ++ [nx[k]]) := Qf2 (by simp; omega)
          have a4 : app W [w ++ [nx[k]]] = some (W ++ [w ++ [nx[k]]]) := Qf2 (by simp; omega)
          have hrd : rd W (i : Int) = some w := by rw [Qur]; exact hW
          simp only [PS, hc, Qcx (k := k) (by omega), a1, Qip, a2, a3, a4, hrd]
          rw [Qh2, if_neg hm]
          have hS' : (S ++ [nx[k]]).Nodup := by
            rw [List.nodup_append]
            refine ⟨hS, by simp, ?_⟩
            intro a ha b hb
            simp at hb
            subst hb
            rintro rfl
            exact hm ha
          rw [Qxf hnl hr hwl hi n (k + 1) (W ++ [w ++ [nx[k]]]) (S ++ [nx[k]]) hk (by omega) (by simp; omega) hS' (fun x hx => by
            rw [List.mem_append, List.mem_singleton] at hx
            rcases hx with hx | rfl
            · exact hSr x hx
            · exact hr _ (List.getElem_mem hk)) (by rw [List.getElem?_append_left hil]; exact hW)]
          simp
    · have : k = nx.length := by omega
      subst this
      have hrd : rd W (i : Int) = some w := by rw [Qur]; exact hW
      have hset : W.set i w = W := by
        obtain ⟨hil, hie⟩ := List.getElem?_eq_some_iff.1 hW
        rw [← hie]; exact List.set_getElem_self _
      simp only [PS, List.drop_length, hrd, Qcx (k := i) (by omega)]
      simp [Qh2, hset]
end Go.Proofs.Ytjcaompblpglcaa
