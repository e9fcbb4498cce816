/- Plain facts for FnExactOrderOf; no condition. -/

import Derived.Test.YtjcaompblpglcaaQFnExactOrderOf
set_option linter.unusedVariables false
set_option linter.unusedSimpArgs false
namespace Go.Proofs.Ytjcaompblpglcaa
open Go Go.T
def tks (p : List Qa0) : List Int := (p.filter (fun e => decide (0 ≤ Qas e))).map Qas
theorem Qx3 {e : Qa0} {l : List Qa0} (h : 0 ≤ Qas e) : tks (e :: l) = Qas e :: tks l := by
 unfold tks; rw [List.filter_cons_of_pos (by simpa using h), List.map_cons]
theorem Xad {e : Qa0} {l : List Qa0} (h : Qas e = -3) : tks (e :: l) = tks l := by
 unfold tks; rw [List.filter_cons_of_neg (by simp; omega)]
theorem Xb5 {p : List Qa0} (hl : p.length ≤ 200) (hg : p.all Qdl = true) {P : List (List Int)} {o : List Int} : ∀ (n k : Nat) (a : List Int), k ≤ p.length → p.length < n + k → a.length ≤ k →
  Qbp p n a P o k = Qb4 FU (Qyp (a ++ tks (p.drop k))) P o
 | 0, k, a, h1, h2, _ => by omega
 | n + 1, k, a, h1, h2, h3 => by
  rw [Qbp]
  by_cases hk : k < p.length
  ·have hge : Qdl p[k] = true := (List.all_eq_true.1 hg) _ (List.getElem_mem hk)
   have hd : p.drop k = p[k] :: p.drop (k + 1) := List.drop_eq_getElem_cons hk
   simp only [PS, hk, Qdm hk, Qih hge, Qcx (k := k) (by omega)]
   rw [hd]
   rcases Qdc hge with h | ⟨r0, r1, _⟩
   ·have : tks (p[k] :: p.drop (k + 1)) = tks (p.drop (k + 1)) := Xad h
    rw [this]
    simpa [h] using Xb5 hl hg n (k + 1) a hk (by omega) (by omega)
   ·have hn : ¬ Qas p[k] = -3 := by omega
    have : tks (p[k] :: p.drop (k + 1)) = Qas p[k] :: tks (p.drop (k + 1)) := Qx3 r0
    rw [this]
    have a1 : app a [Qas p[k]] = some (a ++ [Qas p[k]]) := Qf2 (by simp; omega)
    have := Xb5 hl hg (P := P) (o := o) n (k + 1) (a ++ [Qas p[k]]) hk (by omega) (by simp; omega)
    simpa [hn, r0, a1] using this
  ·have : k = p.length := by omega
   subst this
   have h5 : (a ++ []).length < 1099511627776 := by simp; omega
   simp only [PS, List.drop_length, Qxm (p := a) (by omega)]
   simp [tks]
theorem Xbg {p : List Qa0} (hl : p.length ≤ 200) (hg : p.all Qdl = true) {P : List (List Int)} : ∀ (n k : Nat) (a : List Int), k ≤ p.length → p.length < n + k → a.length ≤ k →
  Qbr p n P a k = Qb7 FU P (Qoo a (tks (p.drop k))) []
 | 0, k, a, h1, h2, _ => by omega
 | n + 1, k, a, h1, h2, h3 => by
  rw [Qbr]
  by_cases hk : k < p.length
  ·have hge : Qdl p[k] = true := (List.all_eq_true.1 hg) _ (List.getElem_mem hk)
   have hd : p.drop k = p[k] :: p.drop (k + 1) := List.drop_eq_getElem_cons hk
   simp only [PS, hk, Qdm hk, Qgn, Qcx (k := k) (by omega)]
   rw [hd]
   rcases Qdc hge with h | ⟨r0, r1, _⟩
   ·have : tks (p[k] :: p.drop (k + 1)) = tks (p.drop (k + 1)) := Xad h
    rw [this]
    simpa [h] using Xbg hl hg n (k + 1) a hk (by omega) (by omega)
   ·have : tks (p[k] :: p.drop (k + 1)) = Qas p[k] :: tks (p.drop (k + 1)) := Qx3 r0
    rw [this]
    have hp := Qqx (Qas p[k]) a
    rw [show Qoo a (Qas p[k] :: tks (p.drop (k + 1))) = Qoo (put (Qas p[k]) a) (tks (p.drop (k + 1))) from rfl]
    have := Xbg hl hg (P := P) n (k + 1) (put (Qas p[k]) a) hk (by omega) (by omega)
    simpa [r0, Qvc (p := a) (r := Qas p[k]) (by omega)] using this
  ·have : k = p.length := by omega
   subst this
   simp only [PS, List.drop_length]
   simp [tks, Qoo]
theorem Qxt {p : List Qa0} {u : Qaj} : ∀ {m : Nat}, u ∈ Qox p m → ∃ i, i < m ∧ 0 ≤ Qas (Qet p i) ∧ u.Taken = Qas (Qet p i) := by
 intro m h
 unfold Qox at h
 rw [List.mem_flatMap] at h
 obtain ⟨i, hi, hu⟩ := h
 unfold Qtz at hu
 split at hu
 ·rename_i h0
  rw [List.mem_map] at hu
  obtain ⟨x, _, rfl⟩ := hu
  exact ⟨i, List.mem_range.1 hi, h0, rfl⟩
 ·simp at hu
theorem Xbz {p : List Qa0} {i : Nat} (hi : i < p.length) (h : 0 ≤ Qas (Qet p i)) : Qas (Qet p i) ∈ tks p := by
 unfold tks
 have he : Qet p i = p[i] := by simp [Qet, hi]
 rw [he] at h ⊢
 exact List.mem_map.2 ⟨p[i], List.mem_filter.2 ⟨List.getElem_mem hi, by simpa using h⟩, rfl⟩
theorem Xdp {p : List Qa0} (hg : p.all Qdl = true) : E2 (prs p) := by
 intro e he
 obtain ⟨u, hu, rfl⟩ := Qyn he
 obtain ⟨h1, h2⟩ := Qu6 hu
 obtain ⟨i, hi, h3, h4⟩ := Qxt hu
 rcases Qdc (Qhu hg hi) with h5 | ⟨h5, h6, _⟩
 ·omega
 ·exact ⟨u.Had, u.Taken, rfl, h1, h2, by omega, by omega⟩
theorem Qxu {p : List Qa0} {a b : Int} (h : [a, b] ∈ prs p) : b ∈ tks p := by
 obtain ⟨u, hu, e⟩ := Qyn h
 obtain ⟨i, hi, h3, h4⟩ := Qxt hu
 simp [pr] at e
 rw [e.2, h4]
 exact Xbz hi h3
theorem Xbo {p : List Qa0} (hg : p.all Qdl = true) : ∀ x ∈ tks p, 0 ≤ x ∧ x < 100 := by
 intro x hx
 unfold tks at hx
 rw [List.mem_map] at hx
 obtain ⟨e, he, rfl⟩ := hx
 rw [List.mem_filter] at he
 rcases Qdc ((List.all_eq_true.1 hg) _ he.1) with h | ⟨h, h2, _⟩
 ·have := he.2; simp at this; omega
 ·omega
theorem Qw7 {p : List Qa0} (hp : Qil p) : ∃ r : List Int × Bool, Qeg p = some r ∧ Qdt p = some r ∧ Qq7 r.1 := by
  have hp' : p.length < 1099511627776 := by have := (show p.length ≤ 1048576 from hp); omega
  rw [Qeg, Qdt]
  simp only [PS, Qqs hp', Qqq hp']
  cases hg : Qw2 p
  · exact ⟨([], false), by simp, by simp, by simp [Qq7]⟩
  · unfold Qw2 at hg
    simp only [Bool.and_eq_true, decide_eq_true_eq] at hg
    obtain ⟨hga, hgl⟩ := hg
    obtain ⟨e1, e2⟩ := Qw6 hgl hga
    have hE := Xdp hga
    have hpl : (prs p).length ≤ 100000 := by have := Xbd (p := p) hgl; omega
    obtain ⟨c, c1, c2, c3⟩ := Qza hE hpl
    have i0 := Xb5 hgl hga (P := prs p) (o := []) FU 0 [] (by omega) (Qdg (by omega)) (by simp)
    have s0 := Xbg hgl hga (P := prs p) FU 0 [] (by omega) (Qdg (by omega)) (by simp)
    rw [List.drop_zero, show ((0 : Nat) : Int) = 0 from rfl] at i0 s0
    rw [List.nil_append] at i0
    rw [Qzi] at s0
    have hnd : (Qyp (tks p)).Nodup := (Qnc (tks p)).imp (fun {a b} h => by omega)
    have hrg : ∀ x ∈ Qyp (tks p), 0 ≤ x ∧ x < 100 := fun x hx => Xbo hga x (Qre.1 hx)
    have hl1 := Qhe 100 _ hnd hrg
    simp only [PS, e1, e2, c1, i0, s0]
    by_cases hc : c = []
    · subst hc
      have hac : ¬ ∃ x, Way (prs p) x x := fun h => absurd rfl (c2.2 h)
      obtain ⟨r, r1, r2, r3⟩ := kahn hE hpl hac _ (Qyp (tks p)) [] FU FU rfl hnd hrg (Qdg (by omega)) (Qdg (by omega)) (by simp; omega)
      refine ⟨(r, true), by simpa using r2, by simpa using r1, ?_⟩
      show r.length ≤ 1048576
      omega
    · obtain ⟨z, hz⟩ := c2.1 hc
      have hcl : 0 < c.length := List.length_pos_iff.2 hc
      have hst := Xcm hE hpl hz _ (Qyp (tks p)) [] FU rfl hnd hrg (fun x h1 h2 => by
        rw [Qre]
        cases h1 with
        | one k => exact Qxu k
        | more _ k => exact Qxu k) (Qdg (by omega)) (by simp; omega)
      refine ⟨([], false), by simp [hcl], by simpa using hst, by simp [Qq7]⟩
theorem Qto (p : List Qa0) (hq : p.length ≤ 9223372036854775807) : Qca p = some true :=
 Qou p hq Qw7
end Go.Proofs.Ytjcaompblpglcaa
