/- Plain facts for FnExactOrderOf; no condition. -/

import Derived.Test.YtjcaompblpglcaaPU3
set_option linter.unusedVariables false
namespace Go.Proofs.Ytjcaompblpglcaa
open Go Go.T
theorem Xcg (f : Nat → Bool) : ∀ (m a : Nat) (x : Int), x ∈ ls f a m → x < (a + m : Nat)
 | 0, a, x, h => by simp [ls] at h
 | m + 1, a, x, h => by
  unfold ls at h
  split at h
  ·rcases List.mem_cons.1 h with rfl | h
   ·omega
   ·have := Xcg f m (a + 1) x h; omega
  ·have := Xcg f m (a + 1) x h; omega
theorem Qu6 {p : List Qa0} {m : Nat} {u : Qaj} (h : u ∈ Qox p m) : 0 ≤ u.Had ∧ u.Had < 100 := by
 unfold Qox at h
 rw [List.mem_flatMap] at h
 obtain ⟨i, _, h⟩ := h
 unfold Qtz at h
 split at h
 ·rw [List.mem_map] at h
  obtain ⟨x, hx, rfl⟩ := h
  have h1 := Qzy _ _ _ _ hx
  have h2 := Xcg _ _ _ _ hx
  exact ⟨by simpa using h1, by simpa using h2⟩
 ·cases h
def pr (u : Qaj) : List Int := [u.Had, u.Taken]
theorem Xce {p : List (List Int)} (h : p.length < 1099511627776) (h2 : ∀ x ∈ p, x.length < 1099511627776) : lstL p = some (sdL p) := by
 unfold lstL; rw [if_pos ⟨by omega, h2⟩]
theorem Qpl {U : List Qaj} (hU : U.length ≤ 100000) : ∀ (n k : Nat) (a : List (List Int)), k ≤ U.length → U.length < n + k → a = (U.take k).map pr → Qbj U n a U k = some (sdL (U.map pr))
 | 0, k, a, h1, h2, h3 => by omega
 | n + 1, k, a, h1, h2, h3 => by
  rw [Qbj]
  by_cases hk : k < U.length
  ·have ha : a.length = k := by rw [h3]; simp; omega
   simp only [PS, hk, Qdm hk, Qf2 (a := a) (b := [[U[k].Had, U[k].Taken]]) (by simp; omega), Qcx (k := k) (by omega)]
   refine Qpl hU n (k + 1) _ hk (by omega) ?_
   rw [h3, List.take_add_one, List.getElem?_eq_getElem hk, List.map_append]
   rfl
  ·have : k = U.length := by omega
   subst this
   rw [List.take_length] at h3
   simp only [PS, Nat.lt_irrefl, Qid]
   rw [h3, Xce (by simp; omega) (fun x hx => by obtain ⟨u, _, rfl⟩ := List.mem_map.1 hx; simp [pr])]
   rfl
def tkn (U : List Qaj) (a : Int) : List Int := (U.filter (fun u => u.Had == a)).map (·.Taken)
def toP (U : List Qaj) (a : Int) : List Int := Qoo [] (tkn U a)
theorem Qxz (U : List Qaj) (a : Int) : (tkn U a).length ≤ U.length := by
 unfold tkn; rw [List.length_map]; exact List.length_filter_le _ _
theorem Qx4 (U : List Qaj) (a : Int) : (toP U a).length ≤ U.length := by
 have := Qqf [] (tkn U a)
 have h2 := Qxz U a
 unfold toP
 simp only [List.length_nil] at this
 omega
theorem Qq4 {K0 : List (List Int) → Int → Option (List (List Int))} {p1 : List Qa0} {v : Int} {T : List Int} (hT : T.length ≤ 100000) {o : List (List Int)} (ho : o.length ≤ 100000000) : ∀ (n k : Nat) (a : List (List Int)), k ≤ T.length → T.length < n + k → a = o ++ (T.take k).map (fun x => [v, x]) →
  Qc8 K0 p1 v T n a T k = K0 (o ++ T.map (fun x => [v, x])) (w64 (v + 1))
 | 0, k, a, h1, h2, h3 => by omega
 | n + 1, k, a, h1, h2, h3 => by
  rw [Qc8]
  by_cases hk : k < T.length
  ·have ha : a.length = o.length + k := by rw [h3]; simp; omega
   simp only [PS, hk, Qdm hk, Qf2 (a := a) (b := [[v, T[k]]]) (by simp; omega), Qcx (k := k) (by omega)]
   refine Qq4 hT ho n (k + 1) _ hk (by omega) ?_
   rw [h3, List.take_add_one, List.getElem?_eq_getElem hk, List.map_append]
   simp
  ·have : k = T.length := by omega
   subst this
   simp only [PS, Nat.lt_irrefl]
   rw [h3, List.take_length]
theorem Ql7 {K0 : List (List Int) → Int → Option (List (List Int))} {p1 : List Qa0} {v : Int} {U : List Qaj} (hU : U.length ≤ 100000) {o : List (List Int)} (ho : o.length ≤ 100000000) : ∀ (n k : Nat) (a : List Int), k ≤ U.length → U.length < n + k → a = Qoo [] (tkn (U.take k) v) →
  Qbq K0 p1 v U n o a U k = K0 (o ++ (toP U v).map (fun x => [v, x])) (w64 (v + 1))
 | 0, k, a, h1, h2, h3 => by omega
 | n + 1, k, a, h1, h2, h3 => by
  rw [Qbq]
  by_cases hk : k < U.length
  ·have ha : a.length ≤ k := by
    have h4 := Qqf [] (tkn (U.take k) v)
    have h5 := Qxz (U.take k) v
    simp only [List.length_nil, List.length_take] at h4 h5
    rw [h3]; omega
   have hs : tkn (U.take (k + 1)) v = tkn (U.take k) v ++ (if U[k].Had = v then [U[k].Taken] else []) := by
    unfold tkn
    rw [List.take_add_one, List.getElem?_eq_getElem hk, List.filter_append, List.map_append]
    congr 1
    by_cases h : U[k].Had = v <;> simp [h]
   simp only [PS, hk, Qdm hk, Qcx (k := k) (by omega), Qvc (p := a) (r := U[k].Taken) (by omega)]
   by_cases h : U[k].Had = v
   ·rw [if_pos h] at hs
    simp only [PS, h, beq_self_eq_true]
    refine Ql7 hU ho n (k + 1) _ hk (by omega) ?_
    rw [hs, h3]
    unfold Qoo
    rw [List.foldl_append]; rfl
   ·rw [if_neg h, List.append_nil] at hs
    have h6 : (U[k].Had == v) = false := by simp [h]
    simp only [PS, h6]
    exact Ql7 hU ho n (k + 1) _ hk (by omega) (by rw [hs, h3])
  ·have : k = U.length := by omega
   subst this
   rw [List.take_length] at h3
   simp only [PS, Nat.lt_irrefl]
   have ht := Qx4 U v
   have := Qq4 (K0 := K0) (p1 := p1) (v := v) (T := a) (by rw [h3]; show (toP U v).length ≤ _; omega) ho FU 0 o (by omega) (Qdg (by rw [h3]; show (toP U v).length < _; omega)) (by simp)
   rw [show ((0 : Nat) : Int) = 0 from rfl] at this
   rw [this, h3]; rfl
def Qmf (U : List Qaj) (m : Nat) : List (List Int) := (List.range m).flatMap (fun a : Nat => (toP U (a : Int)).map (fun b => [(a : Int), b]))
theorem Qq3 (U : List Qaj) (m : Nat) : Qmf U (m + 1) = Qmf U m ++ (toP U (m : Int)).map (fun b => [(m : Int), b]) := by
 unfold Qmf; rw [List.range_succ, List.flatMap_append]; simp
theorem Qsi (U : List Qaj) (hU : U.length ≤ 100000) : ∀ m, (Qmf U m).length ≤ 100000 * m
 | 0 => by simp [Qmf]
 | m + 1 => by
  rw [Qq3, List.length_append, List.length_map]
  have := Qsi U hU m
  have := Qx4 U (m : Int)
  omega
theorem Qq0 {p : List Qa0} {U : List Qaj} (he : Qdw p = some U) (hU : U.length ≤ 100000) : ∀ (n m k : Nat), k + m = 100 → m < n → Qbn p n (Qmf U k) k = some (Qmf U 100)
 | 0, m, k, h1, h2 => by omega
 | n + 1, m, k, h1, h2 => by
  rw [Qbn]
  by_cases hk : k < 100
  ·obtain ⟨m, rfl⟩ : ∃ q, m = q + 1 := ⟨m - 1, by omega⟩
   have hd : decide ((k : Int) < 100) = true := by simp; omega
   simp only [PS, hd, he]
   have hl := Qsi U hU k
   have h3 : (Qmf U k).length ≤ 100000000 := Nat.le_trans hl (Nat.le_trans (Nat.mul_le_mul_left 100000 (show k ≤ 100 by omega)) (by decide))
   have := Ql7 (K0 := Qbn p n) (p1 := p) (v := (k : Int)) (U := U) hU h3 FU 0 [] (by omega) (Qdg (by omega)) (by simp [tkn, Qoo])
   rw [show ((0 : Nat) : Int) = 0 from rfl] at this
   rw [this, ← Qq3, Qcx (k := k) (by omega)]
   exact Qq0 he hU n m (k + 1) (by omega) (by omega)
  ·have : k = 100 := by omega
   subst this
   have hd : decide (((100 : Nat) : Int) < 100) = false := by simp
   simp only [PS, hd]
theorem Xdk {U : List Qaj} (hh : ∀ u ∈ U, 0 ≤ u.Had ∧ u.Had < 100) : Qmf U 100 = sdL (U.map pr) := by
 refine Qu2 _ _ ?_ (Qqz _) fun z => ?_
 ·unfold Qmf
  rw [List.pairwise_flatMap]
  refine ⟨fun a _ => ?_, ?_⟩
  ·rw [List.pairwise_map]
   refine (Qnu List.Pairwise.nil).imp fun {x y} hxy => ?_
   simp [ltL, Qim, hxy]
  ·refine List.Pairwise.imp (R := fun a b : Nat => a < b) ?_ List.pairwise_lt_range
   intro a b hab x hx y hy
   obtain ⟨x', _, rfl⟩ := List.mem_map.1 hx
   obtain ⟨y', _, rfl⟩ := List.mem_map.1 hy
   have : (a : Int) < (b : Int) := by omega
   simp [ltL, Qim, this]
 ·rw [Qqh]
  unfold Qmf
  rw [List.mem_flatMap]
  constructor
  ·rintro ⟨a, _, h⟩
   obtain ⟨b, hb, rfl⟩ := List.mem_map.1 h
   unfold toP at hb
   rw [Qmz] at hb
   rcases hb with hb | hb
   ·cases hb
   ·unfold tkn at hb
    obtain ⟨u, hu, rfl⟩ := List.mem_map.1 hb
    obtain ⟨hu1, hu2⟩ := List.mem_filter.1 hu
    rw [beq_iff_eq] at hu2
    exact List.mem_map.2 ⟨u, hu1, by rw [pr, hu2]⟩
  ·intro h
   obtain ⟨u, hu, rfl⟩ := List.mem_map.1 h
   obtain ⟨h1, h2⟩ := hh u hu
   refine ⟨u.Had.toNat, List.mem_range.2 (by omega), List.mem_map.2 ⟨u.Taken, ?_, by rw [show ((u.Had.toNat : Nat) : Int) = u.Had by omega, pr]⟩⟩
   unfold toP
   rw [Qmz]
   right
   unfold tkn
   exact List.mem_map.2 ⟨u, List.mem_filter.2 ⟨hu, by rw [beq_iff_eq]; omega⟩, rfl⟩
def prs (p : List Qa0) : List (List Int) := sdL ((Qox p p.length).map pr)
theorem Qxq : ∀ l : List (List Int), (sdL l).length ≤ l.length
 | [] => by simp [sdL]
 | x :: l => by
  have h : ∀ m : List (List Int), (Qlr x m).length ≤ m.length + 1 := by
   intro m
   induction m with
   | nil => simp [Qlr]
   | cons y m ih =>
    unfold Qlr
    split
    ·simp
    ·split
     ·simp
     ·simp; exact ih
  show (Qlr x (sdL l)).length ≤ _
  have := h (sdL l)
  have := Qxq l
  simp; omega
theorem Xbd {p : List Qa0} (hl : p.length ≤ 200) : (prs p).length ≤ 20000 := by
 have h1 := Qxq ((Qox p p.length).map pr)
 have h2 := Qmv p p.length
 rw [List.length_map] at h1
 show (sdL _).length ≤ _
 omega
theorem Qyn {p : List Qa0} {x : List Int} (h : x ∈ prs p) : ∃ u ∈ Qox p p.length, x = pr u := by
 unfold prs at h
 rw [Qqh, List.mem_map] at h
 obtain ⟨u, hu, rfl⟩ := h
 exact ⟨u, hu, rfl⟩
theorem Qw6 {p : List Qa0} (hl : p.length ≤ 200) (hg : p.all Qdl = true) : Qf0 p = some (prs p) ∧ Qe8 p = some (prs p) := by
 obtain ⟨e1, e2⟩ := Qt9 hl hg
 have hu : (Qox p p.length).length ≤ 100000 := by have := Qmv p p.length; omega
 constructor
 ·rw [Qf0]
  have := Qq0 e1 hu FU 100 0 (by omega) (Qdg (by omega))
  rw [show ((0 : Nat) : Int) = 0 from rfl] at this
  rw [show ([] : List (List Int)) = Qmf (Qox p p.length) 0 from rfl, this, Xdk fun u h => Qu6 h]
  rfl
 ·rw [Qe8, e2, Option.bind_some]
  have := Qpl hu FU 0 [] (by omega) (Qdg (by omega)) (by simp)
  rw [show ((0 : Nat) : Int) = 0 from rfl] at this
  exact this
end Go.Proofs.Ytjcaompblpglcaa
