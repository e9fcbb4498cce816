/- Plain facts for FnExactWarnsGuarded; no condition. -/

import Derived.Test.YtihgcgccajikpaaPU3
set_option linter.unusedVariables false
namespace Go.Proofs.Ytihgcgccajikpaa
open Go Go.T

theorem ls_lt (f : Nat → Bool) : ∀ (m a : Nat) (x : Int), x ∈ ls f a m → x < (a + m : Nat)
  | 0, a, x, h => by simp [ls] at h
  | m + 1, a, x, h => by
    unfold ls at h
    split at h
    · rcases List.mem_cons.1 h with rfl | h
      · omega
      · have := ls_lt f m (a + 1) x h; omega
    · have := ls_lt f m (a + 1) x h; omega
theorem undF_had {p : List GEvent} {m : Nat} {u : GUnder} (h : u ∈ undF p m) : 0 ≤ u.Had ∧ u.Had < 100 := by
  unfold undF at h
  rw [List.mem_flatMap] at h
  obtain ⟨i, _, h⟩ := h
  unfold undAt at h
  split at h
  · rw [List.mem_map] at h
    obtain ⟨x, hx, rfl⟩ := h
    have h1 := ls_ge _ _ _ _ hx
    have h2 := ls_lt _ _ _ _ hx
    exact ⟨by simpa using h1, by simpa using h2⟩
  · cases h
def pr (u : GUnder) : List Int := [u.Had, u.Taken]
theorem lstL_ok {p : List (List Int)} (h : p.length < 1099511627776) (h2 : ∀ x ∈ p, x.length < 1099511627776) : lstL p = some (sdL p) := by
  unfold lstL; rw [if_pos ⟨by omega, h2⟩]
theorem impl_lp_l0 {U : List GUnder} (hU : U.length ≤ 100000) : ∀ (n k : Nat) (a : List (List Int)), k ≤ U.length → U.length < n + k → a = (U.take k).map pr → impl_lockPairs_l0 U n a U k = some (sdL (U.map pr))
  | 0, k, a, h1, h2, h3 => by omega
  | n + 1, k, a, h1, h2, h3 => by
    rw [impl_lockPairs_l0]
    by_cases hk : k < U.length
    · have ha : a.length = k := by rw [h3]; simp; omega
      simp only [PS, hk, rd_at hk, app_ok (a := a) (b := [[U[k].Had, U[k].Taken]]) (by simp; omega), w64_s (k := k) (by omega)]
      refine impl_lp_l0 hU n (k + 1) _ hk (by omega) ?_
      rw [h3, List.take_add_one, List.getElem?_eq_getElem hk, List.map_append]
      rfl
    · have : k = U.length := by omega
      subst this
      rw [List.take_length] at h3
      simp only [PS, Nat.lt_irrefl, impl_lists]
      rw [h3, lstL_ok (by simp; omega) (fun x hx => by obtain ⟨u, _, rfl⟩ := List.mem_map.1 hx; simp [pr])]
      rfl
/-- what is taken while a is had -/
def tkn (U : List GUnder) (a : Int) : List Int := (U.filter (fun u => u.Had == a)).map (·.Taken)
def toP (U : List GUnder) (a : Int) : List Int := puts [] (tkn U a)
theorem tkn_len (U : List GUnder) (a : Int) : (tkn U a).length ≤ U.length := by
  unfold tkn; rw [List.length_map]; exact List.length_filter_le _ _
theorem toP_len (U : List GUnder) (a : Int) : (toP U a).length ≤ U.length := by
  have := puts_len [] (tkn U a)
  have h2 := tkn_len U a
  unfold toP
  simp only [List.length_nil] at this
  omega
theorem spec_lp_l2 {K0 : List (List Int) → Int → Option (List (List Int))} {p1 : List GEvent} {v : Int} {T : List Int} (hT : T.length ≤ 100000) {o : List (List Int)} (ho : o.length ≤ 100000000) : ∀ (n k : Nat) (a : List (List Int)), k ≤ T.length → T.length < n + k → a = o ++ (T.take k).map (fun x => [v, x]) →
    spec_l8Pairs_l2 K0 p1 v T n a T k = K0 (o ++ T.map (fun x => [v, x])) (w64 (v + 1))
  | 0, k, a, h1, h2, h3 => by omega
  | n + 1, k, a, h1, h2, h3 => by
    rw [spec_l8Pairs_l2]
    by_cases hk : k < T.length
    · have ha : a.length = o.length + k := by rw [h3]; simp; omega
      simp only [PS, hk, rd_at hk, app_ok (a := a) (b := [[v, T[k]]]) (by simp; omega), w64_s (k := k) (by omega)]
      refine spec_lp_l2 hT ho n (k + 1) _ hk (by omega) ?_
      rw [h3, List.take_add_one, List.getElem?_eq_getElem hk, List.map_append]
      simp
    · have : k = T.length := by omega
      subst this
      simp only [PS, Nat.lt_irrefl]
      rw [h3, List.take_length]
theorem spec_lp_l1 {K0 : List (List Int) → Int → Option (List (List Int))} {p1 : List GEvent} {v : Int} {U : List GUnder} (hU : U.length ≤ 100000) {o : List (List Int)} (ho : o.length ≤ 100000000) : ∀ (n k : Nat) (a : List Int), k ≤ U.length → U.length < n + k → a = puts [] (tkn (U.take k) v) →
    spec_l8Pairs_l1 K0 p1 v U n o a U k = K0 (o ++ (toP U v).map (fun x => [v, x])) (w64 (v + 1))
  | 0, k, a, h1, h2, h3 => by omega
  | n + 1, k, a, h1, h2, h3 => by
    rw [spec_l8Pairs_l1]
    by_cases hk : k < U.length
    · have ha : a.length ≤ k := by
        have h4 := puts_len [] (tkn (U.take k) v)
        have h5 := tkn_len (U.take k) v
        simp only [List.length_nil, List.length_take] at h4 h5
        rw [h3]; omega
      have hs : tkn (U.take (k + 1)) v = tkn (U.take k) v ++ (if U[k].Had = v then [U[k].Taken] else []) := by
        unfold tkn
        rw [List.take_add_one, List.getElem?_eq_getElem hk, List.filter_append, List.map_append]
        congr 1
        by_cases h : U[k].Had = v <;> simp [h]
      simp only [PS, hk, rd_at hk, w64_s (k := k) (by omega), put_eq (p := a) (r := U[k].Taken) (by omega)]
      by_cases h : U[k].Had = v
      · rw [if_pos h] at hs
        simp only [PS, h, beq_self_eq_true]
        refine spec_lp_l1 hU ho n (k + 1) _ hk (by omega) ?_
        rw [hs, h3]
        unfold puts
        rw [List.foldl_append]; rfl
      · rw [if_neg h, List.append_nil] at hs
        have h6 : (U[k].Had == v) = false := by simp [h]
        simp only [PS, h6]
        exact spec_lp_l1 hU ho n (k + 1) _ hk (by omega) (by rw [hs, h3])
    · have : k = U.length := by omega
      subst this
      rw [List.take_length] at h3
      simp only [PS, Nat.lt_irrefl]
      have ht := toP_len U v
      have := spec_lp_l2 (K0 := K0) (p1 := p1) (v := v) (T := a) (by rw [h3]; show (toP U v).length ≤ _; omega) ho FU 0 o (by omega) (FU_gt (by rw [h3]; show (toP U v).length < _; omega)) (by simp)
      rw [show ((0 : Nat) : Int) = 0 from rfl] at this
      rw [this, h3]; rfl
def prsTo (U : List GUnder) (m : Nat) : List (List Int) := (List.range m).flatMap (fun a : Nat => (toP U (a : Int)).map (fun b => [(a : Int), b]))
theorem prsTo_succ (U : List GUnder) (m : Nat) : prsTo U (m + 1) = prsTo U m ++ (toP U (m : Int)).map (fun b => [(m : Int), b]) := by
  unfold prsTo; rw [List.range_succ, List.flatMap_append]; simp
theorem prsTo_len (U : List GUnder) (hU : U.length ≤ 100000) : ∀ m, (prsTo U m).length ≤ 100000 * m
  | 0 => by simp [prsTo]
  | m + 1 => by
    rw [prsTo_succ, List.length_append, List.length_map]
    have := prsTo_len U hU m
    have := toP_len U (m : Int)
    omega
theorem spec_lp_l0 {p : List GEvent} {U : List GUnder} (he : spec_l8Unders p = some U) (hU : U.length ≤ 100000) : ∀ (n m k : Nat), k + m = 100 → m < n → spec_l8Pairs_l0 p n (prsTo U k) k = some (prsTo U 100)
  | 0, m, k, h1, h2 => by omega
  | n + 1, m, k, h1, h2 => by
    rw [spec_l8Pairs_l0]
    by_cases hk : k < 100
    · obtain ⟨m, rfl⟩ : ∃ q, m = q + 1 := ⟨m - 1, by omega⟩
      have hd : decide ((k : Int) < 100) = true := by simp; omega
      simp only [PS, hd, he]
      have hl := prsTo_len U hU k
      have h3 : (prsTo U k).length ≤ 100000000 := Nat.le_trans hl (Nat.le_trans (Nat.mul_le_mul_left 100000 (show k ≤ 100 by omega)) (by decide))
      have := spec_lp_l1 (K0 := spec_l8Pairs_l0 p n) (p1 := p) (v := (k : Int)) (U := U) hU h3 FU 0 [] (by omega) (FU_gt (by omega)) (by simp [tkn, puts])
      rw [show ((0 : Nat) : Int) = 0 from rfl] at this
      rw [this, ← prsTo_succ, w64_s (k := k) (by omega)]
      exact spec_lp_l0 he hU n m (k + 1) (by omega) (by omega)
    · have : k = 100 := by omega
      subst this
      have hd : decide (((100 : Nat) : Int) < 100) = false := by simp
      simp only [PS, hd]
theorem prs_eq {U : List GUnder} (hh : ∀ u ∈ U, 0 ≤ u.Had ∧ u.Had < 100) : prsTo U 100 = sdL (U.map pr) := by
  refine rise_eq _ _ ?_ (sdL_rise _) fun z => ?_
  · unfold prsTo
    rw [List.pairwise_flatMap]
    refine ⟨fun a _ => ?_, ?_⟩
    · rw [List.pairwise_map]
      refine (puts_strict List.Pairwise.nil).imp fun {x y} hxy => ?_
      simp [ltL, cmpL, hxy]
    · refine List.Pairwise.imp (R := fun a b : Nat => a < b) ?_ List.pairwise_lt_range
      intro a b hab x hx y hy
      obtain ⟨x', _, rfl⟩ := List.mem_map.1 hx
      obtain ⟨y', _, rfl⟩ := List.mem_map.1 hy
      have : (a : Int) < (b : Int) := by omega
      simp [ltL, cmpL, this]
  · rw [mem_sdL]
    unfold prsTo
    rw [List.mem_flatMap]
    constructor
    · rintro ⟨a, _, h⟩
      obtain ⟨b, hb, rfl⟩ := List.mem_map.1 h
      unfold toP at hb
      rw [puts_mem] at hb
      rcases hb with hb | hb
      · cases hb
      · unfold tkn at hb
        obtain ⟨u, hu, rfl⟩ := List.mem_map.1 hb
        obtain ⟨hu1, hu2⟩ := List.mem_filter.1 hu
        rw [beq_iff_eq] at hu2
        exact List.mem_map.2 ⟨u, hu1, by rw [pr, hu2]⟩
    · intro h
      obtain ⟨u, hu, rfl⟩ := List.mem_map.1 h
      obtain ⟨h1, h2⟩ := hh u hu
      refine ⟨u.Had.toNat, List.mem_range.2 (by omega), List.mem_map.2 ⟨u.Taken, ?_, by rw [show ((u.Had.toNat : Nat) : Int) = u.Had by omega, pr]⟩⟩
      unfold toP
      rw [puts_mem]
      right
      unfold tkn
      exact List.mem_map.2 ⟨u, List.mem_filter.2 ⟨hu, by rw [beq_iff_eq]; omega⟩, rfl⟩
/-- both give the pairs, in their order, each once -/
def prs (p : List GEvent) : List (List Int) := sdL ((undF p p.length).map pr)
theorem sdL_len : ∀ l : List (List Int), (sdL l).length ≤ l.length
  | [] => by simp [sdL]
  | x :: l => by
    have h : ∀ m : List (List Int), (putLL x m).length ≤ m.length + 1 := by
      intro m
      induction m with
      | nil => simp [putLL]
      | cons y m ih =>
        unfold putLL
        split
        · simp
        · split
          · simp
          · simp; exact ih
    show (putLL x (sdL l)).length ≤ _
    have := h (sdL l)
    have := sdL_len l
    simp; omega
theorem prs_len {p : List GEvent} (hl : p.length ≤ 200) : (prs p).length ≤ 20000 := by
  have h1 := sdL_len ((undF p p.length).map pr)
  have h2 := undF_len p p.length
  rw [List.length_map] at h1
  show (sdL _).length ≤ _
  omega
theorem prs_two {p : List GEvent} {x : List Int} (h : x ∈ prs p) : ∃ u ∈ undF p p.length, x = pr u := by
  unfold prs at h
  rw [mem_sdL, List.mem_map] at h
  obtain ⟨u, hu, rfl⟩ := h
  exact ⟨u, hu, rfl⟩
theorem pairs_both {p : List GEvent} (hl : p.length ≤ 200) (hg : p.all goodE = true) : spec_l8Pairs p = some (prs p) ∧ impl_lockPairs p = some (prs p) := by
  obtain ⟨e1, e2⟩ := unders_both hl hg
  have hu : (undF p p.length).length ≤ 100000 := by have := undF_len p p.length; omega
  constructor
  · rw [spec_l8Pairs]
    have := spec_lp_l0 e1 hu FU 100 0 (by omega) (FU_gt (by omega))
    rw [show ((0 : Nat) : Int) = 0 from rfl] at this
    rw [show ([] : List (List Int)) = prsTo (undF p p.length) 0 from rfl, this, prs_eq fun u h => undF_had h]
    rfl
  · rw [impl_lockPairs, e2, Option.bind_some]
    have := impl_lp_l0 hu FU 0 [] (by omega) (FU_gt (by omega)) (by simp)
    rw [show ((0 : Nat) : Int) = 0 from rfl] at this
    exact this
end Go.Proofs.Ytihgcgccajikpaa
