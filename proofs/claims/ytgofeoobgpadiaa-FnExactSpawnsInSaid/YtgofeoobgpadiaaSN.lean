/- Plain facts for FnExactSpawnsIn; no condition. -/

import Derived.Test.YtgofeoobgpadiaaQFnExactSpawnsIn
set_option linter.unusedVariables false
namespace Go.Proofs.Ytgofeoobgpadiaa
open Go Go.T

/-- what is spawned in a row of operations -/
def spw : List GOp → List Int
  | [] => []
  | o :: x => if o.Code = 14 then o.A :: spw x else spw x
theorem spw_len : ∀ x : List GOp, (spw x).length ≤ x.length
  | [] => by simp [spw]
  | o :: x => by
    have := spw_len x
    unfold spw
    split <;> simp <;> omega
theorem impl_sp_l1 {p : GProg} {x : List GOp} {v : Int} {K : List Int → Int → Option (List Int × Bool)} (hx : x.length ≤ 24) : ∀ (n m k : Nat) (a : List Int), k + m = x.length → m < n → a.length + m ≤ 1000 →
    impl_SpawnsIn_l1 K p v x n a k = K (a ++ spw (x.drop k)) (w64 (v + 1))
  | 0, m, k, a, h1, h2, h3 => by omega
  | n + 1, 0, k, a, h1, h2, h3 => by
    rw [impl_SpawnsIn_l1]
    have : k = x.length := by omega
    subst this
    simp only [PS, Nat.lt_irrefl]
    simp [spw]
  | n + 1, m + 1, k, a, h1, h2, h3 => by
    rw [impl_SpawnsIn_l1]
    have hk : k < x.length := by omega
    rw [List.drop_eq_getElem_cons hk, spw]
    simp only [PS, hk, rd_at hk, w64_s (k := k) (by omega), app_ok (a := a) (b := [x[k].A]) (by simp; omega)]
    by_cases h : x[k].Code = 14
    · rw [if_pos h, show (x[k].Code == 14) = true by simp [h]]
      simp only [if_true]
      rw [impl_sp_l1 hx n m (k + 1) (a ++ [x[k].A]) (by omega) (by omega) (by simp; omega), List.append_assoc]
      rfl
    · rw [if_neg h, show (x[k].Code == 14) = false by simp [h]]
      simp only [Bool.false_eq_true, if_false]
      exact impl_sp_l1 hx n m (k + 1) a (by omega) (by omega) (by omega)
theorem spec_sp_l1 {p : GProg} {x : List GOp} {v : Int} {K : List Int → Int → Option (List Int × Bool)} (hx : x.length ≤ 24) : ∀ (n m k : Nat) (a : List Int), k + m = x.length → m < n → a.length + m ≤ 1000 →
    spec_SpawnsIn_l1 K p v x n a k = K (puts a (spw (x.drop k))) (w64 (v + 1))
  | 0, m, k, a, h1, h2, h3 => by omega
  | n + 1, 0, k, a, h1, h2, h3 => by
    rw [spec_SpawnsIn_l1]
    have : k = x.length := by omega
    subst this
    simp only [PS, Nat.lt_irrefl]
    simp [spw, puts]
  | n + 1, m + 1, k, a, h1, h2, h3 => by
    rw [spec_SpawnsIn_l1]
    have hk : k < x.length := by omega
    have hp := put_len x[k].A a
    rw [List.drop_eq_getElem_cons hk, spw]
    simp only [PS, hk, rd_at hk, w64_s (k := k) (by omega), put_eq (p := a) (r := x[k].A) (by omega)]
    by_cases h : x[k].Code = 14
    · rw [if_pos h, show (x[k].Code == 14) = true by simp [h]]
      simp only [if_true]
      rw [spec_sp_l1 hx n m (k + 1) (put x[k].A a) (by omega) (by omega) (by omega)]
      rfl
    · rw [if_neg h, show (x[k].Code == 14) = false by simp [h]]
      simp only [Bool.false_eq_true, if_false]
      exact spec_sp_l1 hx n m (k + 1) a (by omega) (by omega) (by omega)
/-- what is spawned in all rows -/
def spws : List (List GOp) → List Int
  | [] => []
  | x :: r => spw x ++ spws r
theorem spws_len : ∀ {r : List (List GOp)}, (∀ x ∈ r, x.length ≤ 24) → (spws r).length ≤ 24 * r.length
  | [], h => by simp [spws]
  | x :: r, h => by
    have h1 := spws_len (r := r) (fun y hy => h y (List.mem_cons_of_mem _ hy))
    have h2 := spw_len x
    have h3 := h x List.mem_cons_self
    simp only [spws, List.length_append, List.length_cons]
    omega
theorem impl_sp_l0 {p : GProg} (hr : p.Routines.length ≤ 4) (hx : ∀ x ∈ p.Routines, x.length ≤ 24) : ∀ (n m k : Nat) (a : List Int), k + m = p.Routines.length → m < n → a.length + 24 * m ≤ 100 →
    impl_SpawnsIn_l0 p n a k = some (setL (a ++ spws (p.Routines.drop k)), true)
  | 0, m, k, a, h1, h2, h3 => by omega
  | n + 1, 0, k, a, h1, h2, h3 => by
    rw [impl_SpawnsIn_l0]
    have : k = p.Routines.length := by omega
    subst this
    simp only [PS, Nat.lt_irrefl, rising_eq (p := a) (by omega)]
    simp [spws]
  | n + 1, m + 1, k, a, h1, h2, h3 => by
    rw [impl_SpawnsIn_l0]
    have hk : k < p.Routines.length := by omega
    have hl := hx p.Routines[k] (List.getElem_mem hk)
    have h5 := impl_sp_l1 (p := p) (x := p.Routines[k]) (v := (k : Int)) (K := impl_SpawnsIn_l0 p n) hl FU p.Routines[k].length 0 a (by omega) (FU_gt (by omega)) (by omega)
    have h6 := spw_len p.Routines[k]
    rw [List.drop_zero, show ((0 : Nat) : Int) = 0 from rfl] at h5
    rw [List.drop_eq_getElem_cons hk, spws]
    simp only [PS, hk, rd_at hk, h5, w64_s (k := k) (by omega)]
    rw [impl_sp_l0 hr hx n m (k + 1) (a ++ spw p.Routines[k]) (by omega) (by omega) (by rw [List.length_append]; omega), List.append_assoc]
theorem puts_app (a b c : List Int) : puts a (b ++ c) = puts (puts a b) c := by simp [puts, List.foldl_append]
theorem spec_sp_l0 {p : GProg} (hr : p.Routines.length ≤ 4) (hx : ∀ x ∈ p.Routines, x.length ≤ 24) : ∀ (n m k : Nat) (a : List Int), k + m = p.Routines.length → m < n → a.length + 24 * m ≤ 100 →
    spec_SpawnsIn_l0 p n a k = some (puts a (spws (p.Routines.drop k)), true)
  | 0, m, k, a, h1, h2, h3 => by omega
  | n + 1, 0, k, a, h1, h2, h3 => by
    rw [spec_SpawnsIn_l0]
    have : k = p.Routines.length := by omega
    subst this
    simp only [PS, Nat.lt_irrefl]
    simp [spws, puts]
  | n + 1, m + 1, k, a, h1, h2, h3 => by
    rw [spec_SpawnsIn_l0]
    have hk : k < p.Routines.length := by omega
    have hl := hx p.Routines[k] (List.getElem_mem hk)
    have h5 := spec_sp_l1 (p := p) (x := p.Routines[k]) (v := (k : Int)) (K := spec_SpawnsIn_l0 p n) hl FU p.Routines[k].length 0 a (by omega) (FU_gt (by omega)) (by omega)
    have h6 := spw_len p.Routines[k]
    have h7 := puts_len a (spw p.Routines[k])
    rw [List.drop_zero, show ((0 : Nat) : Int) = 0 from rfl] at h5
    rw [List.drop_eq_getElem_cons hk, spws]
    simp only [PS, hk, rd_at hk, h5, w64_s (k := k) (by omega)]
    rw [spec_sp_l0 hr hx n m (k + 1) (puts a (spw p.Routines[k])) (by omega) (by omega) (by omega), puts_app]
theorem goodP_len {p : GProg} (h : goodP p = true) : p.Routines.length ≤ 4 ∧ ∀ x ∈ p.Routines, x.length ≤ 24 := by
  unfold goodP at h
  simp only [Bool.and_eq_true, List.all_eq_true, decide_eq_true_eq, inr] at h
  obtain ⟨⟨_, h1⟩, h2⟩ := h
  exact ⟨by omega, fun x hx => (h2 x hx).1⟩
theorem law_SpawnsIn (x0 : GProg) (g0 : wfGProg x0) : laws_FnExactSpawnsIn x0 = some true := by
  refine law_SpawnsIn_of x0 g0 fun sm0 => ?_
  rw [spec_SpawnsIn, impl_SpawnsIn, spec_goodProg sm0 g0, impl_goodProg sm0]
  cases hg : goodP x0
  · exact ⟨([], false), by simp, by simp, by show ([] : List Int).length ≤ 1048576; simp⟩
  · obtain ⟨h1, h2⟩ := goodP_len hg
    have s1 := spec_sp_l0 h1 h2 FU x0.Routines.length 0 [] (by omega) (FU_gt (by omega)) (by simp; omega)
    have s2 := impl_sp_l0 h1 h2 FU x0.Routines.length 0 [] (by omega) (FU_gt (by omega)) (by simp; omega)
    rw [show ((0 : Nat) : Int) = 0 from rfl] at s1 s2
    simp only [PS, s1, s2, List.drop_zero, List.nil_append, puts_set]
    refine ⟨_, rfl, rfl, ?_⟩
    have h3 := setL_len (spws x0.Routines)
    have h4 := spws_len h2
    show (setL (spws x0.Routines)).length ≤ 1048576
    omega
end Go.Proofs.Ytgofeoobgpadiaa
