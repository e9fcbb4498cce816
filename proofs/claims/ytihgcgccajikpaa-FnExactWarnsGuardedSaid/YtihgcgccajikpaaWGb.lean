/- Plain facts for FnExactWarnsGuarded; no condition. -/

import Derived.Test.YtihgcgccajikpaaWG
set_option linter.unusedVariables false
namespace Go.Proofs.Ytihgcgccajikpaa
open Go Go.T

theorem sg_l3 {K0 : (List Int) → (List Int) → (List Int) → Bool → (List GUnder) → Int → Option ((List Int) × Bool × Bool)} {p1 : List GEvent} {p2 p3 v10 : Int} {r4 a33 : List GUnder} {r o t : List Int} (hr : r.length < 1000000) : ∀ (n k : Nat) (x : List Int), k ≤ r.length → r.length < n + k → x.length ≤ k → spec_l8Gate_l3 K0 p1 p2 p3 r4 v10 r n o t r x a33 k = K0 (x ++ both_ (r.drop k) r) o t false a33 (w64 (v10 + 1))
  | 0, k, x, h1, h2, h3 => by omega
  | n + 1, k, x, h1, h2, h3 => by
    rw [spec_l8Gate_l3]
    by_cases hk : k < r.length
    · rw [List.drop_eq_getElem_cons hk]
      simp only [PS, hk, rd_at hk, has_eq hr, w64_s (k := k) (by omega), app_ok (a := x) (b := [r[k]]) (by simp; omega), sg_l3 hr n (k + 1) (x ++ [r[k]]) hk (by omega) (by simp; omega), sg_l3 hr n (k + 1) x hk (by omega) (by omega)]
      unfold both_
      rw [List.filter_cons]
      cases r.any (· == r[k]) <;> simp
    · have : k = r.length := by omega
      subst this
      simp [both_]
theorem sg_l4 {K0 : (List Int) → (List Int) → (List Int) → Bool → (List GUnder) → Int → Option ((List Int) × Bool × Bool)} {p1 : List GEvent} {p2 p3 v10 : Int} {r4 a33 : List GUnder} {a b o t : List Int} (ha : a.length < 1000000) (hb : b.length < 1000000) : ∀ (n k : Nat) (x : List Int), k ≤ a.length → a.length < n + k → x.length ≤ k → spec_l8Gate_l4 K0 p1 p2 p3 r4 v10 a n o t b x a33 a k = K0 (x ++ both_ (a.drop k) b) o t false a33 (w64 (v10 + 1))
  | 0, k, x, h1, h2, h3 => by omega
  | n + 1, k, x, h1, h2, h3 => by
    rw [spec_l8Gate_l4]
    by_cases hk : k < a.length
    · rw [List.drop_eq_getElem_cons hk]
      simp only [PS, hk, rd_at hk, has_eq hb, w64_s (k := k) (by omega), app_ok (a := x) (b := [a[k]]) (by simp; omega), sg_l4 ha hb n (k + 1) (x ++ [a[k]]) hk (by omega) (by simp; omega), sg_l4 ha hb n (k + 1) x hk (by omega) (by omega)]
      unfold both_
      rw [List.filter_cons]
      cases b.any (· == a[k]) <;> simp
    · have : k = a.length := by omega
      subst this
      simp [both_]
/-- the threads of one order, and of the other -/
def thr1 (U : List GUnder) (a b : Int) : List Int := puts [] ((U.filter (fun u => selB a b u && u.Had == a)).map (·.Thread))
def thr2 (U : List GUnder) (a b : Int) : List Int := puts [] ((U.filter (fun u => selB a b u && !(u.Had == a))).map (·.Thread))
def unl (l m : List Int) : Bool := decide (1 < l.length) || decide (1 < m.length) || (decide (0 < l.length) && decide (0 < m.length) && l.getD 0 0 != m.getD 0 0)
theorem puts_snoc (c : List Int) (x : Int) : puts [] (c ++ [x]) = put x (puts [] c) := by unfold puts; rw [List.foldl_append]; rfl
theorem sel_len (U : List GUnder) (f : GUnder → Bool) : (puts [] ((U.filter f).map (·.Thread))).length ≤ U.length := by
  have h1 := puts_len [] ((U.filter f).map (·.Thread))
  have h2 := List.length_filter_le f U
  rw [List.length_map, List.length_nil] at h1
  omega
theorem thr_step {U : List GUnder} {k : Nat} (hk : k < U.length) (f : GUnder → Bool) : puts [] (((U.take (k + 1)).filter f).map (·.Thread)) = if f (uAt U k) = true then put (uAt U k).Thread (puts [] (((U.take k).filter f).map (·.Thread))) else puts [] (((U.take k).filter f).map (·.Thread)) := by
  rw [uAt_take hk]
  cases hf : f (uAt U k)
  · simp
  · simp only [if_true, List.map_append, List.map_cons, List.map_nil, puts_snoc]
theorem filt2 (a b : Int) (l : List Int) : (l.filter (· != a)).filter (· != b) = l.filter (notB a b) := by
  rw [List.filter_filter]
  apply List.filter_congr
  intro x _
  unfold notB
  simp only [bne]
  cases x == a <;> cases x == b <;> rfl
section
variable {p : List GEvent} (hl : p.length ≤ 200) (hg : p.all goodE = true)
include hl hg
theorem gate_spec {a b : Int} : ∀ (n k : Nat), k ≤ (undF p p.length).length → (undF p p.length).length < n + k →
    spec_l8Gate_l0 p a b (undF p p.length) n (((gac p (undF p p.length) a b k).getD []).filter (notB a b)) (thr1 ((undF p p.length).take k) a b) (thr2 ((undF p p.length).take k) a b) (gac p (undF p p.length) a b k).isNone (undF p p.length) k =
      some (((gac p (undF p p.length) a b (undF p p.length).length).getD []).filter (notB a b), decide (0 < (thr1 (undF p p.length) a b).length) && decide (0 < (thr2 (undF p p.length) a b).length), unl (thr1 (undF p p.length) a b) (thr2 (undF p p.length) a b))
  | 0, k, h1, h2 => by omega
  | n + 1, k, h1, h2 => by
    have hul := undF_len p p.length
    rw [spec_l8Gate_l0]
    by_cases hk : k < (undF p p.length).length
    · have ih := gate_spec (a := a) (b := b) n (k + 1) hk (by omega)
      have hb := (bef_both hl hg (uAt_mem hk)).1
      have hlb : (bef p (uAt (undF p p.length) k)).length ≤ 100 := locks_len _
      have hga := gac_len (p := p) (U := undF p p.length) (a := a) (b := b) k
      have ts1 := thr_step hk (fun u => selB a b u && u.Had == a)
      have ts2 := thr_step hk (fun u => selB a b u && !(u.Had == a))
      have l1 := sel_len ((undF p p.length).take k) (fun u => selB a b u && u.Had == a)
      have l2 := sel_len ((undF p p.length).take k) (fun u => selB a b u && !(u.Had == a))
      simp only [List.length_take] at l1 l2
      change thr1 _ a b = _ at ts1
      change thr2 _ a b = _ at ts2
      change (thr1 _ a b).length ≤ _ at l1
      change (thr2 _ a b).length ≤ _ at l2
      rw [ts1, ts2] at ih
      change spec_l8Gate_l0 p a b _ n _ (if _ then put _ (thr1 _ a b) else thr1 _ a b) (if _ then put _ (thr2 _ a b) else thr2 _ a b) _ _ _ = _ at ih
      generalize hu : uAt (undF p p.length) k = u at ih hb hlb
      have hr27 : ((bef p u).filter (notB a b)).length ≤ 100 := Nat.le_trans (List.length_filter_le _ _) hlb
      simp only [PS, hk, uAt_rd hk, hu, w64_s (k := k) (by omega)]
      have j2 : ∀ o t : List Int, selB a b u = true → spec_l8Gate_j2 (spec_l8Gate_l0 p a b (undF p p.length) n) p a b (undF p p.length) (gac p (undF p p.length) a b k).isNone k (((gac p (undF p p.length) a b k).getD []).filter (notB a b)) o t u (undF p p.length) = spec_l8Gate_l0 p a b (undF p p.length) n (((gac p (undF p p.length) a b (k + 1)).getD []).filter (notB a b)) o t (gac p (undF p p.length) a b (k + 1)).isNone (undF p p.length) ((k + 1 : Nat) : Int) := by
        intro o t hs
        have ea : gac p (undF p p.length) a b (k + 1) = some (nxA (bef p u) (gac p (undF p p.length) a b k)) := by rw [gac, hu, if_pos hs]
        have d1 : spec_l7Drop (bef p u) a = some ((bef p u).filter (· != a)) := drop_eq (by omega)
        have d2 : spec_l7Drop ((bef p u).filter (· != a)) b = some ((bef p u).filter (notB a b)) := by
          rw [drop_eq (by have := List.length_filter_le (· != a) (bef p u); omega), filt2]
        rw [spec_l8Gate_j2, ea]
        simp only [PS, hb, d1, d2]
        cases h5 : gac p (undF p p.length) a b k with
        | none =>
          have := sg_l3 (K0 := spec_l8Gate_l0 p a b (undF p p.length) n) (p1 := p) (p2 := a) (p3 := b) (v10 := (k : Int)) (r4 := undF p p.length) (a33 := undF p p.length) (r := (bef p u).filter (notB a b)) (o := o) (t := t) (by omega) FU 0 [] (by omega) (by have := FU_gt (n := ((bef p u).filter (notB a b)).length) (by omega); omega) (by simp)
          rw [show ((0 : Nat) : Int) = 0 from rfl] at this
          simp only [Option.isNone_none, if_true, this, List.drop_zero, List.nil_append, both_self, nxA, Option.getD_some, Option.isNone_some, w64_s (k := k) (show k < 4611686018427387904 by omega)]
        | some x =>
          rw [h5] at hga
          simp only [Option.getD_some] at hga
          have hx : (x.filter (notB a b)).length ≤ 100 := Nat.le_trans (List.length_filter_le _ _) hga
          have := sg_l4 (K0 := spec_l8Gate_l0 p a b (undF p p.length) n) (p1 := p) (p2 := a) (p3 := b) (v10 := (k : Int)) (r4 := undF p p.length) (a33 := undF p p.length) (a := x.filter (notB a b)) (b := (bef p u).filter (notB a b)) (o := o) (t := t) (by omega) (by omega) FU 0 [] (by omega) (by have := FU_gt (n := (x.filter (notB a b)).length) (by omega); omega) (by simp)
          rw [show ((0 : Nat) : Int) = 0 from rfl] at this
          simp only [Option.isNone_some, Bool.false_eq_true, if_false, Option.getD_some, this, List.drop_zero, List.nil_append, both_filter, nxA, w64_s (k := k) (show k < 4611686018427387904 by omega)]
      have j1 : selB a b u = true → spec_l8Gate_j1 (spec_l8Gate_l0 p a b (undF p p.length) n) p a b (undF p p.length) (((gac p (undF p p.length) a b k).getD []).filter (notB a b)) (thr1 ((undF p p.length).take k) a b) (thr2 ((undF p p.length).take k) a b) (gac p (undF p p.length) a b k).isNone (undF p p.length) k u = 
          some (((gac p (undF p p.length) a b (undF p p.length).length).getD []).filter (notB a b), decide (0 < (thr1 (undF p p.length) a b).length) && decide (0 < (thr2 (undF p p.length) a b).length), unl (thr1 (undF p p.length) a b) (thr2 (undF p p.length) a b)) := by
        intro hs
        rw [spec_l8Gate_j1]
        cases hc : u.Had == a
        · simp only [hs, hc, Bool.and_false, Bool.not_false, Bool.and_true, Bool.false_eq_true, if_false, if_true] at ih
          simp only [PS, put_eq (p := thr2 ((undF p p.length).take k) a b) (r := u.Thread) (by omega), j2 _ _ hs]
          exact ih
        · simp only [hs, hc, Bool.and_true, Bool.not_true, Bool.and_false, Bool.false_eq_true, if_false, if_true] at ih
          simp only [PS, put_eq (p := thr1 ((undF p p.length).take k) a b) (r := u.Thread) (by omega), j2 _ _ hs]
          exact ih
      have skip : selB a b u = false → spec_l8Gate_l0 p a b (undF p p.length) n (((gac p (undF p p.length) a b k).getD []).filter (notB a b)) (thr1 ((undF p p.length).take k) a b) (thr2 ((undF p p.length).take k) a b) (gac p (undF p p.length) a b k).isNone (undF p p.length) ((k + 1 : Nat) : Int) = 
          some (((gac p (undF p p.length) a b (undF p p.length).length).getD []).filter (notB a b), decide (0 < (thr1 (undF p p.length) a b).length) && decide (0 < (thr2 (undF p p.length) a b).length), unl (thr1 (undF p p.length) a b) (thr2 (undF p p.length) a b)) := by
        intro hs
        have ea : gac p (undF p p.length) a b (k + 1) = gac p (undF p p.length) a b k := by rw [gac, hu, if_neg (by rw [hs]; decide)]
        simp only [hs, Bool.false_and, Bool.false_eq_true, if_false, ea] at ih
        exact ih
      by_cases c1 : u.Had = a
      · have c1' : (u.Had == a) = true := by simp [c1]
        by_cases c2 : u.Taken = b
        · have c2' : (u.Taken == b) = true := by simp [c2]
          simp only [PS, c1', c2']
          exact j1 (by simp [selB, oneB, c1, c2])
        · have c2' : (u.Taken == b) = false := by simp [c2]
          by_cases c3 : u.Had = b
          · have c3' : (u.Had == b) = true := by simp [c3]
            by_cases c4 : u.Taken = a
            · have c4' : (u.Taken == a) = true := by simp [c4]
              simp only [PS, c1', c2', c3', c4']
              exact j1 (by unfold selB oneB; rw [c3', c4']; simp)
            · have c4' : (u.Taken == a) = false := by simp [c4]
              simp only [PS, c1', c2', c3', c4']
              exact skip (by unfold selB oneB; rw [c2', c4']; simp)
          · have c3' : (u.Had == b) = false := by simp [c3]
            simp only [PS, c1', c2', c3']
            exact skip (by unfold selB oneB; rw [c2', c3']; simp)
      · have c1' : (u.Had == a) = false := by simp [c1]
        by_cases c3 : u.Had = b
        · have c3' : (u.Had == b) = true := by simp [c3]
          by_cases c4 : u.Taken = a
          · have c4' : (u.Taken == a) = true := by simp [c4]
            simp only [PS, c1', c3', c4']
            exact j1 (by unfold selB oneB; rw [c3', c4']; simp)
          · have c4' : (u.Taken == a) = false := by simp [c4]
            simp only [PS, c1', c3', c4']
            exact skip (by unfold selB oneB; rw [c1', c4']; simp)
        · have c3' : (u.Had == b) = false := by simp [c3]
          simp only [PS, c1', c3']
          exact skip (by unfold selB oneB; rw [c1', c3']; simp)
    · have : k = (undF p p.length).length := by omega
      subst this
      simp only [PS, Nat.lt_irrefl, List.take_length]
      generalize ((gac p (undF p p.length) a b (undF p p.length).length).getD []).filter (notB a b) = A
      generalize thr1 (undF p p.length) a b = l
      generalize thr2 (undF p p.length) a b = m
      have q1 : ∀ q : Nat, ((1 : Int) < (q : Int) + 1 + 1) = True := fun q => by simp; omega
      have q0 : ∀ q : Nat, ((0 : Int) < (q : Int) + 1 + 1) = True := fun q => by simp; omega
      rcases l with _ | ⟨x, _ | ⟨y, l⟩⟩ <;> rcases m with _ | ⟨z, _ | ⟨w, m⟩⟩ <;> simp [unl, rd, q1, q0]
end
theorem unl_any (A B : List Int) : (decide (0 < (puts [] A).length) && decide (0 < (puts [] B).length) && unl (puts [] A) (puts [] B)) = A.any (fun x => B.any (fun y => x != y)) := by
  have mA : ∀ x, x ∈ puts [] A ↔ x ∈ A := fun x => by rw [puts_mem]; simp
  have mB : ∀ x, x ∈ puts [] B ↔ x ∈ B := fun x => by rw [puts_mem]; simp
  have sA : (puts [] A).Pairwise (· < ·) := puts_strict List.Pairwise.nil
  have sB : (puts [] B).Pairwise (· < ·) := puts_strict List.Pairwise.nil
  generalize puts [] A = l at *
  generalize puts [] B = m at *
  rw [Bool.eq_iff_iff]
  constructor
  · intro h
    rw [List.any_eq_true]
    suffices h : ∃ x ∈ l, ∃ y ∈ m, x ≠ y by
      obtain ⟨x, hx, y, hy, hne⟩ := h
      exact ⟨x, (mA x).1 hx, List.any_eq_true.2 ⟨y, (mB y).1 hy, by simpa using hne⟩⟩
    rcases l with _ | ⟨x, l⟩
    · simp at h
    rcases m with _ | ⟨z, m⟩
    · simp at h
    rcases l with _ | ⟨y, l⟩
    · rcases m with _ | ⟨w, m⟩
      · have : x ≠ z := by simpa [unl] using h
        exact ⟨x, by simp, z, by simp, this⟩
      · rw [List.pairwise_cons] at sB
        have := sB.1 w (by simp)
        by_cases e : x = z
        · exact ⟨x, by simp, w, by simp, by omega⟩
        · exact ⟨x, by simp, z, by simp, e⟩
    · rw [List.pairwise_cons] at sA
      have := sA.1 y (by simp)
      by_cases e : x = z
      · exact ⟨y, by simp, z, by simp, by omega⟩
      · exact ⟨x, by simp, z, by simp, e⟩
  · intro h
    rw [List.any_eq_true] at h
    obtain ⟨x, hx, h⟩ := h
    rw [List.any_eq_true] at h
    obtain ⟨y, hy, h⟩ := h
    have hne : x ≠ y := by simpa using h
    have hx := (mA x).2 hx
    have hy := (mB y).2 hy
    rcases l with _ | ⟨x1, l⟩
    · cases hx
    rcases m with _ | ⟨z, m⟩
    · cases hy
    rcases l with _ | ⟨y1, l⟩
    · rcases m with _ | ⟨w, m⟩
      · simp at hx hy
        subst hx hy
        simp [unl, hne]
      · simp [unl]
    · simp [unl]
theorem in11 (p : List GUnder) (x : GUnder) (hp : p.length < 1000000) : slices_ContainsFunc_Under_Under__impl_WarnsGuarded_1_1 p x = some (p.any (fun y => x.Thread != y.Thread)) := by
  obtain ⟨r, e1, e2⟩ := firstL (F := slices_IndexFunc_Under_Under__impl_WarnsGuarded_1_1_l0 p x) (L := p.length) (c := fun k => x.Thread != (p.getD k ⟨0, 0, 0, 0⟩).Thread)
    (fun n => by rw [slices_IndexFunc_Under_Under__impl_WarnsGuarded_1_1_l0]; simp)
    (fun n k hk => by
      rw [slices_IndexFunc_Under_Under__impl_WarnsGuarded_1_1_l0, getD_at _ hk]
      simp only [PS, hk, rd_at hk, impl_WarnsGuarded_1_1]) (by omega)
  rw [slices_ContainsFunc_Under_Under__impl_WarnsGuarded_1_1, slices_IndexFunc_Under_Under__impl_WarnsGuarded_1_1, e1]
  rw [any_at p ⟨0, 0, 0, 0⟩ (fun y => x.Thread != y.Thread)] at e2
  simpa using e2
theorem in1 (p q : List GUnder) (hp : p.length < 1000000) (hq : q.length < 1000000) : slices_ContainsFunc_Under_Under__impl_WarnsGuarded_1 p q = some (p.any (fun x => q.any (fun y => x.Thread != y.Thread))) := by
  obtain ⟨r, e1, e2⟩ := firstL (F := slices_IndexFunc_Under_Under__impl_WarnsGuarded_1_l0 p q) (L := p.length) (c := fun k => q.any (fun y => (p.getD k ⟨0, 0, 0, 0⟩).Thread != y.Thread))
    (fun n => by rw [slices_IndexFunc_Under_Under__impl_WarnsGuarded_1_l0]; simp)
    (fun n k hk => by
      rw [slices_IndexFunc_Under_Under__impl_WarnsGuarded_1_l0, getD_at _ hk]
      simp only [PS, hk, rd_at hk, impl_WarnsGuarded_1, in11 q _ hq]) (by omega)
  rw [slices_ContainsFunc_Under_Under__impl_WarnsGuarded_1, slices_IndexFunc_Under_Under__impl_WarnsGuarded_1, e1]
  rw [any_at p ⟨0, 0, 0, 0⟩ (fun x => q.any (fun y => x.Thread != y.Thread))] at e2
  simpa using e2
/-- whether a pair warns -/
noncomputable def warnB (p : List GEvent) (x : List Int) : Bool := 
  let a := x.getD 0 0
  let b := x.getD 1 0
  decide (a < b) && (((undF p p.length).filter (oneB a b)).any (fun x => ((undF p p.length).filter (oneB b a)).any (fun y => x.Thread != y.Thread))) && ((((gac p (undF p p.length) a b (undF p p.length).length).getD []).filter (notB a b)).length == 0)
section
variable {p : List GEvent} (hl : p.length ≤ 200) (hg : p.all goodE = true)
include hl hg
theorem gate_both {a b : Int} : spec_l8Gate p a b = some (((gac p (undF p p.length) a b (undF p p.length).length).getD []).filter (notB a b), decide (0 < (thr1 (undF p p.length) a b).length) && decide (0 < (thr2 (undF p p.length) a b).length), unl (thr1 (undF p p.length) a b) (thr2 (undF p p.length) a b)) ∧
    impl_gate p a b = some ((undF p p.length).filter (oneB a b), (undF p p.length).filter (fun u => !oneB a b u && oneB b a u), ((gac p (undF p p.length) a b (undF p p.length).length).getD []).filter (notB a b)) := by
  have hul := undF_len p p.length
  obtain ⟨e1, e2⟩ := unders_both hl hg
  constructor
  · rw [spec_l8Gate, e1, Option.bind_some]
    exact gate_spec hl hg FU 0 (by omega) (by have := FU_gt (n := (undF p p.length).length) (by omega); omega)
  · rw [impl_gate, e2, Option.bind_some]
    exact gate_impl hl hg FU 0 (by omega) (by have := FU_gt (n := (undF p p.length).length) (by omega); omega)
theorem warn_loops : ∀ (n k : Nat), k ≤ (prs p).length → (prs p).length < n + k →
    spec_WarnsGuarded_l0 p (prs p) n (((prs p).take k).filter (warnB p)) (prs p) k = some ((prs p).filter (warnB p), true) ∧
    impl_WarnsGuarded_l0 p (prs p) n (((prs p).take k).filter (warnB p)) k = some ((prs p).filter (warnB p), true)
  | 0, k, h1, h2 => by omega
  | n + 1, k, h1, h2 => by
    have hul := undF_len p p.length
    have hpl := prs_len (p := p) hl
    rw [spec_WarnsGuarded_l0, impl_WarnsGuarded_l0]
    by_cases hk : k < (prs p).length
    · obtain ⟨ih1, ih2⟩ := warn_loops n (k + 1) hk (by omega)
      obtain ⟨u, hu, eu⟩ := prs_two (List.getElem_mem hk)
      have et : ((prs p).take (k + 1)).filter (warnB p) = ((prs p).take k).filter (warnB p) ++ (if warnB p (pr u) = true then [pr u] else []) := by
        rw [List.take_add_one, List.getElem?_eq_getElem hk, List.filter_append, eu]
        congr 1
        simp only [Option.toList_some, List.filter_cons, List.filter_nil]
      rw [et] at ih1 ih2
      have lk : (((prs p).take k).filter (warnB p)).length ≤ k := Nat.le_trans (List.length_filter_le _ _) (by simp; omega)
      have r0 : rd (pr u) 0 = some u.Had := rfl
      have r1 : rd (pr u) 1 = some u.Taken := rfl
      obtain ⟨g1, g2⟩ := gate_both hl hg (a := u.Had) (b := u.Taken)
      have hset : (prs p).set k (pr u) = prs p := by rw [← eu]; exact List.set_getElem_self hk
      have hnx : nx1 (k : Int) = some () := by unfold nx1; rw [if_pos (by rw [w64_s (k := k) (by omega)]; omega)]
      have lf1 : ((undF p p.length).filter (oneB u.Had u.Taken)).length < 1000000 := by have := List.length_filter_le (oneB u.Had u.Taken) (undF p p.length); omega
      have lf2 : ((undF p p.length).filter (fun v => !oneB u.Had u.Taken v && oneB u.Taken u.Had v)).length < 1000000 := by have := List.length_filter_le (fun v => !oneB u.Had u.Taken v && oneB u.Taken u.Had v) (undF p p.length); omega
      simp only [PS, hk, rd_at hk, eu, r0, r1, g1, g2, w64_s (k := k) (by omega), hnx, in1 _ _ lf1 lf2, spec_WarnsGuarded_j1, app_ok (a := ((prs p).take k).filter (warnB p)) (b := [[u.Had, u.Taken]]) (by simp only [List.length_cons, List.length_nil]; omega), app_ok (a := ((prs p).take k).filter (warnB p)) (b := [pr u]) (by simp only [List.length_cons, List.length_nil]; omega), hset]
      by_cases c1 : u.Had < u.Taken
      · have hne : u.Had ≠ u.Taken := by omega
        have f2 : (undF p p.length).filter (fun v => !oneB u.Had u.Taken v && oneB u.Taken u.Had v) = (undF p p.length).filter (oneB u.Taken u.Had) := by
          apply List.filter_congr
          intro v _
          by_cases h3 : v.Had = u.Taken
          · have : ¬ v.Had = u.Had := by omega
            simp [oneB, this]
          · simp [oneB, h3]
        have t1 : thr1 (undF p p.length) u.Had u.Taken = puts [] (((undF p p.length).filter (oneB u.Had u.Taken)).map (·.Thread)) := by
          unfold thr1
          congr 2
          apply List.filter_congr
          intro v _
          by_cases h3 : v.Had = u.Had
          · have : ¬ v.Had = u.Taken := by omega
            simp [selB, oneB, h3, hne]
          · have h3' : (v.Had == u.Had) = false := by simp [h3]
            simp [selB, oneB, h3']
        have t2 : thr2 (undF p p.length) u.Had u.Taken = puts [] (((undF p p.length).filter (oneB u.Taken u.Had)).map (·.Thread)) := by
          unfold thr2
          congr 2
          apply List.filter_congr
          intro v _
          by_cases h3 : v.Had = u.Had
          · simp [selB, oneB, h3, hne]
          · have h3' : (v.Had == u.Had) = false := by simp [h3]
            simp [selB, oneB, h3']
        have hw : warnB p (pr u) = (decide (0 < (thr1 (undF p p.length) u.Had u.Taken).length) && decide (0 < (thr2 (undF p p.length) u.Had u.Taken).length) && unl (thr1 (undF p p.length) u.Had u.Taken) (thr2 (undF p p.length) u.Had u.Taken) && ((((gac p (undF p p.length) u.Had u.Taken (undF p p.length).length).getD []).filter (notB u.Had u.Taken)).length == 0)) := by
          rw [t1, t2, unl_any]
          unfold warnB pr
          simp only [List.getD_cons_zero, List.getD_cons_succ, c1, decide_true, Bool.true_and, List.any_map, Function.comp_def]
        have hw2 : warnB p (pr u) = (((undF p p.length).filter (oneB u.Had u.Taken)).any (fun x => ((undF p p.length).filter (oneB u.Taken u.Had)).any (fun y => x.Thread != y.Thread)) && ((((gac p (undF p p.length) u.Had u.Taken (undF p p.length).length).getD []).filter (notB u.Had u.Taken)).length == 0)) := by
          unfold warnB pr
          simp only [List.getD_cons_zero, List.getD_cons_succ, c1, decide_true, Bool.true_and]
        have hn : ∀ (L : List Int), ((L.length : Int) == 0) = (L.length == 0) := by intro L; rw [Bool.eq_iff_iff]; simp
        have c2 : decide (u.Had ≥ u.Taken) = false := by simp; exact c1
        have hc1 : decide (u.Had < u.Taken) = true := by simp [c1]
        constructor
        · rw [hw] at ih1
          simp only [hn, hc1, if_true]
          cases d1 : decide (0 < (thr1 (undF p p.length) u.Had u.Taken).length) <;> cases d2 : decide (0 < (thr2 (undF p p.length) u.Had u.Taken).length) <;> cases d3 : unl (thr1 (undF p p.length) u.Had u.Taken) (thr2 (undF p p.length) u.Had u.Taken) <;> cases d4 : ((((gac p (undF p p.length) u.Had u.Taken (undF p p.length).length).getD []).filter (notB u.Had u.Taken)).length == 0) <;>
            simp only [d1, d2, d3, d4, Bool.and_true, Bool.and_false, Bool.true_and, Bool.false_and, if_true, Bool.false_eq_true, if_false, List.append_nil] at ih1 ⊢ <;> exact ih1
        · rw [hw2] at ih2
          simp only [hn, c2, Bool.false_eq_true, if_false, f2]
          cases d3 : ((undF p p.length).filter (oneB u.Had u.Taken)).any (fun x => ((undF p p.length).filter (oneB u.Taken u.Had)).any (fun y => x.Thread != y.Thread)) <;> cases d4 : ((((gac p (undF p p.length) u.Had u.Taken (undF p p.length).length).getD []).filter (notB u.Had u.Taken)).length == 0) <;>
            simp only [d3, d4, Bool.and_true, Bool.and_false, Bool.true_and, Bool.false_and, if_true, Bool.false_eq_true, if_false, List.append_nil] at ih2 ⊢ <;> exact ih2
      · have hw : warnB p (pr u) = false := by
          unfold warnB pr
          simp only [List.getD_cons_zero, List.getD_cons_succ, c1, decide_false, Bool.false_and]
        have c2 : decide (u.Had ≥ u.Taken) = true := by simp; omega
        have hc1 : decide (u.Had < u.Taken) = false := by simp [c1]
        rw [hw] at ih1 ih2
        simp only [Bool.false_eq_true, if_false, List.append_nil] at ih1 ih2
        simp only [c2, hc1, if_true, Bool.false_eq_true, if_false]
        exact ⟨ih1, ih2⟩
    · have : k = (prs p).length := by omega
      subst this
      simp only [PS, Nat.lt_irrefl, List.take_length]
      exact ⟨trivial, trivial⟩
end
theorem law_WarnsGuarded (x0 : (List GEvent)) (g0 : x0.length ≤ 9223372036854775807) : laws_FnExactWarnsGuarded x0 = some true := by
  refine law_WarnsGuarded_of x0 g0 fun sm0 => ?_
  have hp' : x0.length < 1099511627776 := by have := (show x0.length ≤ 1048576 from sm0); omega
  rw [spec_WarnsGuarded, impl_WarnsGuarded]
  simp only [PS, spec_trace_eq hp', impl_trace_eq hp']
  cases hg : goodT x0
  · exact ⟨([], false), by simp, by simp, by simp, by simp⟩
  · unfold goodT at hg
    simp only [Bool.and_eq_true, decide_eq_true_eq] at hg
    obtain ⟨hg, hl⟩ := hg
    have hpl := prs_len (p := x0) hl
    obtain ⟨e1, e2⟩ := pairs_both hl hg
    obtain ⟨s1, s2⟩ := warn_loops hl hg FU 0 (by omega) (by have := FU_gt (n := (prs x0).length) (by omega); omega)
    rw [show ((0 : Nat) : Int) = 0 from rfl, List.take_zero, List.filter_nil] at s1 s2
    simp only [PS, e1, e2, s1, s2]
    refine ⟨_, rfl, rfl, ?_, ?_⟩
    · have := List.length_filter_le (warnB x0) (prs x0)
      show ((prs x0).filter (warnB x0)).length ≤ 1048576
      omega
    · intro y hy
      obtain ⟨u, _, rfl⟩ := prs_two (List.mem_filter.1 hy).1
      show (pr u).length ≤ 1048576
      simp [pr]
end Go.Proofs.Ytihgcgccajikpaa
