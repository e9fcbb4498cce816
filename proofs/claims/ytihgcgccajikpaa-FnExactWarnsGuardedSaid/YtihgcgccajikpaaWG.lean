/- Plain facts for FnExactWarnsGuarded; no condition. -/

import Derived.Test.YtihgcgccajikpaaQFnExactWarnsGuarded
set_option linter.unusedVariables false
namespace Go.Proofs.Ytihgcgccajikpaa
open Go Go.T

/- DeleteFunc -/
def notB (a b x : Int) : Bool := !(x == a || x == b)
theorem gate1_eq (x a b : Int) : impl_gate_1 x a b = some (!notB a b x) := by
  unfold impl_gate_1 notB
  by_cases h : x = a <;> simp [h]
theorem del_idx {p : List Int} {a b : Int} (hp : p.length < 1000000) : ∀ (n k : Nat), k ≤ p.length → p.length < n + k →
    (slices_IndexFunc_int_int_134__impl_gate_1_l0 p a b n k = some (-1) ∧ (p.drop k).filter (notB a b) = p.drop k) ∨
    (∃ i : Nat, k ≤ i ∧ i < p.length ∧ slices_IndexFunc_int_int_134__impl_gate_1_l0 p a b n k = some (i : Int) ∧ (p.drop k).filter (notB a b) = (p.take i).drop k ++ (p.drop (i + 1)).filter (notB a b))
  | 0, k, h1, h2 => by omega
  | n + 1, k, h1, h2 => by
    rw [slices_IndexFunc_int_int_134__impl_gate_1_l0]
    by_cases hk : k < p.length
    · have e : p.drop k = p[k] :: p.drop (k + 1) := List.drop_eq_getElem_cons hk
      simp only [PS, hk, rd_at hk, w64_s (k := k) (by omega), gate1_eq]
      cases hb : notB a b p[k]
      · right
        refine ⟨k, Nat.le_refl _, hk, by simp, ?_⟩
        rw [e, List.filter_cons, hb, List.drop_take]
        simp
      · rcases del_idx (a := a) (b := b) hp n (k + 1) hk (by omega) with ⟨h3, h4⟩ | ⟨i, h3, h4, h5, h6⟩
        · left
          refine ⟨by simpa using h3, ?_⟩
          rw [e, List.filter_cons, hb, if_pos rfl, h4]
        · right
          refine ⟨i, by omega, h4, by simpa using h5, ?_⟩
          rw [e, List.filter_cons, hb, if_pos rfl, h6]
          have : (p.take i).drop k = p[k] :: (p.take i).drop (k + 1) := by
            rw [List.drop_eq_getElem_cons (by simp; omega)]; simp
          rw [this]; rfl
    · have : k = p.length := by omega
      subst this
      left
      simp
theorem del_l0 {p p1 : List Int} {a b : Int} (hp : p.length < 1000000) : ∀ (n k w : Nat) (s : List Int), k ≤ p.length → p.length < n + k → w < k → s.length = p.length → s.take w = (p.take k).filter (notB a b) → s.drop k = p.drop k →
    slices_DeleteFunc_int_int__impl_gate_1_l0 p1 a b n s w k = some (p.filter (notB a b))
  | 0, k, w, s, h1, h2, h3, h4, h5, h6 => by omega
  | n + 1, k, w, s, h1, h2, h3, h4, h5, h6 => by
    rw [slices_DeleteFunc_int_int__impl_gate_1_l0]
    by_cases hk : k < p.length
    · have hks : k < s.length := by omega
      have ek : s[k] = p[k] := by
        have := congrArg (fun l => l[0]?) h6
        simp only [List.getElem?_drop, Nat.add_zero, List.getElem?_eq_getElem hks, List.getElem?_eq_getElem hk] at this
        exact Option.some.inj this
      have et : (p.take (k + 1)).filter (notB a b) = (p.take k).filter (notB a b) ++ (if notB a b p[k] = true then [p[k]] else []) := by
        rw [List.take_add_one, List.getElem?_eq_getElem hk, List.filter_append]
        congr 1
        simp only [Option.toList_some, List.filter_cons, List.filter_nil]
      have hd : decide ((k : Int) < (s.length : Int)) = true := by simp; omega
      simp only [PS, hd, rd_at hks, rd_at (show w < s.length by omega), ek, gate1_eq, w64_s (k := k) (by omega), w64_s (k := w) (by omega), Bool.not_not]
      have h7 : s.drop (k + 1) = p.drop (k + 1) := by rw [← List.drop_drop (i := 1) (j := k), h6, List.drop_drop]
      cases hb : notB a b p[k]
      · rw [hb] at et
        simp only [Bool.false_eq_true, if_false, List.append_nil] at et ⊢
        exact del_l0 hp n (k + 1) w s hk (by omega) (by omega) h4 (by rw [h5, et]) h7
      · rw [hb] at et
        simp only [if_true] at et ⊢
        refine del_l0 hp n (k + 1) (w + 1) _ hk (by omega) (by omega) (by simp [h4]) ?_ ?_
        · rw [et, ← h5, List.take_add_one, List.take_set_of_le (Nat.le_refl _)]
          rw [List.getElem?_set_self (by omega)]; rfl
        · rw [List.drop_set_of_lt (by omega)]; exact h7
    · have hk2 : k = s.length := by omega
      subst hk2
      have s1 : slc s (w : Int) (s.length : Int) = some (s.drop w) := slc_drop (by omega)
      have e0 : (subO (s.map o3).length w) = s.length - w := by rw [subO_eq, List.length_map]
      have hcl : (clrT s 0 w (s.length - w)).length = s.length := clrT_len (by omega)
      have s2 : slc (clrT s 0 w (s.length - w)) 0 (w : Int) = some ((clrT s 0 w (s.length - w)).take w) := slc_take (by omega)
      have e1 : (clrT s 0 w (s.length - w)).take w = s.take w := by
        unfold clrT ovT
        rw [List.append_assoc, List.take_append_of_le_length (by rw [List.length_take]; omega), List.take_take, Nat.min_self]
      have hd : decide ((s.length : Int) < (s.length : Int)) = false := by simp
      rw [h4] at h5
      rw [List.take_length] at h5
      simp only [hd, Bool.false_eq_true, if_false, s1, Int.toNat_natCast, e0, s2, Option.bind_some, e1, h5]
theorem del_eq {p : List Int} {a b : Int} (hp : p.length < 1000000) : slices_DeleteFunc_int_int__impl_gate_1 p a b = some (p.filter (notB a b)) := by
  rw [slices_DeleteFunc_int_int__impl_gate_1, slices_IndexFunc_int_int_134__impl_gate_1]
  rcases del_idx (a := a) (b := b) hp FU 0 (by omega) (by have := FU_gt (n := p.length) (by omega); omega) with ⟨h3, h4⟩ | ⟨i, h3, h4, h5, h6⟩
  · rw [show slices_IndexFunc_int_int_134__impl_gate_1_l0 p a b FU 0 = some (-1) from h3]
    rw [List.drop_zero] at h4
    simp [h4]
  · rw [show slices_IndexFunc_int_int_134__impl_gate_1_l0 p a b FU 0 = some (i : Int) from h5]
    have hne : ((i : Int) == -1) = false := by rw [beq_eq_false_iff_ne]; omega
    simp only [PS, hne, w64_s (k := i) (by omega)]
    refine del_l0 hp FU (i + 1) i p h4 (by have := FU_gt (n := p.length) (by omega); omega) (by omega) rfl ?_ rfl
    rw [List.drop_zero, List.drop_zero] at h6
    have : p.filter (notB a b) = (p.take (i + 1)).filter (notB a b) ++ (p.drop (i + 1)).filter (notB a b) := by rw [← List.filter_append, List.take_append_drop]
    rw [this] at h6
    exact (List.append_cancel_right h6).symm
/- of what the gate of two locks is made -/
def oneB (a b : Int) (u : GUnder) : Bool := u.Had == a && u.Taken == b
def selB (a b : Int) (u : GUnder) : Bool := oneB a b u || oneB b a u
noncomputable def bef (p : List GEvent) (u : GUnder) : List Int := locks (heldF u.Thread (p.take u.At.toNat))
def uAt (U : List GUnder) (k : Nat) : GUnder := U[k]?.getD ⟨0, 0, 0, 0⟩
noncomputable def gac (p : List GEvent) (U : List GUnder) (a b : Int) : Nat → Option (List Int)
  | 0 => none
  | k + 1 => if selB a b (uAt U k) = true then some (nxA (bef p (uAt U k)) (gac p U a b k)) else gac p U a b k
theorem gac_len {p : List GEvent} {U : List GUnder} {a b : Int} : ∀ k, ((gac p U a b k).getD []).length ≤ 100
  | 0 => by simp [gac]
  | k + 1 => by
    have ih := gac_len (p := p) (U := U) (a := a) (b := b) k
    have : (bef p (uAt U k)).length ≤ 100 := locks_len _
    unfold gac
    split
    · cases h2 : gac p U a b k with
      | none => simpa [nxA] using this
      | some x =>
        rw [h2] at ih
        have := both_len x (bef p (uAt U k))
        simp only [Option.getD_some, nxA] at ih ⊢
        omega
    · exact ih
theorem uAt_rd {U : List GUnder} {k : Nat} (h : k < U.length) : rd U (k : Int) = some (uAt U k) := by rw [rd_at h]; simp [uAt, h]
theorem uAt_take {U : List GUnder} {k : Nat} (h : k < U.length) (f : GUnder → Bool) : (U.take (k + 1)).filter f = (U.take k).filter f ++ (if f (uAt U k) = true then [uAt U k] else []) := by
  have e : uAt U k = U[k] := by simp [uAt, h]
  rw [List.take_add_one, List.getElem?_eq_getElem h, List.filter_append, e]
  congr 1
  cases hf : f U[k] <;> simp [hf]
theorem undF_at {p : List GEvent} {m : Nat} {u : GUnder} (h : u ∈ undF p m) : ∃ i : Nat, i < m ∧ u.At = (i : Int) ∧ u.Thread = (evAt p i).Thread ∧ 0 ≤ takesB (evAt p i) := by
  unfold undF at h
  rw [List.mem_flatMap] at h
  obtain ⟨i, hi, h⟩ := h
  unfold undAt at h
  split at h
  · rename_i h0
    rw [List.mem_map] at h
    obtain ⟨x, hx, rfl⟩ := h
    exact ⟨i, List.mem_range.1 hi, rfl, rfl, h0⟩
  · cases h
section
variable {p : List GEvent} (hl : p.length ≤ 200) (hg : p.all goodE = true)
include hl hg
theorem bef_both {u : GUnder} (h : u ∈ undF p p.length) : spec_l8Before p u.At = some (bef p u) ∧ impl_held p u.Thread u.At = some (bef p u) := by
  obtain ⟨i, hi, e1, e2, e3⟩ := undF_at h
  have e : bef p u = locks (heldF (evAt p i).Thread (p.take i)) := by unfold bef; rw [e1, e2]; simp
  rw [e, e1, e2]
  exact ⟨spec_before (by omega) hg hi e3, impl_held_eq (by omega) hg (by omega)⟩
omit hl hg in
theorem uAt_mem {k : Nat} (h : k < (undF p p.length).length) : uAt (undF p p.length) k ∈ undF p p.length := by
  have e : uAt (undF p p.length) k = (undF p p.length)[k] := by simp [uAt, h]
  rw [e]; exact List.getElem_mem h
theorem gate_impl {a b : Int} : ∀ (n k : Nat), k ≤ (undF p p.length).length → (undF p p.length).length < n + k →
    impl_gate_l0 p (undF p p.length) n a b (((undF p p.length).take k).filter (oneB a b)) (((undF p p.length).take k).filter (fun u => !oneB a b u && oneB b a u)) ((gac p (undF p p.length) a b k).getD []) (gac p (undF p p.length) a b k).isNone (undF p p.length) k =
      some ((undF p p.length).filter (oneB a b), (undF p p.length).filter (fun u => !oneB a b u && oneB b a u), ((gac p (undF p p.length) a b (undF p p.length).length).getD []).filter (notB a b))
  | 0, k, h1, h2 => by omega
  | n + 1, k, h1, h2 => by
    have hul := undF_len p p.length
    rw [impl_gate_l0]
    by_cases hk : k < (undF p p.length).length
    · have ih := gate_impl (a := a) (b := b) n (k + 1) hk (by omega)
      have hb := (bef_both hl hg (uAt_mem hk)).2
      have hlb : (bef p (uAt (undF p p.length) k)).length ≤ 100 := locks_len _
      have hga := gac_len (p := p) (U := undF p p.length) (a := a) (b := b) k
      rw [uAt_take hk, uAt_take hk] at ih
      generalize hu : uAt (undF p p.length) k = u at ih hb hlb
      have l1 : (((undF p p.length).take k).filter (oneB a b)).length ≤ k := Nat.le_trans (List.length_filter_le _ _) (by simp; omega)
      have l2 : (((undF p p.length).take k).filter (fun u => !oneB a b u && oneB b a u)).length ≤ k := Nat.le_trans (List.length_filter_le _ _) (by simp; omega)
      simp only [PS, hk, uAt_rd hk, hu, w64_s (k := k) (by omega)]
      have j2 : ∀ o t : List GUnder, selB a b u = true → impl_gate_j2 (impl_gate_l0 p (undF p p.length) n) p (undF p p.length) (gac p (undF p p.length) a b k).isNone k a b o t ((gac p (undF p p.length) a b k).getD []) u (undF p p.length) = impl_gate_l0 p (undF p p.length) n a b o t ((gac p (undF p p.length) a b (k + 1)).getD []) (gac p (undF p p.length) a b (k + 1)).isNone (undF p p.length) ((k + 1 : Nat) : Int) := by
        intro o t hs
        have ea : gac p (undF p p.length) a b (k + 1) = some (nxA (bef p u) (gac p (undF p p.length) a b k)) := by rw [gac, hu, if_pos hs]
        rw [impl_gate_j2, ea]
        simp only [PS, hb, w64_s (k := k) (by omega)]
        cases h5 : gac p (undF p p.length) a b k with
        | none =>
          simp only [Option.isNone_none, if_true, common_eq (a := bef p u) (b := bef p u) (by omega) (by omega), Option.bind_some, both_self, nxA, Option.getD_some, Option.isNone_some]
        | some x =>
          rw [h5] at hga
          simp only [Option.getD_some] at hga
          simp only [Option.isNone_some, Bool.false_eq_true, if_false, Option.getD_some, common_eq (a := x) (b := bef p u) (by omega) (by omega), Option.bind_some, nxA]
      have skip : selB a b u = false → gac p (undF p p.length) a b (k + 1) = gac p (undF p p.length) a b k := by
        intro hs; rw [gac, hu, if_neg (by rw [hs]; decide)]
      by_cases h1 : oneB a b u = true
      · have hs : selB a b u = true := by unfold selB; rw [h1]; rfl
        have h2 : u.Had = a ∧ u.Taken = b := by simpa [oneB] using h1
        have c1 : (u.Had == a) = true := by simp [h2.1]
        have c2 : (u.Taken == b) = true := by simp [h2.2]
        simp only [PS, c1, c2]
        rw [impl_gate_j1, app_ok (by simp only [List.length_cons, List.length_nil]; omega), Option.bind_some, j2 _ _ hs]
        simpa [h1] using ih
      · have h1' : oneB a b u = false := by simpa using h1
        have j3 : impl_gate_j3 (impl_gate_l0 p (undF p p.length) n) p (undF p p.length) (gac p (undF p p.length) a b k).isNone k a b (((undF p p.length).take k).filter (oneB a b)) (((undF p p.length).take k).filter (fun u => !oneB a b u && oneB b a u)) ((gac p (undF p p.length) a b k).getD []) u (undF p p.length) =
            some ((undF p p.length).filter (oneB a b), (undF p p.length).filter (fun u => !oneB a b u && oneB b a u), ((gac p (undF p p.length) a b (undF p p.length).length).getD []).filter (notB a b)) := by
          rw [impl_gate_j3]
          by_cases h3 : oneB b a u = true
          · have hs : selB a b u = true := by unfold selB; rw [h3]; simp
            have h2 : u.Had = b ∧ u.Taken = a := by simpa [oneB] using h3
            have c1 : (u.Had == b) = true := by simp [h2.1]
            have c2 : (u.Taken == a) = true := by simp [h2.2]
            simp only [PS, c1, c2]
            rw [impl_gate_j4, app_ok (by simp only [List.length_cons, List.length_nil]; omega), Option.bind_some, j2 _ _ hs]
            simpa [h1', h3] using ih
          · have h3' : oneB b a u = false := by simpa using h3
            have hs : selB a b u = false := by unfold selB; rw [h1', h3']; rfl
            have hn : ¬ (u.Had = b ∧ u.Taken = a) := by intro h; apply h3; simp [oneB, h.1, h.2]
            have goal : impl_gate_l0 p (undF p p.length) n a b (((undF p p.length).take k).filter (oneB a b)) (((undF p p.length).take k).filter (fun u => !oneB a b u && oneB b a u)) ((gac p (undF p p.length) a b k).getD []) (gac p (undF p p.length) a b k).isNone (undF p p.length) ((k + 1 : Nat) : Int) = some ((undF p p.length).filter (oneB a b), (undF p p.length).filter (fun u => !oneB a b u && oneB b a u), ((gac p (undF p p.length) a b (undF p p.length).length).getD []).filter (notB a b)) := by
              rw [skip hs] at ih
              simpa [h1', h3'] using ih
            rw [w64_s (k := k) (by omega)]
            by_cases c1 : u.Had = b
            · have c2 : ¬ u.Taken = a := fun h => hn ⟨c1, h⟩
              have c1' : (u.Had == b) = true := by simp [c1]
              have c2' : (u.Taken == a) = false := by simp [c2]
              simp only [PS, c1', c2']
              exact goal
            · have c1' : (u.Had == b) = false := by simp [c1]
              simp only [PS, c1']
              exact goal
        have hn : ¬ (u.Had = a ∧ u.Taken = b) := by intro h; apply h1; simp [oneB, h.1, h.2]
        by_cases c1 : u.Had = a
        · have c2 : ¬ u.Taken = b := fun h => hn ⟨c1, h⟩
          have c1' : (u.Had == a) = true := by simp [c1]
          have c2' : (u.Taken == b) = false := by simp [c2]
          simp only [PS, c1', c2']
          exact j3
        · have c1' : (u.Had == a) = false := by simp [c1]
          simp only [PS, c1']
          exact j3
    · have : k = (undF p p.length).length := by omega
      subst this
      have hga := gac_len (p := p) (U := undF p p.length) (a := a) (b := b) (undF p p.length).length
      simp only [PS, Nat.lt_irrefl, del_eq (p := (gac p (undF p p.length) a b (undF p p.length).length).getD []) (a := a) (b := b) (by omega), List.take_length]
end
end Go.Proofs.Ytihgcgccajikpaa
