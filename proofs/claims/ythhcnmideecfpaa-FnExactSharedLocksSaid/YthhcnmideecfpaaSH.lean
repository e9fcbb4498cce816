/- Plain facts for FnExactSharedLocks; no condition. -/

import Derived.Test.YthhcnmideecfpaaQFnExactSharedLocks
set_option linter.unusedVariables false
namespace Go.Proofs.Ythhcnmideecfpaa
open Go Go.T

theorem idx_l0 {p : List Int} {x : Int} (hp : p.length < 1000000) : ∀ (n k : Nat), k ≤ p.length → p.length < n + k → ∃ r : Int, slices_Index_int_int_l0 p x n k = some r ∧ decide (r ≥ 0) = (p.drop k).any (· == x)
  | 0, k, h1, h2 => by omega
  | n + 1, k, h1, h2 => by
    rw [slices_Index_int_int_l0]
    by_cases hk : k < p.length
    · rw [List.drop_eq_getElem_cons hk, List.any_cons]
      obtain ⟨r, e1, e2⟩ := idx_l0 (x := x) hp n (k + 1) hk (by omega)
      simp only [PS, hk, rd_at hk, w64_s (k := k) (by omega), e1, e2]
      by_cases h : x = p[k]
      · subst h; exact ⟨k, by simp, by simp⟩
      · have h' : (p[k] == x) = false := by simp; exact fun e => h e.symm
        have h2 : (x == p[k]) = false := by simpa using h
        exact ⟨r, by simp [h', h2], by simp [h', e2]⟩
    · have : k = p.length := by omega
      subst this
      exact ⟨-1, by simp, by simp⟩
theorem contains_eq {p : List Int} {x : Int} (hp : p.length < 1000000) : slices_Contains_int_int p x = some (p.any (· == x)) := by
  obtain ⟨r, e1, e2⟩ := idx_l0 (x := x) hp FU 0 (by omega) (by have := FU_gt (n := p.length) (by omega); omega)
  rw [slices_Contains_int_int, slices_Index_int_int, show slices_Index_int_int_l0 p x FU 0 = some r from e1]
  simpa using e2
theorem has_l0 {p : List Int} {x : Int} (hp : p.length < 1000000) : ∀ (n k : Nat), k ≤ p.length → p.length < n + k → spec_l1Has_l0 p x n k = some ((p.drop k).any (· == x))
  | 0, k, h1, h2 => by omega
  | n + 1, k, h1, h2 => by
    rw [spec_l1Has_l0]
    by_cases hk : k < p.length
    · rw [List.drop_eq_getElem_cons hk, List.any_cons]
      simp only [PS, hk, rd_at hk, w64_s (k := k) (by omega), has_l0 (x := x) hp n (k + 1) hk (by omega)]
      by_cases h : p[k] = x <;> simp [h]
    · have : k = p.length := by omega
      subst this
      simp
theorem has_eq {p : List Int} {x : Int} (hp : p.length < 1000000) : spec_l1Has p x = some (p.any (· == x)) := by
  rw [spec_l1Has]
  exact has_l0 hp FU 0 (by omega) (by have := FU_gt (n := p.length) (by omega); omega)
/-- those of a that are in b -/
def both_ (a b : List Int) : List Int := a.filter (fun x => b.any (· == x))
theorem both_len (a b : List Int) : (both_ a b).length ≤ a.length := List.length_filter_le _ _
theorem both_self (a : List Int) : both_ a a = a := by
  unfold both_
  rw [List.filter_eq_self]
  intro x hx
  rw [List.any_eq_true]; exact ⟨x, hx, by simp⟩
theorem common_l0 {a b : List Int} (ha : a.length < 1000000) (hb : b.length < 1000000) : ∀ (n k : Nat) (o : List Int), k ≤ a.length → a.length < n + k → o.length ≤ k → impl_common_l0 a b n o k = some (o ++ both_ (a.drop k) b)
  | 0, k, o, h1, h2, h3 => by omega
  | n + 1, k, o, h1, h2, h3 => by
    rw [impl_common_l0]
    by_cases hk : k < a.length
    · rw [List.drop_eq_getElem_cons hk]
      simp only [PS, hk, rd_at hk, contains_eq hb, w64_s (k := k) (by omega), app_ok (a := o) (b := [a[k]]) (by simp; omega), common_l0 ha hb n (k + 1) (o ++ [a[k]]) hk (by omega) (by simp; omega), common_l0 ha hb n (k + 1) o hk (by omega) (by omega)]
      unfold both_
      rw [List.filter_cons]
      cases b.any (· == a[k]) <;> simp
    · have : k = a.length := by omega
      subst this
      simp [both_]
theorem common_eq {a b : List Int} (ha : a.length < 1000000) (hb : b.length < 1000000) : impl_common a b = some (both_ a b) := by
  rw [impl_common]
  have := common_l0 ha hb FU 0 [] (by omega) (by have := FU_gt (n := a.length) (by omega); omega) (by simp)
  simpa using this
theorem shl_l4 {K0 : List (List Int) → List Int → Int → Option (List (List Int) × Bool)} {K1 : List (List Int) → List Int → Bool → List Int → Int → Option (List (List Int) × Bool)} {p1 : List GEvent} {a5 : List Int} {v16 x18 v23 : Int} {r : List Int} {out : List (List Int)} {cs : List Int} (ha : r.length < 1000000) : ∀ (n k : Nat) (o : List Int), k ≤ r.length → r.length < n + k → o.length ≤ k → spec_SharedLocks_l4 K0 K1 p1 a5 v16 x18 v23 r n out r o cs k = K1 out (o ++ both_ (r.drop k) r) false cs (w64 (v23 + 1))
  | 0, k, o, h1, h2, h3 => by omega
  | n + 1, k, o, h1, h2, h3 => by
    rw [spec_SharedLocks_l4]
    by_cases hk : k < r.length
    · rw [List.drop_eq_getElem_cons hk]
      simp only [PS, hk, rd_at hk, has_eq ha, w64_s (k := k) (by omega), app_ok (a := o) (b := [r[k]]) (by simp; omega), shl_l4 ha n (k + 1) (o ++ [r[k]]) hk (by omega) (by simp; omega), shl_l4 ha n (k + 1) o hk (by omega) (by omega)]
      unfold both_
      rw [List.filter_cons]
      cases r.any (· == r[k]) <;> simp
    · have : k = r.length := by omega
      subst this
      simp [both_]
theorem shl_l5 {K0 : List (List Int) → List Int → Int → Option (List (List Int) × Bool)} {K1 : List (List Int) → List Int → Bool → List Int → Int → Option (List (List Int) × Bool)} {p1 : List GEvent} {a5 : List Int} {v16 x18 v23 : Int} {a b : List Int} {out : List (List Int)} {cs : List Int} (ha : a.length < 1000000) (hb : b.length < 1000000) : ∀ (n k : Nat) (o : List Int), k ≤ a.length → a.length < n + k → o.length ≤ k → spec_SharedLocks_l5 K0 K1 p1 a5 v16 x18 a v23 n out b o cs a k = K1 out (o ++ both_ (a.drop k) b) false cs (w64 (v23 + 1))
  | 0, k, o, h1, h2, h3 => by omega
  | n + 1, k, o, h1, h2, h3 => by
    rw [spec_SharedLocks_l5]
    by_cases hk : k < a.length
    · rw [List.drop_eq_getElem_cons hk]
      simp only [PS, hk, rd_at hk, has_eq hb, w64_s (k := k) (by omega), app_ok (a := o) (b := [a[k]]) (by simp; omega), shl_l5 ha hb n (k + 1) (o ++ [a[k]]) hk (by omega) (by simp; omega), shl_l5 ha hb n (k + 1) o hk (by omega) (by omega)]
      unfold both_
      rw [List.filter_cons]
      cases b.any (· == a[k]) <;> simp
    · have : k = a.length := by omega
      subst this
      simp [both_]
/- what is known of a cell behind the first events -/
def tchB (e : GEvent) : Bool := e.Kind == 2 || e.Kind == 3
theorem spec_tch (e : GEvent) : spec_l7Touch e = some (tchB e) := by unfold spec_l7Touch tchB; by_cases h : e.Kind = 2 <;> simp [h]
theorem impl_tch (e : GEvent) : impl_Event_touches e = some (tchB e) := by unfold impl_Event_touches tchB; by_cases h : e.Kind = 2 <;> simp [h]
theorem tch_obj {e : GEvent} (h : goodE e = true) (ht : tchB e = true) : 0 ≤ e.Obj ∧ e.Obj ≤ 99 := by
  unfold goodE at h
  unfold tchB at ht
  simp only [Bool.and_eq_true, Bool.or_eq_true, Bool.not_eq_true', bne_iff_ne, decide_eq_true_eq, inr, Bool.and_eq_false_iff, decide_eq_false_iff_not, beq_iff_eq] at h ht
  omega
/-- the locks held at a place -/
noncomputable def hH (p : List GEvent) (i : Nat) : List Int := (spec_l7Held p i).getD []
def nxA (h : List Int) : Option (List Int) → List Int
  | none => h
  | some a => both_ a h
noncomputable def acc (p : List GEvent) (c : Nat) : Nat → Option (List Int)
  | 0 => none
  | k + 1 => if tchB (evAt p k) = true ∧ (evAt p k).Obj = (c : Int) then some (nxA (hH p k) (acc p c k)) else acc p c k
section
variable {p : List GEvent} (hl : p.length ≤ 200) (hg : p.all goodE = true)
include hl hg
theorem hH_ok {i : Nat} (h : i < p.length) : spec_l7Held p i = some (hH p i) ∧ impl_held p (evAt p i).Thread (w64 ((i : Int) + 1)) = some (hH p i) ∧ (hH p i).length ≤ 100 := by
  obtain ⟨r, e1, e2, e3⟩ := held_both (p := p) (i := (i : Int)) (by omega) hg (by omega) (by simpa using h)
  have e : evAt p i = p[i] := by simp [evAt, h]
  have e4 : hH p i = r := by unfold hH; rw [e1]; rfl
  rw [e4, e]
  exact ⟨e1, by simpa using e2, e3⟩
theorem acc_len {c : Nat} : ∀ k, k ≤ p.length → ((acc p c k).getD []).length ≤ 100
  | 0, h => by simp [acc]
  | k + 1, h => by
    have ih := acc_len (c := c) k (by omega)
    have := (hH_ok hl hg (i := k) (by omega)).2.2
    unfold acc
    split
    · cases h2 : acc p c k with
      | none => simpa [nxA] using this
      | some a =>
        rw [h2] at ih
        have := both_len a (hH p k)
        simp only [Option.getD_some, nxA] at ih ⊢
        omega
    · exact ih
theorem shl_l2 {K0 : List (List Int) → List Int → Int → Option (List (List Int) × Bool)} {a5 cs : List Int} {v16 : Int} {c : Nat} {out : List (List Int)} (ho : out.length ≤ 100) : ∀ (n k : Nat), k ≤ p.length → p.length < n + k →
    spec_SharedLocks_l2 K0 p a5 v16 c n out ((acc p c k).getD []) (acc p c k).isNone cs k = K0 (out ++ [(c : Int) :: (acc p c p.length).getD []]) cs (w64 (v16 + 1))
  | 0, k, h1, h2 => by omega
  | n + 1, k, h1, h2 => by
    rw [spec_SharedLocks_l2]
    by_cases hk : k < p.length
    · have ih := shl_l2 (K0 := K0) (a5 := a5) (cs := cs) (v16 := v16) (c := c) ho n (k + 1) hk (by omega)
      have hh := hH_ok hl hg hk
      simp only [PS, hk, evAt_rd hk, spec_tch, w64_s (k := k) (by omega)]
      by_cases ht : tchB (evAt p k) = true
      · by_cases hc : (evAt p k).Obj = (c : Int)
        · have ea : acc p c (k + 1) = some (nxA (hH p k) (acc p c k)) := by rw [acc, if_pos ⟨ht, hc⟩]
          have al := acc_len hl hg (c := c) k h1
          rw [ea] at ih
          simp only [Option.getD_some, Option.isNone_some] at ih
          simp only [PS, ht, hc, spec_SharedLocks_j3, hh.1]
          cases h2 : acc p c k with
          | none =>
            rw [h2] at ih
            simp only [nxA] at ih
            have := shl_l4 (K0 := K0) (K1 := spec_SharedLocks_l2 K0 p a5 v16 c n) (p1 := p) (a5 := a5) (v16 := v16) (x18 := c) (v23 := k) (r := hH p k) (out := out) (cs := cs) (by omega) FU 0 [] (by omega) (by have := FU_gt (n := (hH p k).length) (by omega); omega) (by simp)
            simp only [List.drop_zero, List.nil_append, both_self, w64_s (k := k) (by omega), Option.isNone_none, if_true] at this ⊢
            rw [show ((0 : Nat) : Int) = 0 from rfl] at this
            rw [this]; exact ih
          | some a =>
            rw [h2] at ih al
            simp only [Option.getD_some, nxA] at al ih
            have := shl_l5 (K0 := K0) (K1 := spec_SharedLocks_l2 K0 p a5 v16 c n) (p1 := p) (a5 := a5) (v16 := v16) (x18 := c) (v23 := k) (a := a) (b := hH p k) (out := out) (cs := cs) (by omega) (by omega) FU 0 [] (by omega) (by have := FU_gt (n := a.length) (by omega); omega) (by simp)
            simp only [List.drop_zero, List.nil_append, w64_s (k := k) (by omega), Option.isNone_some, Option.getD_some, Bool.false_eq_true, if_false] at this ⊢
            rw [show ((0 : Nat) : Int) = 0 from rfl] at this
            rw [this]; exact ih
        · have ea : acc p c (k + 1) = acc p c k := by rw [acc, if_neg (fun h => hc h.2)]
          rw [ea] at ih
          have hc' : ((evAt p k).Obj != (c : Int)) = true := by simpa using hc
          simp only [PS, ht, hc']
          exact ih
      · have ea : acc p c (k + 1) = acc p c k := by rw [acc, if_neg (fun h => ht h.1)]
        rw [ea] at ih
        have ht' : tchB (evAt p k) = false := by simpa using ht
        simp only [PS, ht']
        exact ih
    · have : k = p.length := by omega
      subst this
      have al := acc_len hl hg (c := c) p.length (Nat.le_refl _)
      simp only [PS, Nat.lt_irrefl, app_ok (a := [(c : Int)]) (b := (acc p c p.length).getD []) (by simp; omega), app_ok (a := out) (b := [(c : Int) :: (acc p c p.length).getD []]) (by simp; omega), List.singleton_append]
/-- a cell's row -/
noncomputable def rowOf (p : List GEvent) (c : Int) : List Int := c :: (acc p c.toNat p.length).getD []
omit hl hg in
theorem ls_mem (f : Nat → Bool) : ∀ (m a : Nat) (x : Int), x ∈ ls f a m → ∃ c : Nat, x = (c : Int)
  | 0, a, x, h => by simp [ls] at h
  | m + 1, a, x, h => by
    unfold ls at h
    split at h
    · rcases List.mem_cons.1 h with rfl | h
      · exact ⟨a, rfl⟩
      · exact ls_mem f m (a + 1) x h
    · exact ls_mem f m (a + 1) x h
theorem shl_l1 {cs : List Int} (hc : cs.length ≤ 100) (hn : ∀ x ∈ cs, ∃ c : Nat, x = (c : Int)) : ∀ (n k : Nat) (out : List (List Int)), k ≤ cs.length → cs.length < n + k → out.length ≤ k → spec_SharedLocks_l1 p cs n out cs k = some (out ++ (cs.drop k).map (rowOf p), true)
  | 0, k, out, h1, h2, h3 => by omega
  | n + 1, k, out, h1, h2, h3 => by
    rw [spec_SharedLocks_l1]
    by_cases hk : k < cs.length
    · rw [List.drop_eq_getElem_cons hk]
      obtain ⟨c, ec⟩ := hn cs[k] (List.getElem_mem hk)
      have := shl_l2 hl hg (K0 := spec_SharedLocks_l1 p cs n) (a5 := cs) (cs := cs) (v16 := (k : Int)) (c := c) (out := out) (by omega) FU 0 (by omega) (by have := FU_gt (n := p.length) (by omega); omega)
      simp only [acc, Option.getD_none, Option.isNone_none] at this
      rw [show ((0 : Nat) : Int) = 0 from rfl] at this
      simp only [PS, hk, rd_at hk, ec, this, w64_s (k := k) (by omega)]
      rw [shl_l1 hc hn n (k + 1) _ hk (by omega) (by simp; omega)]
      simp [rowOf]
    · have : k = cs.length := by omega
      subst this
      simp only [PS, Nat.lt_irrefl]
      simp
noncomputable def metF (p : List GEvent) (k : Nat) : Nat → Bool := fun c => (acc p c k).isSome
omit hl hg in
theorem metF_step {k : Nat} (ht : tchB (evAt p k) = true) (h0 : 0 ≤ (evAt p k).Obj) : metF p (k + 1) = fun i => if i = (evAt p k).Obj.toNat then true else metF p k i := by
  funext c
  unfold metF
  rw [acc]
  by_cases h : c = (evAt p k).Obj.toNat
  · rw [if_pos ⟨ht, by omega⟩, if_pos h]; rfl
  · rw [if_neg (fun e => h (by have := e.2; omega)), if_neg h]
theorem shl_l0 : ∀ (n k : Nat), k ≤ p.length → p.length < n + k → spec_SharedLocks_l0 p n (ls (metF p k) 0 100) k = some ((ls (metF p p.length) 0 100).map (rowOf p), true)
  | 0, k, h1, h2 => by omega
  | n + 1, k, h1, h2 => by
    rw [spec_SharedLocks_l0]
    by_cases hk : k < p.length
    · have ih := shl_l0 n (k + 1) hk (by omega)
      simp only [PS, hk, evAt_rd hk, spec_tch, w64_s (k := k) (by omega)]
      by_cases ht : tchB (evAt p k) = true
      · obtain ⟨o0, o1⟩ := tch_obj (evAt_good hg hk) ht
        have hlen := ls_len (metF p k) 100 0
        rw [metF_step ht o0, ← put_ls (r := (evAt p k).Obj.toNat) 100 0 (by omega) (by omega), show (((evAt p k).Obj.toNat : Nat) : Int) = (evAt p k).Obj by omega] at ih
        simp only [PS, ht, put_eq (p := ls (metF p k) 0 100) (r := (evAt p k).Obj) (by omega)]
        exact ih
      · have e : metF p (k + 1) = metF p k := by funext c; unfold metF; rw [acc, if_neg (fun h => ht h.1)]
        rw [e] at ih
        simp only [PS, ht]
        exact ih
    · have : k = p.length := by omega
      subst this
      simp only [PS, Nat.lt_irrefl]
      have hlen := ls_len (metF p p.length) 100 0
      have := shl_l1 hl hg (cs := ls (metF p p.length) 0 100) hlen (fun x hx => ls_mem _ _ _ x hx) FU 0 [] (by omega) (by have := FU_gt (n := (ls (metF p p.length) 0 100).length) (by omega); omega) (by simp)
      simpa using this
/-- the arrays tell what is known behind k events -/
def Arr (p : List GEvent) (k : Nat) (u : Vector (List Int) 100) (v : Vector Bool 100) : Prop := ∀ c, c < 100 → u[c]? = some ((acc p c k).getD []) ∧ v[c]? = some (acc p c k).isSome
theorem shi_l2 {u : Vector (List Int) 100} {v : Vector Bool 100} (ha : Arr p p.length u v) : ∀ (n k : Nat) (out : List (List Int)), k ≤ 100 → 100 < n + k → out.length ≤ k → impl_SharedLocks_l2 v n u out k = some (out ++ (ls (metF p p.length) k (100 - k)).map (rowOf p), true)
  | 0, k, out, h1, h2, h3 => by omega
  | n + 1, k, out, h1, h2, h3 => by
    rw [impl_SharedLocks_l2]
    by_cases hk : k < 100
    · have e : 100 - k = (100 - (k + 1)) + 1 := by omega
      have hk' : (k : Int) < 100 := by omega
      obtain ⟨a1, a2⟩ := ha k hk
      have b1 : rdv u (k : Int) = some ((acc p k p.length).getD []) := by simpa [rdv] using a1
      have b2 : rdv v (k : Int) = some (acc p k p.length).isSome := by simpa [rdv] using a2
      have al := acc_len hl hg (c := k) p.length (Nat.le_refl _)
      rw [e, ls]
      have hm : metF p p.length k = (acc p k p.length).isSome := rfl
      simp only [PS, hk', b1, b2, hm, w64_s (k := k) (by omega), app_ok (a := [(k : Int)]) (b := (acc p k p.length).getD []) (by simp; omega), app_ok (a := out) (b := [[(k : Int)] ++ (acc p k p.length).getD []]) (by simp; omega), shi_l2 ha n (k + 1) (out ++ [[(k : Int)] ++ (acc p k p.length).getD []]) hk (by omega) (by simp; omega), shi_l2 ha n (k + 1) out hk (by omega) (by omega)]
      cases h5 : (acc p k p.length) with
      | none => simp
      | some a => simp [rowOf, h5]
    · have hk' : ¬ (k : Int) < 100 := by omega
      have : k = 100 := by omega
      subst this
      simp only [PS, hk']
      simp [ls]
theorem shi_l0 : ∀ (n k : Nat) (u : Vector (List Int) 100) (v : Vector Bool 100), k ≤ p.length → p.length < n + k → Arr p k u v → impl_SharedLocks_l0 p n u v k = some ((ls (metF p p.length) 0 100).map (rowOf p), true)
  | 0, k, u, v, h1, h2, ha => by omega
  | n + 1, k, u, v, h1, h2, ha => by
    rw [impl_SharedLocks_l0]
    by_cases hk : k < p.length
    · have hh := hH_ok hl hg hk
      simp only [PS, hk, evAt_rd hk, impl_tch, w64_s (k := k) (by omega)]
      by_cases ht : tchB (evAt p k) = true
      · obtain ⟨o0, o1⟩ := tch_obj (evAt_good hg hk) ht
        have hc : (evAt p k).Obj.toNat < 100 := by omega
        obtain ⟨a1, a2⟩ := ha _ hc
        have b1 : rdv u (evAt p k).Obj = some ((acc p (evAt p k).Obj.toNat k).getD []) := by simpa [rdv, o0] using a1
        have b2 : rdv v (evAt p k).Obj = some (acc p (evAt p k).Obj.toNat k).isSome := by simpa [rdv, o0] using a2
        have al := acc_len hl hg (c := (evAt p k).Obj.toNat) k h1
        have hh2 := hh.2.1
        rw [w64_s (k := k) (by omega)] at hh2
        have nx : ∀ a : List Int, a = nxA (hH p k) (acc p (evAt p k).Obj.toNat k) → Arr p (k + 1) (u.setIfInBounds (evAt p k).Obj.toNat a) (v.setIfInBounds (evAt p k).Obj.toNat true) := by
          intro a ea c hcc
          rw [Vector.getElem?_setIfInBounds, Vector.getElem?_setIfInBounds, acc]
          by_cases h : (evAt p k).Obj.toNat = c
          · subst h
            rw [if_pos rfl, if_pos hcc, if_pos rfl, if_pos hcc, if_pos ⟨ht, by omega⟩, ea]
            exact ⟨rfl, rfl⟩
          · rw [if_neg h, if_neg h, if_neg (fun e => h (by have := e.2; omega))]
            exact ha c hcc
        simp only [PS, ht, hh2, b2]
        cases h5 : acc p (evAt p k).Obj.toNat k with
        | none =>
          simp only [PS, Option.isSome_none, impl_SharedLocks_j1, b1, b2, w64_s (k := k) (by omega)]
          exact shi_l0 n (k + 1) _ _ hk (by omega) (nx _ (by rw [h5]; rfl))
        | some a =>
          rw [h5] at al b1
          simp only [Option.getD_some] at al b1
          simp only [PS, Option.isSome_some, b1, impl_SharedLocks_j1, b2, common_eq (a := a) (b := hH p k) (by omega) (by have := hh.2.2; omega), w64_s (k := k) (by omega)]
          exact shi_l0 n (k + 1) _ _ hk (by omega) (nx _ (by rw [h5]; rfl))
      · simp only [PS, ht]
        refine shi_l0 n (k + 1) u v hk (by omega) fun c hc => ?_
        rw [acc, if_neg (fun h => ht h.1)]
        exact ha c hc
    · have : k = p.length := by omega
      subst this
      simp only [PS, Nat.lt_irrefl]
      have := shi_l2 hl hg ha FU 0 [] (by omega) (by have := FU_gt (n := 100) (by omega); omega) (by simp)
      simpa using this
end
theorem law_SharedLocks (x0 : (List GEvent)) (g0 : x0.length ≤ 9223372036854775807) : laws_FnExactSharedLocks x0 = some true := by
  refine law_SharedLocks_of x0 g0 fun sm0 => ?_
  have hp' : x0.length < 1099511627776 := by have := (show x0.length ≤ 1048576 from sm0); omega
  rw [spec_SharedLocks, impl_SharedLocks]
  simp only [PS, spec_trace_eq hp', impl_trace_eq hp']
  cases hg : goodT x0
  · exact ⟨([], false), by simp, by simp, by simp, by simp⟩
  · unfold goodT at hg
    simp only [Bool.and_eq_true, decide_eq_true_eq] at hg
    obtain ⟨hg, hl⟩ := hg
    have s1 := shl_l0 hl hg FU 0 (by omega) (by have := FU_gt (n := x0.length) (by omega); omega)
    have s2 := shi_l0 hl hg FU 0 (Vector.replicate 100 []) (Vector.replicate 100 false) (by omega) (by have := FU_gt (n := x0.length) (by omega); omega) (fun c hc => by simp [acc, hc])
    have e0 : ls (metF x0 0) 0 100 = [] := by
      have : metF x0 0 = fun _ => false := by funext c; rfl
      rw [this]; rfl
    rw [e0] at s1
    rw [show ((0 : Nat) : Int) = 0 from rfl] at s1 s2
    simp only [PS, s1, s2]
    refine ⟨_, rfl, rfl, ?_, ?_⟩
    · have := ls_len (metF x0 x0.length) 100 0
      simp; omega
    · intro y hy
      simp only [List.mem_map] at hy
      obtain ⟨c, _, rfl⟩ := hy
      have al := acc_len hl hg (c := c.toNat) x0.length (Nat.le_refl _)
      show (rowOf x0 c).length ≤ 1048576
      unfold rowOf
      simp; omega
end Go.Proofs.Ythhcnmideecfpaa
