/- Plain facts for FnExactWarnsGuarded; no condition. -/

import Derived.Test.YtihgcgccajikpaaL3
set_option linter.unusedVariables false
namespace Go.Proofs.Ytihgcgccajikpaa
open Go Go.T

/- the locks that a thread has, as marks -/
def stp (T : Int) (f : Nat → Bool) (e : GEvent) : Nat → Bool := if e.Thread = T then (fun i : Nat => if (i : Int) = givesB e then false else if (i : Int) = takesB e then true else f i) else f
def heldF (T : Int) (l : List GEvent) : Nat → Bool := l.foldl (stp T) (fun _ => false)
def locks (f : Nat → Bool) : List Int := ls f 0 100
theorem locks_len (f : Nat → Bool) : (locks f).length ≤ 100 := ls_len f 100 0
theorem spec_takes (e : GEvent) : spec_l6Takes e = some (takesB e) := by
  unfold spec_l6Takes takesB
  by_cases h1 : e.Kind = 4
  · simp [h1]
  · by_cases h2 : e.Kind = 9 <;> simp [h1, h2]
theorem spec_gives (e : GEvent) : spec_l6Gives e = some (givesB e) := by
  unfold spec_l6Gives givesB
  by_cases h1 : e.Kind = 5
  · simp [h1]
  · by_cases h2 : e.Kind = 8 <;> simp [h1, h2]
theorem takes_range {e : GEvent} (h : goodE e = true) : takesB e = -3 ∨ (0 ≤ takesB e ∧ takesB e ≤ 99 ∧ givesB e = -2) := by
  unfold goodE at h
  simp only [Bool.and_eq_true, Bool.or_eq_true, Bool.not_eq_true', bne_iff_ne, decide_eq_true_eq, inr, Bool.and_eq_false_iff, decide_eq_false_iff_not] at h
  unfold takesB givesB
  by_cases h4 : e.Kind = 4
  · right; rw [if_pos h4, if_neg (by omega), if_neg (by omega)]; omega
  · by_cases h9 : e.Kind = 9
    · right; rw [if_neg h4, if_pos h9, if_neg (by omega), if_neg (by omega)]; omega
    · left; rw [if_neg h4, if_neg h9]
theorem gives_range {e : GEvent} (h : goodE e = true) : givesB e = -2 ∨ (0 ≤ givesB e ∧ givesB e ≤ 99 ∧ takesB e = -3) := by
  unfold goodE at h
  simp only [Bool.and_eq_true, Bool.or_eq_true, Bool.not_eq_true', bne_iff_ne, decide_eq_true_eq, inr, Bool.and_eq_false_iff, decide_eq_false_iff_not] at h
  unfold takesB givesB
  by_cases h4 : e.Kind = 5
  · right; rw [if_pos h4, if_neg (by omega), if_neg (by omega)]; omega
  · by_cases h9 : e.Kind = 8
    · right; rw [if_neg h4, if_pos h9, if_neg (by omega), if_neg (by omega)]; omega
    · left; rw [if_neg h4, if_neg h9]
theorem impl_takes {e : GEvent} (h : goodE e = true) : impl_Event_takes e = some (if takesB e = -3 then -1 else takesB e) := by
  have hr := takes_range h
  unfold impl_Event_takes
  unfold takesB at hr ⊢
  by_cases h1 : e.Kind = 4
  · simp only [h1, if_true] at hr ⊢
    have e1 : ¬ e.Obj = -3 := by
      rcases hr with hr | hr
      · unfold goodE at h
        simp only [Bool.and_eq_true, Bool.or_eq_true, Bool.not_eq_true', bne_iff_ne, decide_eq_true_eq, inr, Bool.and_eq_false_iff, decide_eq_false_iff_not] at h
        omega
      · omega
    simp [e1]
  · by_cases h2 : e.Kind = 9
    · simp only [h1, h2, if_false, if_true] at hr ⊢
      have e1 : ¬ e.Lock = -3 := by
        rcases hr with hr | hr
        · unfold goodE at h
          simp only [Bool.and_eq_true, Bool.or_eq_true, Bool.not_eq_true', bne_iff_ne, decide_eq_true_eq, inr, Bool.and_eq_false_iff, decide_eq_false_iff_not] at h
          omega
        · omega
      simp [e1]
    · simp [h1, h2]
theorem impl_gives {e : GEvent} (h : goodE e = true) : impl_Event_gives e = some (if givesB e = -2 then -1 else givesB e) := by
  unfold goodE at h
  simp only [Bool.and_eq_true, Bool.or_eq_true, Bool.not_eq_true', bne_iff_ne, decide_eq_true_eq, inr, Bool.and_eq_false_iff, decide_eq_false_iff_not] at h
  unfold impl_Event_gives givesB
  by_cases h1 : e.Kind = 5
  · have e1 : ¬ e.Obj = -2 := by omega
    simp [h1, e1]
  · by_cases h2 : e.Kind = 8
    · have e1 : ¬ e.Lock = -2 := by omega
      simp [h2, e1]
    · simp [h1, h2]
theorem locks_put {f : Nat → Bool} {r : Int} (h0 : 0 ≤ r) (h1 : r ≤ 99) : spec_l1Put (locks f) r = some (locks (fun i : Nat => if (i : Int) = r then true else f i)) := by
  have := locks_len f
  rw [put_eq (by omega)]
  have h2 := put_ls (f := f) (r := r.toNat) 100 0 (by omega) (by omega)
  have e : ((r.toNat : Nat) : Int) = r := by omega
  rw [e] at h2
  unfold locks
  rw [h2]
  congr 2
  funext i
  by_cases hi : i = r.toNat
  · rw [if_pos hi, if_pos (by omega)]
  · rw [if_neg hi, if_neg (by omega)]
theorem locks_drop {f : Nat → Bool} {r : Int} (h0 : 0 ≤ r) : spec_l7Drop (locks f) r = some (locks (fun i : Nat => if (i : Int) = r then false else f i)) := by
  have := locks_len f
  rw [drop_eq (by omega)]
  have h2 := drop_ls (f := f) (r := r.toNat) 100 0
  have e : ((r.toNat : Nat) : Int) = r := by omega
  rw [e] at h2
  unfold locks
  rw [h2]
  congr 2
  funext i
  by_cases hi : i = r.toNat
  · rw [if_pos hi, if_pos (by omega)]
  · rw [if_neg hi, if_neg (by omega)]
theorem stp_same {T : Int} {f : Nat → Bool} {e : GEvent} (ht : e.Thread = T) : stp T f e = fun i : Nat => if (i : Int) = givesB e then false else if (i : Int) = takesB e then true else f i := by
  unfold stp; rw [if_pos ht]
theorem stp_ne {T : Int} {f : Nat → Bool} {e : GEvent} (ht : ¬ e.Thread = T) : stp T f e = f := by
  unfold stp; rw [if_neg ht]
theorem spec_held_l0 {p l : List GEvent} {i : Int} {x0 : GEvent} (hx : rd p i = some x0) (hl : l.length < 1000000) (hg : l.all goodE = true) : ∀ (n k : Nat) (f : Nat → Bool), k ≤ l.length → l.length < n + k →
    spec_l7Held_l0 p i l n (locks f) k = some (locks ((l.drop k).foldl (stp x0.Thread) f))
  | 0, k, f, h1, h2 => by omega
  | n + 1, k, f, h1, h2 => by
    rw [spec_l7Held_l0]
    by_cases hk : k < l.length
    · have hge : goodE l[k] = true := List.all_eq_true.1 hg _ (List.getElem_mem hk)
      have next := fun f => spec_held_l0 (p := p) (i := i) hx hl hg n (k + 1) f hk (by omega)
      rw [List.drop_eq_getElem_cons hk, List.foldl_cons]
      simp only [PS, hk, rd_at hk, hx, w64_s (k := k) (by omega), spec_takes]
      by_cases ht : l[k].Thread = x0.Thread
      · have ht' : (l[k].Thread != x0.Thread) = false := by simp [ht]
        have second : ∀ f : Nat → Bool, spec_l7Held_j1 (spec_l7Held_l0 p i l n) p i l k (locks f) l[k] = some (locks ((l.drop (k + 1)).foldl (stp x0.Thread) (fun i : Nat => if (i : Int) = givesB l[k] then false else f i))) := by
          intro f
          rw [spec_l7Held_j1]
          simp only [PS, spec_gives, w64_s (k := k) (by omega)]
          by_cases hgv : 0 ≤ givesB l[k]
          · have e5 : decide (givesB l[k] ≥ 0) = true := by simpa using hgv
            simp only [PS, e5, locks_drop hgv]
            exact next _
          · have e5 : decide (givesB l[k] ≥ 0) = false := by simpa using hgv
            simp only [PS, e5]
            rw [next f]
            have : (fun i : Nat => if (i : Int) = givesB l[k] then false else f i) = f := by
              funext i; rw [if_neg (by omega)]
            rw [this]
        rw [stp_same ht]
        simp only [PS, ht']
        rcases takes_range hge with hr | ⟨h0, h9, _⟩
        · have e5 : decide (takesB l[k] ≥ 0) = false := by rw [hr]; decide
          simp only [PS, e5]
          rw [second f]
          have : (fun i : Nat => if (i : Int) = givesB l[k] then false else if (i : Int) = takesB l[k] then true else f i) = (fun i : Nat => if (i : Int) = givesB l[k] then false else f i) := by
            funext i
            have : ¬ (i : Int) = takesB l[k] := by omega
            rw [if_neg this]
          rw [this]
        · have e5 : decide (takesB l[k] ≥ 0) = true := by simpa using h0
          simp only [PS, e5, locks_put h0 h9]
          rw [second _]
      · have ht' : (l[k].Thread != x0.Thread) = true := by simp [ht]
        rw [stp_ne ht]
        simp only [PS, ht']
        exact next f
    · simp only [PS, hk]
      rw [List.drop_of_length_le (by omega)]; rfl
theorem impl_held_l0' {l : List GEvent} {T : Int} (hl : l.length < 1000000) (hg : l.all goodE = true) : ∀ (n k : Nat) (v : Vector Bool 100), k ≤ l.length → l.length < n + k →
    impl_held_l0 T l n v k = some (locks ((l.drop k).foldl (stp T) (mks v)))
  | 0, k, v, h1, h2 => by omega
  | n + 1, k, v, h1, h2 => by
    rw [impl_held_l0]
    by_cases hk : k < l.length
    · have hge : goodE l[k] = true := List.all_eq_true.1 hg _ (List.getElem_mem hk)
      have next := fun v => impl_held_l0' (T := T) hl hg n (k + 1) v hk (by omega)
      rw [List.drop_eq_getElem_cons hk, List.foldl_cons]
      simp only [PS, hk, rd_at hk, w64_s (k := k) (by omega), impl_takes hge]
      by_cases ht : l[k].Thread = T
      · have ht' : (l[k].Thread != T) = false := by simp [ht]
        have second : ∀ v : Vector Bool 100, impl_held_j1 (impl_held_l0 T l n) T l k v l[k] = some (locks ((l.drop (k + 1)).foldl (stp T) (fun i : Nat => if (i : Int) = givesB l[k] then false else mks v i))) := by
          intro v
          rw [impl_held_j1]
          simp only [PS, impl_gives hge, w64_s (k := k) (by omega)]
          rcases gives_range hge with hr | ⟨h0, h9, _⟩
          · have e5 : decide ((if givesB l[k] = -2 then (-1 : Int) else givesB l[k]) ≥ 0) = false := by rw [hr]; decide
            simp only [PS, e5]
            rw [next v]
            have : (fun i : Nat => if (i : Int) = givesB l[k] then false else mks v i) = mks v := by
              funext i; rw [if_neg (by omega)]
            rw [this]
          · have e6 : ¬ givesB l[k] = -2 := by omega
            rw [if_neg e6]
            have e5 : decide (givesB l[k] ≥ 0) = true := by simpa using h0
            simp only [PS, e5, rdv_ok (v := v) h0 (by omega)]
            rw [next _, mks_set h0 h9]
            congr 3
            funext i
            by_cases hi : i = (givesB l[k]).toNat
            · rw [if_pos hi, if_pos (by omega)]
            · rw [if_neg hi, if_neg (by omega)]
        rw [stp_same ht]
        simp only [PS, ht']
        rcases takes_range hge with hr | ⟨h0, h9, _⟩
        · have e5 : decide ((if takesB l[k] = -3 then (-1 : Int) else takesB l[k]) ≥ 0) = false := by rw [hr]; decide
          simp only [PS, e5]
          rw [second v]
          have : (fun i : Nat => if (i : Int) = givesB l[k] then false else if (i : Int) = takesB l[k] then true else mks v i) = (fun i : Nat => if (i : Int) = givesB l[k] then false else mks v i) := by
            funext i
            have : ¬ (i : Int) = takesB l[k] := by omega
            rw [if_neg this]
          rw [this]
        · have e6 : ¬ takesB l[k] = -3 := by omega
          rw [if_neg e6]
          have e5 : decide (takesB l[k] ≥ 0) = true := by simpa using h0
          simp only [PS, e5, rdv_ok (v := v) h0 (by omega)]
          rw [second _, mks_set h0 h9]
          congr 3
          funext i
          by_cases hg' : (i : Int) = givesB l[k]
          · rw [if_pos hg', if_pos hg']
          · rw [if_neg hg', if_neg hg']
            show (if i = (takesB l[k]).toNat then true else mks v i) = _
            by_cases hi : i = (takesB l[k]).toNat
            · rw [if_pos hi, if_pos (by omega)]
            · rw [if_neg hi, if_neg (by omega)]
      · have ht' : (l[k].Thread != T) = true := by simp [ht]
        rw [stp_ne ht]
        simp only [PS, ht']
        exact next v
    · simp only [PS, hk]
      have := held_l2 (v := v) FU 0 [] (by omega) (by have := FU_gt (n := 100) (by omega); omega) (by simp)
      rw [List.drop_of_length_le (by omega)]
      exact this
theorem locks_none : locks (fun _ => false) = [] := by
  have : ∀ (m a : Nat), ls (fun _ => false) a m = [] := by
    intro m
    induction m with
    | zero => intro a; rfl
    | succ m ih => intro a; rw [ls, ih]; simp
  exact this 100 0
theorem spec_held {p : List GEvent} {i : Nat} (hp : p.length < 1000000) (hg : p.all goodE = true) (hi : i < p.length) : spec_l7Held p i = some (locks (heldF (evAt p i).Thread (p.take (i + 1)))) := by
  rw [spec_l7Held, w64_s (by omega), slc_take (by omega)]
  simp only [PS, ]
  have := spec_held_l0 (p := p) (l := p.take (i + 1)) (evAt_rd hi) (by simp; omega) (by
    rw [List.all_eq_true] at hg ⊢; exact fun x hx => hg x (List.mem_of_mem_take hx)) FU 0 (fun _ => false) (by omega) (by have := FU_gt (n := (p.take (i + 1)).length) (by simp; omega); omega)
  rw [locks_none, List.drop_zero] at this
  exact this
theorem impl_held_eq {p : List GEvent} {T : Int} {m : Nat} (hp : p.length < 1000000) (hg : p.all goodE = true) (hm : m ≤ p.length) : impl_held p T m = some (locks (heldF T (p.take m))) := by
  rw [impl_held, slc_take hm]
  simp only [PS, ]
  have := impl_held_l0' (T := T) (l := p.take m) (by simp; omega) (by
    rw [List.all_eq_true] at hg ⊢; exact fun x hx => hg x (List.mem_of_mem_take hx)) FU 0 (Vector.replicate 100 false) (by omega) (by have := FU_gt (n := (p.take m).length) (by simp; omega); omega)
  have e : mks (Vector.replicate 100 false) = fun _ => false := by
    funext i; unfold mks; by_cases h : i < 100 <;> simp [h]
  rw [e, List.drop_zero] at this
  exact this
end Go.Proofs.Ytihgcgccajikpaa
