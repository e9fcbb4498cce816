/- Plain facts for FnExactOrderOf; no condition. -/

import Derived.Test.YtjcaompblpglcaaL3
set_option linter.unusedVariables false
namespace Go.Proofs.Ytjcaompblpglcaa
open Go Go.T
def stp (T : Int) (f : Nat → Bool) (e : Qa0) : Nat → Bool := if e.Thread = T then (fun i : Nat => if (i : Int) = Qbt e then false else if (i : Int) = Qas e then true else f i) else f
def Qhg (T : Int) (l : List Qa0) : Nat → Bool := l.foldl (stp T) (fun _ => false)
def Qga (f : Nat → Bool) : List Int := ls f 0 100
theorem Qfp (f : Nat → Bool) : (Qga f).length ≤ 100 := Xb0 f 100 0
theorem Qgn (e : Qa0) : Qcr e = some (Qas e) := by
 unfold Qcr Qas
 by_cases h1 : e.Kind = 4
 ·simp [h1]
 ·by_cases h2 : e.Kind = 9 <;> simp [h1, h2]
theorem Qp9 (e : Qa0) : Qee e = some (Qbt e) := by
 unfold Qee Qbt
 by_cases h1 : e.Kind = 5
 ·simp [h1]
 ·by_cases h2 : e.Kind = 8 <;> simp [h1, h2]
theorem Qdc {e : Qa0} (h : Qdl e = true) : Qas e = -3 ∨ (0 ≤ Qas e ∧ Qas e ≤ 99 ∧ Qbt e = -2) := by
 unfold Qdl at h
 simp only [Bool.and_eq_true, Bool.or_eq_true, Bool.not_eq_true', bne_iff_ne, decide_eq_true_eq, inr, Bool.and_eq_false_iff, decide_eq_false_iff_not] at h
 unfold Qas Qbt
 by_cases h4 : e.Kind = 4
 ·right; rw [if_pos h4, if_neg (by omega), if_neg (by omega)]; omega
 ·by_cases h9 : e.Kind = 9
  ·right; rw [if_neg h4, if_pos h9, if_neg (by omega), if_neg (by omega)]; omega
  ·left; rw [if_neg h4, if_neg h9]
theorem Qtc {e : Qa0} (h : Qdl e = true) : Qbt e = -2 ∨ (0 ≤ Qbt e ∧ Qbt e ≤ 99 ∧ Qas e = -3) := by
 unfold Qdl at h
 simp only [Bool.and_eq_true, Bool.or_eq_true, Bool.not_eq_true', bne_iff_ne, decide_eq_true_eq, inr, Bool.and_eq_false_iff, decide_eq_false_iff_not] at h
 unfold Qas Qbt
 by_cases h4 : e.Kind = 5
 ·right; rw [if_pos h4, if_neg (by omega), if_neg (by omega)]; omega
 ·by_cases h9 : e.Kind = 8
  ·right; rw [if_neg h4, if_pos h9, if_neg (by omega), if_neg (by omega)]; omega
  ·left; rw [if_neg h4, if_neg h9]
theorem Qih {e : Qa0} (h : Qdl e = true) : Qb0 e = some (if Qas e = -3 then -1 else Qas e) := by
 have hr := Qdc h
 unfold Qb0
 unfold Qas at hr ⊢
 by_cases h1 : e.Kind = 4
 ·simp only [h1, if_true] at hr ⊢
  have e1 : ¬ e.Obj = -3 := by
   rcases hr with hr | hr
   ·unfold Qdl at h
    simp only [Bool.and_eq_true, Bool.or_eq_true, Bool.not_eq_true', bne_iff_ne, decide_eq_true_eq, inr, Bool.and_eq_false_iff, decide_eq_false_iff_not] at h
    omega
   ·omega
  simp [e1]
 ·by_cases h2 : e.Kind = 9
  ·simp only [h1, h2, if_false, if_true] at hr ⊢
   have e1 : ¬ e.Lock = -3 := by
    rcases hr with hr | hr
    ·unfold Qdl at h
     simp only [Bool.and_eq_true, Bool.or_eq_true, Bool.not_eq_true', bne_iff_ne, decide_eq_true_eq, inr, Bool.and_eq_false_iff, decide_eq_false_iff_not] at h
     omega
    ·omega
   simp [e1]
  ·simp [h1, h2]
theorem Qwa {e : Qa0} (h : Qdl e = true) : Qdh e = some (if Qbt e = -2 then -1 else Qbt e) := by
 unfold Qdl at h
 simp only [Bool.and_eq_true, Bool.or_eq_true, Bool.not_eq_true', bne_iff_ne, decide_eq_true_eq, inr, Bool.and_eq_false_iff, decide_eq_false_iff_not] at h
 unfold Qdh Qbt
 by_cases h1 : e.Kind = 5
 ·have e1 : ¬ e.Obj = -2 := by omega
  simp [h1, e1]
 ·by_cases h2 : e.Kind = 8
  ·have e1 : ¬ e.Lock = -2 := by omega
   simp [h2, e1]
  ·simp [h1, h2]
theorem Qx7 {f : Nat → Bool} {r : Int} (h0 : 0 ≤ r) (h1 : r ≤ 99) : Qdx (Qga f) r = some (Qga (fun i : Nat => if (i : Int) = r then true else f i)) := by
 have := Qfp f
 rw [Qvc (by omega)]
 have h2 := Xab (f := f) (r := r.toNat) 100 0 (by omega) (by omega)
 have e : ((r.toNat : Nat) : Int) = r := by omega
 rw [e] at h2
 unfold Qga
 rw [h2]
 congr 2
 funext i
 by_cases hi : i = r.toNat
 ·rw [if_pos hi, if_pos (by omega)]
 ·rw [if_neg hi, if_neg (by omega)]
theorem Qpw {f : Nat → Bool} {r : Int} (h0 : 0 ≤ r) : Qda (Qga f) r = some (Qga (fun i : Nat => if (i : Int) = r then false else f i)) := by
 have := Qfp f
 rw [Qwr (by omega)]
 have h2 := Qyf (f := f) (r := r.toNat) 100 0
 have e : ((r.toNat : Nat) : Int) = r := by omega
 rw [e] at h2
 unfold Qga
 rw [h2]
 congr 2
 funext i
 by_cases hi : i = r.toNat
 ·rw [if_pos hi, if_pos (by omega)]
 ·rw [if_neg hi, if_neg (by omega)]
theorem Qmw {T : Int} {f : Nat → Bool} {e : Qa0} (ht : e.Thread = T) : stp T f e = fun i : Nat => if (i : Int) = Qbt e then false else if (i : Int) = Qas e then true else f i := by
 unfold stp; rw [if_pos ht]
theorem Qx9 {T : Int} {f : Nat → Bool} {e : Qa0} (ht : ¬ e.Thread = T) : stp T f e = f := by
 unfold stp; rw [if_neg ht]
theorem Qm9 {p l : List Qa0} {i : Int} {x0 : Qa0} (hx : rd p i = some x0) (hl : l.length < 1000000) (hg : l.all Qdl = true) : ∀ (n k : Nat) (f : Nat → Bool), k ≤ l.length → l.length < n + k →
  Qb8 p i l n (Qga f) k = some (Qga ((l.drop k).foldl (stp x0.Thread) f))
 | 0, k, f, h1, h2 => by omega
 | n + 1, k, f, h1, h2 => by
  rw [Qb8]
  by_cases hk : k < l.length
  ·have hge : Qdl l[k] = true := List.all_eq_true.1 hg _ (List.getElem_mem hk)
   have next := fun f => Qm9 (p := p) (i := i) hx hl hg n (k + 1) f hk (by omega)
   rw [List.drop_eq_getElem_cons hk, List.foldl_cons]
   simp only [PS, hk, Qdm hk, hx, Qcx (k := k) (by omega), Qgn]
   by_cases ht : l[k].Thread = x0.Thread
   ·have ht' : (l[k].Thread != x0.Thread) = false := by simp [ht]
    have second : ∀ f : Nat → Bool, Qdi (Qb8 p i l n) p i l k (Qga f) l[k] = some (Qga ((l.drop (k + 1)).foldl (stp x0.Thread) (fun i : Nat => if (i : Int) = Qbt l[k] then false else f i))) := by
     intro f
     rw [Qdi]
     simp only [PS, Qp9, Qcx (k := k) (by omega)]
     by_cases hgv : 0 ≤ Qbt l[k]
     ·have e5 : decide (Qbt l[k] ≥ 0) = true := by simpa using hgv
      simp only [PS, e5, Qpw hgv]
      exact next _
     ·have e5 : decide (Qbt l[k] ≥ 0) = false := by simpa using hgv
      simp only [PS, e5]
      rw [next f]
      have : (fun i : Nat => if (i : Int) = Qbt l[k] then false else f i) = f := by
       funext i; rw [if_neg (by omega)]
      rw [this]
    rw [Qmw ht]
    simp only [PS, ht']
    rcases Qdc hge with hr | ⟨h0, h9, _⟩
    ·have e5 : decide (Qas l[k] ≥ 0) = false := by rw [hr]; decide
     simp only [PS, e5]
     rw [second f]
     have : (fun i : Nat => if (i : Int) = Qbt l[k] then false else if (i : Int) = Qas l[k] then true else f i) = (fun i : Nat => if (i : Int) = Qbt l[k] then false else f i) := by
      funext i
      have : ¬ (i : Int) = Qas l[k] := by omega
      rw [if_neg this]
     rw [this]
    ·have e5 : decide (Qas l[k] ≥ 0) = true := by simpa using h0
     simp only [PS, e5, Qx7 h0 h9]
     rw [second _]
   ·have ht' : (l[k].Thread != x0.Thread) = true := by simp [ht]
    rw [Qx9 ht]
    simp only [PS, ht']
    exact next f
  ·simp only [PS, hk]
   rw [List.drop_of_length_le (by omega)]; rfl
theorem Qkp {l : List Qa0} {T : Int} (hl : l.length < 1000000) (hg : l.all Qdl = true) : ∀ (n k : Nat) (v : Vector Bool 100), k ≤ l.length → l.length < n + k →
  Qc0 T l n v k = some (Qga ((l.drop k).foldl (stp T) (mks v)))
 | 0, k, v, h1, h2 => by omega
 | n + 1, k, v, h1, h2 => by
  rw [Qc0]
  by_cases hk : k < l.length
  ·have hge : Qdl l[k] = true := List.all_eq_true.1 hg _ (List.getElem_mem hk)
   have next := fun v => Qkp (T := T) hl hg n (k + 1) v hk (by omega)
   rw [List.drop_eq_getElem_cons hk, List.foldl_cons]
   simp only [PS, hk, Qdm hk, Qcx (k := k) (by omega), Qih hge]
   by_cases ht : l[k].Thread = T
   ·have ht' : (l[k].Thread != T) = false := by simp [ht]
    have second : ∀ v : Vector Bool 100, Qeh (Qc0 T l n) T l k v l[k] = some (Qga ((l.drop (k + 1)).foldl (stp T) (fun i : Nat => if (i : Int) = Qbt l[k] then false else mks v i))) := by
     intro v
     rw [Qeh]
     simp only [PS, Qwa hge, Qcx (k := k) (by omega)]
     rcases Qtc hge with hr | ⟨h0, h9, _⟩
     ·have e5 : decide ((if Qbt l[k] = -2 then (-1 : Int) else Qbt l[k]) ≥ 0) = false := by rw [hr]; decide
      simp only [PS, e5]
      rw [next v]
      have : (fun i : Nat => if (i : Int) = Qbt l[k] then false else mks v i) = mks v := by
       funext i; rw [if_neg (by omega)]
      rw [this]
     ·have e6 : ¬ Qbt l[k] = -2 := by omega
      rw [if_neg e6]
      have e5 : decide (Qbt l[k] ≥ 0) = true := by simpa using h0
      simp only [PS, e5, Xao (v := v) h0 (by omega)]
      rw [next _, Qyh h0 h9]
      congr 3
      funext i
      by_cases hi : i = (Qbt l[k]).toNat
      ·rw [if_pos hi, if_pos (by omega)]
      ·rw [if_neg hi, if_neg (by omega)]
    rw [Qmw ht]
    simp only [PS, ht']
    rcases Qdc hge with hr | ⟨h0, h9, _⟩
    ·have e5 : decide ((if Qas l[k] = -3 then (-1 : Int) else Qas l[k]) ≥ 0) = false := by rw [hr]; decide
     simp only [PS, e5]
     rw [second v]
     have : (fun i : Nat => if (i : Int) = Qbt l[k] then false else if (i : Int) = Qas l[k] then true else mks v i) = (fun i : Nat => if (i : Int) = Qbt l[k] then false else mks v i) := by
      funext i
      have : ¬ (i : Int) = Qas l[k] := by omega
      rw [if_neg this]
     rw [this]
    ·have e6 : ¬ Qas l[k] = -3 := by omega
     rw [if_neg e6]
     have e5 : decide (Qas l[k] ≥ 0) = true := by simpa using h0
     simp only [PS, e5, Xao (v := v) h0 (by omega)]
     rw [second _, Qyh h0 h9]
     congr 3
     funext i
     by_cases hg' : (i : Int) = Qbt l[k]
     ·rw [if_pos hg', if_pos hg']
     ·rw [if_neg hg', if_neg hg']
      show (if i = (Qas l[k]).toNat then true else mks v i) = _
      by_cases hi : i = (Qas l[k]).toNat
      ·rw [if_pos hi, if_pos (by omega)]
      ·rw [if_neg hi, if_neg (by omega)]
   ·have ht' : (l[k].Thread != T) = true := by simp [ht]
    rw [Qx9 ht]
    simp only [PS, ht']
    exact next v
  ·simp only [PS, hk]
   have := Qth (v := v) FU 0 [] (by omega) (by have := Qdg (n := 100) (by omega); omega) (by simp)
   rw [List.drop_of_length_le (by omega)]
   exact this
theorem Qw9 : Qga (fun _ => false) = [] := by
 have : ∀ (m a : Nat), ls (fun _ => false) a m = [] := by
  intro m
  induction m with
  | zero => intro a; rfl
  | succ m ih => intro a; rw [ls, ih]; simp
 exact this 100 0
theorem Qwm {p : List Qa0} {i : Nat} (hp : p.length < 1000000) (hg : p.all Qdl = true) (hi : i < p.length) : Qfz p i = some (Qga (Qhg (Qet p i).Thread (p.take (i + 1)))) := by
  rw [Qfz, Qcx (by omega), Qmq (by omega)]
  simp only [PS, ]
  have := Qm9 (p := p) (l := p.take (i + 1)) (Qlp hi) (by simp; omega) (by
    rw [List.all_eq_true] at hg ⊢; exact fun x hx => hg x (List.mem_of_mem_take hx)) FU 0 (fun _ => false) (by omega) (by have := Qdg (n := (p.take (i + 1)).length) (by simp; omega); omega)
  rw [Qw9, List.drop_zero] at this
  exact this
theorem Qs9 {p : List Qa0} {T : Int} {m : Nat} (hp : p.length < 1000000) (hg : p.all Qdl = true) (hm : m ≤ p.length) : Qi5 p T m = some (Qga (Qhg T (p.take m))) := by
  rw [Qi5, Qmq hm]
  simp only [PS, ]
  have := Qkp (T := T) (l := p.take m) (by simp; omega) (by
    rw [List.all_eq_true] at hg ⊢; exact fun x hx => hg x (List.mem_of_mem_take hx)) FU 0 (Vector.replicate 100 false) (by omega) (by have := Qdg (n := (p.take m).length) (by simp; omega); omega)
  have e : mks (Vector.replicate 100 false) = fun _ => false := by
    funext i; unfold mks; by_cases h : i < 100 <;> simp [h]
  rw [e, List.drop_zero] at this
  exact this
end Go.Proofs.Ytjcaompblpglcaa
