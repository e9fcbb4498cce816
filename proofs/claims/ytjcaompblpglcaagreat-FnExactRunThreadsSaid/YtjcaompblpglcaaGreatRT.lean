/- Plain facts for FnExactRunThreads; no condition. -/

import Derived.Test.YtjcaompblpglcaaGreatQFnExactRunThreads
set_option linter.unusedVariables false
set_option linter.unusedSimpArgs false
namespace Go.Proofs.YtjcaompblpglcaaGreat
open Go Go.T
theorem Xg2 {e : List Int} {x : Int} (hp : e.length < 1000) : ∀ (n k : Nat), k ≤ e.length → e.length < n + k → (Qb7 e x n k = some (-1) ∧ x ∉ e.drop k) ∨ ∃ (j : Nat) (hj : j < e.length), Qb7 e x n k = some (j : Int) ∧ e[j] = x
 | 0, k, h1, h2 => by omega
 | n + 1, k, h1, h2 => by
  rw [Qb7]
  by_cases hk : k < e.length
  ·rw [List.drop_eq_getElem_cons hk]
   simp only [PS, hk, Qeq hk, Qiw (k := k) (by omega)]
   by_cases h : x = e[k]
   ·right
    exact ⟨k, hk, by simp [h], h.symm⟩
   ·have h' : (x == e[k]) = false := by simpa using h
    simp only [h', Bool.false_eq_true, if_false]
    rcases Xg2 hp n (k + 1) hk (by omega) with ⟨a, b⟩ | ⟨j, hj, a, b⟩
    ·left
     refine ⟨a, ?_⟩
     rw [List.mem_cons]
     rintro (c | c)
     ·exact h c
     ·exact b c
    ·right; exact ⟨j, hj, a, b⟩
  ·have : k = e.length := by omega
   subst this
   left
   simp
noncomputable def Qxp (K0 : Qaf → Qc1 → Qc1 → Int → Option (Qc1 × Bool)) (a4 : Qaf) (a5 a6 : Qc1) (v7 x9 v11 : Int) : Option (Qc1 × Bool) :=
  if (decide (v11 < 0)) = true then
   some ((Qc1.mk 0 [] [] (Qa2.mk [] [] [] 0)), false)
  else
   Option.bind (Qgs a4 (Qa2.mk a6.End.Threads a6.End.Cells a6.End.Owner a6.End.Fault) x9) fun r20 =>
   Option.bind (app a6.Trace [r20.2]) fun l21 =>
   Option.bind (app a6.Picks [v11]) fun l22 =>
   K0 a4 a5 (Qc1.mk a6.Code l21 l22 (Qa2.mk r20.1.Threads r20.1.Cells r20.1.Owner r20.1.Fault)) (w64 (v7 + 1))
theorem Qy7 {K0 : Qaf → Qc1 → Qc1 → Int → Option (Qc1 × Bool)} {ts : List Int} {a4 : Qaf} {a5 a6 : Qc1} {v7 x9 : Int} {e : List Int} (hp : e.length < 1000) : ∀ (n k : Nat) (a : Int), k ≤ e.length → e.length < n + k →
  (x9 ∉ e.drop k ∧ Qbr K0 ts a4 a5 a6 v7 x9 e n a k = Qxp K0 a4 a5 a6 v7 x9 a) ∨ ∃ (j : Nat) (hj : j < e.length), e[j] = x9 ∧ Qbr K0 ts a4 a5 a6 v7 x9 e n a k = Qxp K0 a4 a5 a6 v7 x9 (j : Int)
 | 0, k, a, h1, h2 => by omega
 | n + 1, k, a, h1, h2 => by
  rw [Qbr]
  by_cases hk : k < e.length
  ·rw [List.drop_eq_getElem_cons hk]
   simp only [PS, hk, Qeq hk, Qiw (k := k) (by omega)]
   by_cases h : e[k] = x9
   ·right
    have h' : (e[k] == x9) = true := by simp [h]
    simp only [h', if_true]
    rcases Qy7 (ts := ts) (a4 := a4) (a5 := a5) (a6 := a6) (v7 := v7) (x9 := x9) (K0 := K0) hp n (k + 1) (k : Int) hk (by omega) with ⟨_, b⟩ | ⟨j, hj, b1, b2⟩
    ·exact ⟨k, hk, h, b⟩
    ·exact ⟨j, hj, b1, b2⟩
   ·have h' : (e[k] == x9) = false := by simpa using h
    simp only [h', Bool.false_eq_true, if_false]
    rcases Qy7 (ts := ts) (a4 := a4) (a5 := a5) (a6 := a6) (v7 := v7) (x9 := x9) (K0 := K0) hp n (k + 1) a hk (by omega) with ⟨b1, b2⟩ | ⟨j, hj, b1, b2⟩
    ·left
     refine ⟨?_, b2⟩
     rw [List.mem_cons]
     rintro (c | c)
     ·exact h c.symm
     ·exact b1 c
    ·right; exact ⟨j, hj, b1, b2⟩
  ·have : k = e.length := by omega
   subst this
   left
   simp only [PS, Nat.lt_irrefl]
   exact ⟨by simp, rfl⟩
theorem Xfo {e : List Int} (h : e.Nodup) {i j : Nat} (hi : i < e.length) (hj : j < e.length) (he : e[i] = e[j]) : i = j := by
 have hp := List.pairwise_iff_getElem.1 h
 rcases Nat.lt_trichotomy i j with hlt | heq | hlt
 ·exact (hp i j hi hj hlt he).elim
 ·exact heq
 ·exact (hp j i hj hi hlt he.symm).elim
def Qk3 : Qc1 := ⟨0, [], [], ⟨[], [], [], 0⟩⟩
theorem Xe4 (s : Qa2) (e : List Int) (n : Int) : Qqq s e n n ≠ 0 := by
 unfold Qqq
 split
 ·omega
 ·split
  ·split <;> omega
  ·simp
theorem Qt4 {p : Qaf} {ts : List Int} (hts : ts.length ≤ 200) {g : Qc1} : ∀ (n i : Nat) (r : Qc1), i ≤ ts.length → ts.length < n + i → RG p r.End → r.Code = 0 → r.Trace.length = i → r.Picks.length = i →
  ∃ (R : Qc1) (b : Bool), Qc8 ts n p g r i = some (R, b) ∧ (b = true ∧ Qal ts.length ts n p g r i = some (R, true) ∧ R.Trace.length = ts.length ∧ R.Picks.length = ts.length ∧ RG p R.End ∨ b = false ∧ R = Qk3 ∧ ∃ (R' : Qc1) (b' : Bool), Qal ts.length ts n p g r i = some (R', b') ∧ (b' = true → R'.Trace.length < ts.length))
 | 0, i, r, h1, h2, _, _, _, _ => by omega
 | n + 1, i, r, h1, h2, hR, hC, hT, hP => by
  rw [Qc8, Qal]
  have h5 := hR.n5
  obtain ⟨e, e1, e2, e3, e4, nd⟩ := enab hR
  have hcp := Xk4 hR.sc
  have ee : Qa2.mk r.End.Threads r.End.Cells r.End.Owner r.End.Fault = r.End := rfl
  simp only [ee, e2, Option.bind_some, Xby (p := p) h5 e]
  by_cases hi : i < ts.length
  ·simp only [PS, hi, Qeq hi, e1]
   have find := Qy7 (K0 := Qc8 ts n) (ts := ts) (a4 := p) (a5 := g) (a6 := r) (v7 := i) (x9 := ts[i]) (e := e) (by omega) FU 0 (-1) (by omega) (Qjo (by omega))
   rw [show ((0 : Nat) : Int) = 0 from rfl] at find
   by_cases hc : Qqq r.End e (i : Int) (ts.length : Int) = 0
   ·have hc' : (Qqq r.End e (i : Int) (ts.length : Int) != 0) = false := by simp [hc]
    simp only [hc', Bool.false_eq_true, if_false]
    have hidx := Xg2 (e := e) (x := ts[i]) (by omega) FU 0 (by omega) (Qjo (by omega))
    rw [show ((0 : Nat) : Int) = 0 from rfl] at hidx
    rw [Qgg, Qeq hi]
    simp only [Option.bind_some, Qek]
    rcases hidx with ⟨x1, x2⟩ | ⟨j, hj, x1, x2⟩
    ·rcases find with ⟨_, f2⟩ | ⟨j, hj, f1, f2⟩
     ·refine ⟨Qk3, false, ?_, .inr ⟨rfl, rfl, Qk3, false, ?_, by simp⟩⟩
      ·rw [f2]; simp [Qxp, Qk3]
      ·simp [x1, Qk3]
     ·exact (x2 (by rw [List.drop_zero, ← f1]; exact List.getElem_mem hj)).elim
    ·rcases find with ⟨f1, _⟩ | ⟨j', hj', f1, f2⟩
     ·exact (f1 (by rw [List.drop_zero, ← x2]; exact List.getElem_mem hj)).elim
     ·have hjj := Xfo nd hj' hj (f1.trans x2.symm)
      subst hjj
      obtain ⟨q, hq, eq, est, _⟩ := e4 _ (List.getElem_mem hj')
      rw [f1] at eq
      obtain ⟨z, z1, z2, z3⟩ := Xj7 hq hR est
      have z1' : Qgs p r.End ts[i] = some z := by rw [eq]; exact z1
      have z2' : Qdm r.End p ts[i] = some (z.2, z.1) := by rw [eq]; exact z2
      have d0 : decide ((j' : Int) < 0) = false := by simp <;> omega
      have ap1 : app r.Trace [z.2] = some (r.Trace ++ [z.2]) := Qhq (by simp; omega)
      have ap2 : app r.Picks [(j' : Int)] = some (r.Picks ++ [(j' : Int)]) := Qhq (by simp; omega)
      have ih := Qt4 hts (g := g) (p := p) n (i + 1) ⟨r.Code, r.Trace ++ [z.2], r.Picks ++ [(j' : Int)], z.1⟩ hi (by omega) z3 hC (by simp [hT]) (by simp [hP])
      have hw : w64 ((i : Int) + 1) = ((i + 1 : Nat) : Int) := Qiw (k := i) (by omega)
      obtain ⟨R, b, i1, i2⟩ := ih
      refine ⟨R, b, ?_, ?_⟩
      ·rw [f2, Qxp]
       simp only [d0, Bool.false_eq_true, if_false, ee, z1', Option.bind_some, ap1, ap2, hw]
       exact i1
      ·have key : (Option.bind (Qb7 e ts[i] FU 0) fun r5 => some r5).bind (fun r14 => if decide (r14 < 0) = true then some ((Qc1.mk 0 [] [] (Qa2.mk [] [] [] 0)), false) else (app r.Picks [r14]).bind fun l17 => (rd e r14).bind fun x18 => (Qdm r.End p x18).bind fun r19 => (app r.Trace [r19.1]).bind fun l20 => Qal ts.length ts n p g (Qc1.mk (Qqq r.End e i ts.length) l20 l17 r19.2) (w64 ((i : Int) + 1))) = Qal ts.length ts n p g ⟨r.Code, r.Trace ++ [z.2], r.Picks ++ [(j' : Int)], z.1⟩ ((i + 1 : Nat) : Int) := by
        simp only [x1, Option.bind_some, d0, Bool.false_eq_true, if_false, ap2, Qeq hj', f1, z2', ap1, hw, hc, hC]
       rw [key]
       exact i2
   ·have hc' : (Qqq r.End e (i : Int) (ts.length : Int) != 0) = true := by simp [hc]
    have hni : ts[i] ∉ e := by
     intro hm
     obtain ⟨q, hq, eq, est, hf, _⟩ := e4 _ hm
     apply hc
     unfold Qqq
     rw [if_neg (fun x => x hf), if_neg (by intro hl; have := List.eq_nil_of_length_eq_zero hl; rw [this] at hm; cases hm), if_neg (by omega)]
    rcases find with ⟨_, f2⟩ | ⟨j, hj, f1, f2⟩
    ·refine ⟨Qk3, false, ?_, .inr ⟨rfl, rfl, ⟨Qqq r.End e i ts.length, r.Trace, r.Picks, r.End⟩, true, ?_, fun _ => by show r.Trace.length < _; omega⟩⟩
     ·rw [f2]; simp [Qxp, Qk3]
     ·simp only [hc', if_true, hcp, Option.bind_some]
    ·exact (hni (by rw [← f1]; exact List.getElem_mem hj)).elim
  ·have : i = ts.length := by omega
   subst this
   have hc' : (Qqq r.End e (ts.length : Int) (ts.length : Int) != 0) = true := by simp [Xe4]
   simp only [PS, Nat.lt_irrefl, Xcr h5 e1, hc', hcp]
   exact ⟨_, true, rfl, .inl ⟨rfl, rfl, hT, hP, hR⟩⟩
theorem rg_sm {p : Qaf} {s : Qa2} (h : RG p s) : Qw7 s := by
 obtain ⟨a, b, c, d⟩ := h.sc
 exact ⟨⟨a, d⟩, b, c⟩
theorem Qu3 (x0 : Qaf) (x1 : List Int) (g0 : Qqj x0) (g1 : x1.length ≤ 9223372036854775807) : Qco x0 x1 = some true := by
 refine Qqk x0 x1 g0 g1 fun sm ss => ?_
 have hl : x1.length ≤ 1048576 := ss
 have none_ok : Xfc Qk3 := ⟨by show ([] : List Qad).length ≤ 1048576; simp, by show ([] : List Int).length ≤ 1048576; simp, ⟨⟨by simp [Qk3], by simp [Qk3]⟩, by show ([] : List Nat).length ≤ 1048576; simp, by show ([] : List Int).length ≤ 1048576; simp⟩⟩
 rw [Qfu, Qet, Qw1 sm g0, Qvy sm]
 cases hg : Qt0 x0
 ·exact ⟨(Qk3, false), by simp [Qk3], by simp [Qk3], none_ok⟩
 ·by_cases h200 : x1.length > 200
  ·have hd : decide ((x1.length : Int) > 200) = true := by simp; omega
   exact ⟨(Qk3, false), by simp [Qk3, hd], by simp [Qk3, hd], none_ok⟩
  ·have hd : decide ((x1.length : Int) > 200) = false := by simp; omega
   obtain ⟨s, s1, s2, s3⟩ := Xki hg (fun r hr o ho => ((g0.2.2.2.2 r hr).2 o ho).2.2.2)
   obtain ⟨R, b, r1, r2⟩ := Qt4 (p := x0) (ts := x1) (by omega) (g := Qk3) FU 0 ⟨0, [], [], s⟩ (by omega) (Qjo (by omega)) s3 rfl rfl rfl
   rw [show ((0 : Nat) : Int) = 0 from rfl] at r1 r2
   simp only [Bool.not_true, Bool.false_eq_true, if_false, Option.bind_some, hd, Qfp, Qfq, Qi1, Qce, s1, s2]
   rcases r2 with ⟨rfl, r2, r3, r4, r5⟩ | ⟨rfl, rfl, R', b', r2, r3⟩
   ·refine ⟨(R, true), ?_, ?_, ?_⟩
    ·rw [show (Qc1.mk 0 [] [] (Qa2.mk [] [] [] 0)) = Qk3 from rfl]
     rw [show (Qa2.mk s.Threads s.Cells s.Owner s.Fault) = s from rfl, r1]
     rfl
    ·rw [show (Qc1.mk 0 [] [] (Qa2.mk [] [] [] 0)) = Qk3 from rfl]
     rw [show (Qa2.mk s.Threads s.Cells s.Owner s.Fault) = s from rfl, r2]
     have : decide ((R.Trace.length : Int) < (x1.length : Int)) = false := by simp; omega
     simp only [Option.bind_some, Bool.not_true, Bool.false_eq_true, if_false, this]
    ·exact ⟨by show R.Trace.length ≤ 1048576; omega, by show R.Picks.length ≤ 1048576; omega, rg_sm r5⟩
   ·refine ⟨(Qk3, false), ?_, ?_, none_ok⟩
    ·rw [show (Qc1.mk 0 [] [] (Qa2.mk [] [] [] 0)) = Qk3 from rfl]
     rw [show (Qa2.mk s.Threads s.Cells s.Owner s.Fault) = s from rfl, r1]
     rfl
    ·rw [show (Qc1.mk 0 [] [] (Qa2.mk [] [] [] 0)) = Qk3 from rfl]
     rw [show (Qa2.mk s.Threads s.Cells s.Owner s.Fault) = s from rfl, r2]
     cases b'
     ·simp
     ·have : decide ((R'.Trace.length : Int) < (x1.length : Int)) = true := by have := r3 rfl; simp; omega
      simp only [Option.bind_some, Bool.not_true, Bool.false_eq_true, if_false, this, if_true]
end Go.Proofs.YtjcaompblpglcaaGreat
