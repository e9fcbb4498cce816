/- Plain facts for FnExactSpotOf; no condition. -/

import Derived.Test.YtemmdkcpcjidmaaGreatRPa
set_option linter.unusedVariables false
set_option linter.unusedSimpArgs false
namespace Go.Proofs.YtemmdkcpcjidmaaGreat
open Go Go.T
def DoF (s s' : Qa1) (k : Int) (ev : Qab) : Prop := s.Threads.length ≤ s'.Threads.length ∧ ∀ i : Nat, i ≠ k.toNat → i < s.Threads.length → s'.Threads[i]? = s.Threads[i]? ∨ (ev.Kind = 10 ∧ ev.Lock = (i : Int) ∧ ∃ t, s.Threads[i]? = some t ∧ s'.Threads[i]? = some ⟨t.Routine, t.Pc, 4, t.Cond, t.Lock, t.Stack⟩)
theorem dof1 {s : Qa1} {k : Int} {t : Qa0} {C : List Nat} {O : List Int} {F : Int} {ev : Qab} : DoF s ⟨s.Threads.set k.toNat t, C, O, F⟩ k ev :=
 ⟨by simp, fun i hi _ => .inl (List.getElem?_set_ne (Ne.symm hi))⟩
theorem Xh4 {s : Qa1} {k : Int} {t u : Qa0} {C : List Nat} {O : List Int} {F : Int} {ev : Qab} : DoF s ⟨(s.Threads.set k.toNat t).set k.toNat u, C, O, F⟩ k ev := by rw [List.set_set]; exact dof1
theorem dof3 {s : Qa1} {k : Int} {t u v : Qa0} {C : List Nat} {O : List Int} {F : Int} {ev : Qab} : DoF s ⟨((s.Threads.set k.toNat t).set k.toNat u).set k.toNat v, C, O, F⟩ k ev := by rw [List.set_set, List.set_set]; exact dof1
theorem Xjk {s s' : Qa1} {k : Int} {o : GOp} {e ev : Qab} (h : Qav s k o e = some (ev, s')) : ev.Thread = e.Thread ∧ DoF s s' k ev := by
 unfold Qav at h
 obtain ⟨x5, _, h⟩ := bnS h
 obtain ⟨r6, _, h⟩ := bnS h
 obtain ⟨l7, _, h⟩ := bnS h
 obtain ⟨r8, _, h⟩ := bnS h
 obtain ⟨l9, _, h⟩ := bnS h
 rcases itS h with ⟨_, h⟩ | ⟨_, h⟩
 ·obtain ⟨_, _, h⟩ := bnS h
  cases h; exact ⟨rfl, dof3⟩
 rcases itS h with ⟨_, h⟩ | ⟨_, h⟩
 ·obtain ⟨_, _, h⟩ := bnS h
  obtain ⟨_, _, h⟩ := bnS h
  cases h; exact ⟨rfl, dof3⟩
 rcases itS h with ⟨_, h⟩ | ⟨_, h⟩
 ·obtain ⟨_, _, h⟩ := bnS h
  obtain ⟨_, _, h⟩ := bnS h
  cases h; exact ⟨rfl, Xh4⟩
 rcases itS h with ⟨_, h⟩ | ⟨_, h⟩
 ·cases h; exact ⟨rfl, Xh4⟩
 rcases itS h with ⟨_, h⟩ | ⟨_, h⟩
 ·obtain ⟨_, _, h⟩ := bnS h
  obtain ⟨_, _, h⟩ := bnS h
  rcases itS h with ⟨_, h⟩ | ⟨_, h⟩
  ·cases h; exact ⟨rfl, Xh4⟩
  ·cases h; exact ⟨rfl, Xh4⟩
 rcases itS h with ⟨_, h⟩ | ⟨_, h⟩
 ·obtain ⟨_, _, h⟩ := bnS h
  cases h; exact ⟨rfl, Xh4⟩
 rcases itS h with ⟨_, h⟩ | ⟨_, h⟩
 ·obtain ⟨_, _, h⟩ := bnS h
  cases h; exact ⟨rfl, Xh4⟩
 rcases itS h with ⟨_, h⟩ | ⟨_, h⟩
 ·obtain ⟨_, _, h⟩ := bnS h
  obtain ⟨_, _, h⟩ := bnS h
  obtain ⟨l48, hx, h⟩ := bnS h
  have hy := Xgo hx
  cases h
  refine ⟨rfl, ?_, fun i hi hl => .inl ?_⟩
  ·show s.Threads.length ≤ l48.length
   rw [← hy]; simp
  ·show l48[i]? = _
   rw [← hy, List.getElem?_append_left (by simpa using hl), List.set_set, List.set_set, List.getElem?_set_ne (Ne.symm hi)]
 rcases itS h with ⟨_, h⟩ | ⟨_, h⟩
 ·obtain ⟨_, _, h⟩ := bnS h
  obtain ⟨_, _, h⟩ := bnS h
  cases h; exact ⟨rfl, Xh4⟩
 rcases itS h with ⟨_, h⟩ | ⟨_, h⟩
 ·obtain ⟨_, _, h⟩ := bnS h
  cases h; exact ⟨rfl, Xh4⟩
 rcases itS h with ⟨_, h⟩ | ⟨_, h⟩
 ·obtain ⟨r58, _, h⟩ := bnS h
  rcases itS h with ⟨c, h⟩ | ⟨_, h⟩
  ·obtain ⟨x60, hx, h⟩ := bnS h
   cases h
   rw [List.set_set] at hx ⊢
   have hr : 0 ≤ r58 := by simpa using c
   have hx' : (s.Threads.set k.toNat ⟨x5.Routine, w64 (x5.Pc + 1), x5.State, x5.Cond, x5.Lock, l9⟩)[r58.toNat]? = some x60 := rdE hx
   refine ⟨rfl, by simp, fun i hi hl => ?_⟩
   by_cases hir : i = r58.toNat
   ·refine .inr ⟨rfl, by show r58 = _; omega, x60, ?_, ?_⟩
    ·rw [← hir, List.getElem?_set_ne (Ne.symm hi)] at hx'; exact hx'
    ·subst hir; simp [hl]
   ·refine .inl ?_
    show ((s.Threads.set _ _).set _ _)[i]? = _
    rw [List.getElem?_set_ne (fun e => hir e.symm), List.getElem?_set_ne (Ne.symm hi)]
  ·cases h; exact ⟨rfl, Xh4⟩
 ·obtain ⟨_, _, h⟩ := bnS h
  obtain ⟨_, _, h⟩ := bnS h
  obtain ⟨_, _, h⟩ := bnS h
  obtain ⟨_, _, h⟩ := bnS h
  cases h; exact ⟨rfl, dof3⟩
theorem Xfm {s s' : Qa1} {p : Qag} {k : Int} {ev : Qab} (h : Qcm s p k = some (ev, s')) : ev.Thread = k ∧ DoF s s' k ev := by
 unfold Qcm at h
 obtain ⟨x4, _, h⟩ := bnS h
 obtain ⟨r5, _, h⟩ := bnS h
 rcases itS h with ⟨_, h⟩ | ⟨_, h⟩
 ·obtain ⟨x7, _, h⟩ := bnS h
  obtain ⟨r8, _, h⟩ := bnS h
  cases h; exact ⟨rfl, dof1⟩
 rcases itS h with ⟨_, h⟩ | ⟨_, h⟩
 ·cases h; exact ⟨rfl, dof1⟩
 obtain ⟨r12, _, h⟩ := bnS h
 rcases itS h with ⟨_, h⟩ | ⟨_, h⟩
 ·cases h; exact ⟨rfl, Nat.le_refl _, fun i _ _ => .inl rfl⟩
 obtain ⟨r15, hd, h⟩ := bnS h
 cases h
 exact Xjk hd
structure St1 (p : Qag) (s : Qa1) (x : Int) (ev : Qab) (s' : Qa1) : Prop where
 rg : RG p s
 rg' : RG p s'
 sp : Qh0 p s x = some (s', ev)
 im : Qcm s p x = some (ev, s')
 th : ev.Thread = x
 x0 : 0 ≤ x
 xl : x < s.Threads.length
 mo : s.Threads.length ≤ s'.Threads.length
inductive Xdw (p : Qag) : Qa1 → List Int → List Qab → Qa1 → Prop
 | nil {s : Qa1} : Xdw p s [] [] s
 | cons {s s1 s2 : Qa1} {e : List Int} {j : Nat} {ev : Qab} {K : List Int} {T : List Qab} (hj : j < e.length) (e1 : Qdf p s = some e) (e2 : Qd5 s p = some e) (el : e.length ≤ 5) (nd : e.Nodup) (h : St1 p s e[j] ev s1) (t : Xdw p s1 K T s2) : Xdw p s ((j : Int) :: K) (ev :: T) s2
theorem Xdw.len {p : Qag} {s s' : Qa1} {K : List Int} {T : List Qab} (h : Xdw p s K T s') : K.length = T.length ∧ s.Threads.length ≤ s'.Threads.length := by
 induction h with
 | nil => exact ⟨rfl, Nat.le_refl _⟩
 | cons _ _ _ _ _ h _ ih => exact ⟨by simp [ih.1], Nat.le_trans h.mo ih.2⟩
theorem Xdw.thr {p : Qag} {s s' : Qa1} {K : List Int} {T : List Qab} (h : Xdw p s K T s') : ∀ e ∈ T, 0 ≤ e.Thread ∧ e.Thread < s'.Threads.length := by
 induction h with
 | nil => simp
 | cons _ _ _ _ _ h t ih =>
  intro e he
  rw [List.mem_cons] at he
  rcases he with rfl | he
  ·have := t.len.2
   have := h.xl; have := h.x0; have := h.mo
   rw [h.th]; omega
  ·exact ih e he
theorem Qvx {p : Qag} {ps : List Int} {m : Nat} (hm : m ≤ 200) (hps : ∀ x ∈ ps, 0 ≤ x) (hpl : ps.length ≤ 200) {g g' : Qbx} : ∀ (n n' i : Nat) (r : Qbx), i ≤ m → m < n + i → m < n' + i → RG p r.End → r.Code = 0 → r.Trace.length = i → r.Picks.length = i →
  ∃ (R : Qbx) (K : List Int) (T : List Qab), Qdc ps m n p g r = some R ∧ Qbb m ps n' p g' r i = some (R, true) ∧ R.Trace.length ≤ 200 ∧ R.Picks.length ≤ 200 ∧ RG p R.End ∧ Xdw p r.End K T R.End ∧ R.Trace = r.Trace ++ T ∧ R.Picks = r.Picks ++ K
 | 0, n', i, r, h1, h2, _, _, _, _, _ => by omega
 | n + 1, 0, i, r, h1, _, h2, _, _, _, _ => by omega
 | n + 1, n' + 1, i, r, h1, h2, h3, hR, hC, hT, hP => by
  rw [Qdc, Qbb]
  have h5 := hR.n5
  obtain ⟨e, e1, e2, e3, e4, nd⟩ := enab hR
  have hcp := Xmp hR.sc
  have ee : Qa1.mk r.End.Threads r.End.Cells r.End.Owner r.End.Fault = r.End := rfl
  have hcs := Xdd h5 e1 (i : Int) (m : Int)
  simp only [ee, e2, Option.bind_some, Xdk (p := p) h5 e, hT, hP, hcs]
  by_cases hc : Qod r.End e (i : Int) (m : Int) = 0
  ·obtain ⟨he0, him⟩ := Xc7 hc
   obtain ⟨j, hj, hpk⟩ := Xk9 (i := i) hps he0
   obtain ⟨q, hq, eq, est, _⟩ := e4 _ (List.getElem_mem hj)
   obtain ⟨z, z1, z2, z3⟩ := Xl7 hq hR est
   have z1' : Qh0 p r.End e[j] = some z := by rw [eq]; exact z1
   have z2' : Qcm r.End p e[j] = some (z.2, z.1) := by rw [eq]; exact z2
   obtain ⟨f1, f2⟩ := Xfm z2'
   have st1 : St1 p r.End e[j] z.2 z.1 := ⟨hR, z3, z1', z2', f1, by rw [eq]; omega, by rw [eq]; omega, f2.1⟩
   have ap1 : app r.Trace [z.2] = some (r.Trace ++ [z.2]) := Qht (by simp; omega)
   have ap2 : app r.Picks [(j : Int)] = some (r.Picks ++ [(j : Int)]) := Qht (by simp; omega)
   have hw : w64 ((i : Int) + 1) = ((i + 1 : Nat) : Int) := Qk2 (k := i) (by omega)
   have hnz : nz (e.length : Int) = some () := by unfold nz; rw [if_neg (by omega)]
   obtain ⟨R, K, T, i1, i2, i3, i4, i5, i6, i7, i8⟩ := Qvx hm hps hpl (g := g) (g' := g') (p := p) n n' (i + 1) ⟨r.Code, r.Trace ++ [z.2], r.Picks ++ [(j : Int)], z.1⟩ (by omega) (by omega) (by omega) z3 hC (by simp [hT]) (by simp [hP])
   refine ⟨R, (j : Int) :: K, z.2 :: T, ?_, ?_, i3, i4, i5, .cons hj e1 e2 e3 nd st1 i6, by rw [i7]; simp, by rw [i8]; simp⟩
   ·have j1 : Qgf (Qdc ps m n) ps m p g r (Qod r.End e i m) e (j : Int) = some R := by
     rw [Qgf]
     simp only [Qg6 hj, Option.bind_some, ee, z1', ap1, ap2, hc]
     rw [← hC]
     exact i1
    have d0 : decide (Qod r.End e (i : Int) (m : Int) > 0) = false := by simp; omega
    simp only [d0, Bool.false_eq_true, if_false, e1, Option.bind_some]
    by_cases hi : i < ps.length
    ·have hi' : decide ((i : Int) < (ps.length : Int)) = true := by simp; omega
     have : Qce ps e i = Int.tmod ps[i] (e.length : Int) := by unfold Qce; rw [dif_pos hi]
     simp only [hi', if_true, Qg6 hi, Option.bind_some, hnz, ← this, hpk]
     exact j1
    ·have hi' : decide ((i : Int) < (ps.length : Int)) = false := by simp; omega
     have : Qce ps e i = 0 := by unfold Qce; rw [dif_neg hi]
     simp only [hi', Bool.false_eq_true, if_false]
     rw [← this, hpk]
     exact j1
   ·have hc' : (Qod r.End e (i : Int) (m : Int) != 0) = false := by simp [hc]
    have hp1 : Qg0 e (i : Int) ps = some (j : Int) := by
     rw [Qg0]
     by_cases hi : i < ps.length
     ·have hi' : decide ((i : Int) ≥ (ps.length : Int)) = false := by simp; omega
      have : Qce ps e i = Int.tmod ps[i] (e.length : Int) := by unfold Qce; rw [dif_pos hi]
      simp only [hi', Bool.false_eq_true, if_false, Qg6 hi, Option.bind_some, hnz, ← this, hpk]
     ·have hi' : decide ((i : Int) ≥ (ps.length : Int)) = true := by simp; omega
      have : Qce ps e i = 0 := by unfold Qce; rw [dif_neg hi]
      simp only [hi', if_true, ← this, hpk]
    have d0 : decide ((j : Int) < 0) = false := by simp <;> omega
    simp only [hc', Bool.false_eq_true, if_false, hp1, Option.bind_some, d0, ap2, Qg6 hj, z2', ap1, hw]
    rw [show Qod r.End e (i : Int) (m : Int) = r.Code by rw [hc, hC]]
    exact i2
  ·have hc' : (Qod r.End e (i : Int) (m : Int) != 0) = true := by simp [hc]
   have hpos := Xf5 r.End e (i : Int) (m : Int)
   have d0 : decide (Qod r.End e (i : Int) (m : Int) > 0) = true := by simp; omega
   simp only [d0, if_true, hc', hcp, Option.bind_some]
   exact ⟨_, [], [], rfl, rfl, by show r.Trace.length ≤ 200; omega, by show r.Picks.length ≤ 200; omega, hR, .nil, by simp, by simp⟩
theorem Qzs {p : Qag} {ps : List Int} {m : Nat} (hg : Qje p = true) (hv : ∀ r ∈ p.Routines, ∀ o ∈ r, o.V < 18446744073709551616) (hm : m ≤ 200) (hps : ∀ x ∈ ps, 0 ≤ x) (hpl : ps.length ≤ 200) :
  ∃ (R : Qbx) (s : Qa1), Qhz p ps m = some R ∧ Qgb p ps m = some R ∧ R.Trace.length ≤ 200 ∧ R.Picks.length ≤ 200 ∧ RG p R.End ∧ Qga p = some s ∧ Qgd p = some s ∧ Xdw p s R.Picks R.Trace R.End := by
 obtain ⟨s, s1, s2, s3⟩ := Xne hg hv
 obtain ⟨R, K, T, r1, r2, r3, r4, r5, r6, r7, r8⟩ := Qvx (p := p) (ps := ps) (m := m) hm hps hpl (g := Xfg) (g' := Xfg) FU FU 0 ⟨0, [], [], s⟩ (by omega) (Qjt (by omega)) (Qjt (by omega)) s3 rfl rfl rfl
 rw [show ((0 : Nat) : Int) = 0 from rfl] at r2
 have e7 : R.Trace = T := by rw [r7]; rfl
 have e8 : R.Picks = K := by rw [r8]; rfl
 refine ⟨R, s, ?_, ?_, r3, r4, r5, s1, s2, by rw [e7, e8]; exact r6⟩
 ·simp only [Qhz, s1, Option.bind_some]
  rw [show (Qbx.mk 0 [] [] (Qa1.mk [] [] [] 0)) = Xfg from rfl, show (Qa1.mk s.Threads s.Cells s.Owner s.Fault) = s from rfl, r1]
 ·simp only [Qgb, Qcx, s2, Option.bind_some]
  rw [show (Qbx.mk 0 [] [] (Qa1.mk [] [] [] 0)) = Xfg from rfl, show (Qa1.mk s.Threads s.Cells s.Owner s.Fault) = s from rfl, r2]
  rfl
end Go.Proofs.YtemmdkcpcjidmaaGreat
