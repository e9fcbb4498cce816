/- Plain facts for FnExactRunPicks; no condition. -/

import Derived.Test.YtjcaompblpglcaaGreatQFnExactRunPicks
set_option linter.unusedVariables false
set_option linter.unusedSimpArgs false
namespace Go.Proofs.YtjcaompblpglcaaGreat
open Go Go.T
def Qnm : Qcy := ⟨0, [], [], ⟨[], [], [], 0⟩⟩
def Qc9 (ps : List Int) (e : List Int) (i : Nat) : Int := if h : i < ps.length then Int.tmod ps[i] (e.length : Int) else 0
theorem Xij {ps e : List Int} {i : Nat} (hp : ∀ x ∈ ps, 0 ≤ x) (he : e.length ≠ 0) : ∃ (j : Nat) (hj : j < e.length), Qc9 ps e i = (j : Int) := by
 unfold Qc9
 split
 ·rename_i h
  have h0 := hp _ (List.getElem_mem h)
  have h1 : 0 ≤ Int.tmod ps[i] (e.length : Int) := Int.tmod_nonneg _ h0
  have h2 : Int.tmod ps[i] (e.length : Int) < (e.length : Int) := Int.tmod_lt_of_pos _ (by omega)
  exact ⟨(Int.tmod ps[i] (e.length : Int)).toNat, by omega, by omega⟩
 ·exact ⟨0, by omega, rfl⟩
theorem Xbq {s : Qa2} {e : List Int} {i n : Int} (h : Qp6 s e i n = 0) : e.length ≠ 0 ∧ i ≠ n := by
 unfold Qp6 at h
 split at h
 ·omega
 split at h
 ·split at h <;> omega
 split at h
 ·omega
 ·exact ⟨by assumption, by assumption⟩
theorem Xei (s : Qa2) (e : List Int) (i n : Int) : 0 ≤ Qp6 s e i n := by
 unfold Qp6
 split
 ·omega
 split
 ·split <;> omega
 split <;> omega
theorem Qy3 {p : Qaf} {ps : List Int} {m : Nat} (hm : m ≤ 200) (hps : ∀ x ∈ ps, 0 ≤ x) (hpl : ps.length ≤ 200) {g g' : Qcy} : ∀ (n n' i : Nat) (r : Qcy), i ≤ m → m < n + i → m < n' + i → RG p r.End → r.Code = 0 → r.Trace.length = i → r.Picks.length = i →
  ∃ R : Qcy, Qdb ps m n p g r = some R ∧ Qb9 m ps n' p g' r i = some (R, true) ∧ R.Trace.length ≤ 200 ∧ R.Picks.length ≤ 200 ∧ RG p R.End
 | 0, n', i, r, h1, h2, _, _, _, _, _ => by omega
 | n + 1, 0, i, r, h1, _, h2, _, _, _, _ => by omega
 | n + 1, n' + 1, i, r, h1, h2, h3, hR, hC, hT, hP => by
  rw [Qdb, Qb9]
  have h5 := hR.n5
  obtain ⟨e, e1, e2, e3, e4, nd⟩ := enab hR
  have hcp := Xln hR.sc
  have ee : Qa2.mk r.End.Threads r.End.Cells r.End.Owner r.End.Fault = r.End := rfl
  have hcs := Xdp h5 e1 (i : Int) (m : Int)
  simp only [ee, e2, Option.bind_some, Xdk (p := p) h5 e, hT, hP, hcs]
  by_cases hc : Qp6 r.End e (i : Int) (m : Int) = 0
  ·obtain ⟨he0, him⟩ := Xbq hc
   obtain ⟨j, hj, hpk⟩ := Xij (i := i) hps he0
   obtain ⟨q, hq, eq, est, _⟩ := e4 _ (List.getElem_mem hj)
   obtain ⟨z, z1, z2, z3⟩ := Xj2 hq hR est
   have z1' : Qhv p r.End e[j] = some z := by rw [eq]; exact z1
   have z2' : Qev r.End p e[j] = some (z.2, z.1) := by rw [eq]; exact z2
   have ap1 : app r.Trace [z.2] = some (r.Trace ++ [z.2]) := Qht (by simp; omega)
   have ap2 : app r.Picks [(j : Int)] = some (r.Picks ++ [(j : Int)]) := Qht (by simp; omega)
   have hw : w64 ((i : Int) + 1) = ((i + 1 : Nat) : Int) := Qjw (k := i) (by omega)
   have hnz : nz (e.length : Int) = some () := by unfold nz; rw [if_neg (by omega)]
   obtain ⟨R, i1, i2, i3⟩ := Qy3 hm hps hpl (g := g) (g' := g') (p := p) n n' (i + 1) ⟨r.Code, r.Trace ++ [z.2], r.Picks ++ [(j : Int)], z.1⟩ (by omega) (by omega) (by omega) z3 hC (by simp [hT]) (by simp [hP])
   refine ⟨R, ?_, ?_, i3⟩
   ·have j1 : Qgj (Qdb ps m n) ps m p g r (Qp6 r.End e i m) e (j : Int) = some R := by
     rw [Qgj]
     simp only [Qer hj, Option.bind_some, ee, z1', ap1, ap2, hc]
     rw [← hC]
     exact i1
    have d0 : decide (Qp6 r.End e (i : Int) (m : Int) > 0) = false := by simp; omega
    simp only [d0, Bool.false_eq_true, if_false, e1, Option.bind_some]
    by_cases hi : i < ps.length
    ·have hi' : decide ((i : Int) < (ps.length : Int)) = true := by simp; omega
     have : Qc9 ps e i = Int.tmod ps[i] (e.length : Int) := by unfold Qc9; rw [dif_pos hi]
     simp only [hi', if_true, Qer hi, Option.bind_some, hnz, ← this, hpk]
     exact j1
    ·have hi' : decide ((i : Int) < (ps.length : Int)) = false := by simp; omega
     have : Qc9 ps e i = 0 := by unfold Qc9; rw [dif_neg hi]
     simp only [hi', Bool.false_eq_true, if_false]
     rw [← this, hpk]
     exact j1
   ·have hc' : (Qp6 r.End e (i : Int) (m : Int) != 0) = false := by simp [hc]
    have hp1 : Qg2 e (i : Int) ps = some (j : Int) := by
     rw [Qg2]
     by_cases hi : i < ps.length
     ·have hi' : decide ((i : Int) ≥ (ps.length : Int)) = false := by simp; omega
      have : Qc9 ps e i = Int.tmod ps[i] (e.length : Int) := by unfold Qc9; rw [dif_pos hi]
      simp only [hi', Bool.false_eq_true, if_false, Qer hi, Option.bind_some, hnz, ← this, hpk]
     ·have hi' : decide ((i : Int) ≥ (ps.length : Int)) = true := by simp; omega
      have : Qc9 ps e i = 0 := by unfold Qc9; rw [dif_neg hi]
      simp only [hi', if_true, ← this, hpk]
    have d0 : decide ((j : Int) < 0) = false := by simp <;> omega
    simp only [hc', Bool.false_eq_true, if_false, hp1, Option.bind_some, d0, ap2, Qer hj, z2', ap1, hw]
    rw [show Qp6 r.End e (i : Int) (m : Int) = r.Code by rw [hc, hC]]
    exact i2
  ·have hc' : (Qp6 r.End e (i : Int) (m : Int) != 0) = true := by simp [hc]
   have hpos := Xei r.End e (i : Int) (m : Int)
   have d0 : decide (Qp6 r.End e (i : Int) (m : Int) > 0) = true := by simp; omega
   simp only [d0, if_true, hc', hcp, Option.bind_some]
   exact ⟨_, rfl, rfl, by show r.Trace.length ≤ 200; omega, by show r.Picks.length ≤ 200; omega, hR⟩
theorem Xfj {ps : List Int} (h : ps.length ≤ 1048576) : Qhi ps 200 = some (decide (ps.length ≤ 200) && ps.all (fun x => inr x 0 999)) := by
 obtain ⟨r, e1, e2⟩ := Xhy (p := ps) (t := fun x => Qga x) (q := fun x => !inr x 0 999) (F := Qai ps) (by intros; rw [Qai]) (by omega) (fun x _ => by rw [Qga, Qjf]; rfl)
 have e3 : Qat ps = some (!ps.all (fun x => inr x 0 999)) := by
  rw [Qat, Qbc, e1]
  simp only [PS, e2]
  rw [List.not_all_eq_any_not]
 rw [Qhi, e3]
 by_cases h2 : ps.length ≤ 200
 ·have : decide ((ps.length : Int) ≤ 200) = true := by simp; omega
  simp [this, h2]
 ·have : decide ((ps.length : Int) ≤ 200) = false := by simp; omega
  simp [this, h2]
theorem Xi6 {ps : List Int} (h : ps.length ≤ 1048576) : Qic ps = some (decide (ps.length ≤ 200) && ps.all (fun x => inr x 0 999)) := by
 rw [Qic, Xfv h]
 by_cases h2 : ps.length ≤ 200
 ·have : decide ((ps.length : Int) ≤ 200) = true := by simp; omega
  simp [this, h2]
 ·have : decide ((ps.length : Int) ≤ 200) = false := by simp; omega
  simp [this, h2]
theorem rg_sm {p : Qaf} {s : Qa2} (h : RG p s) : Qwd s := by
 obtain ⟨a, b, c, d⟩ := h.sc
 exact ⟨⟨a, d⟩, b, c⟩
theorem Qxr (x0 : Qaf) (x1 : List Int) (x2 : Int) (g0 : Qqe x0) (g1 : x1.length ≤ 9223372036854775807) (g2 : (Lit.int .i64 x2).wf = true) : Qd7 x0 x1 x2 = some true := by
 refine Qtf x0 x1 x2 g0 g1 g2 fun sm ss => ?_
 have hl : x1.length ≤ 1048576 := ss
 have none_ok : Xfo Qnm := ⟨by show ([] : List Qad).length ≤ 1048576; simp, by show ([] : List Int).length ≤ 1048576; simp, ⟨⟨by simp [Qnm], by simp [Qnm]⟩, by show ([] : List Nat).length ≤ 1048576; simp, by show ([] : List Int).length ≤ 1048576; simp⟩⟩
 rw [Qhg, Qgi, Qvp sm g0, Qwi sm, Xi6 hl, Qi0, Qjf]
 cases hg : Qsh x0
 ·exact ⟨(Qnm, false), by simp [Qnm], by simp [Qnm], none_ok⟩
 simp only [Option.bind_some, Xfj (ps := x1) hl]
 cases hp : decide (x1.length ≤ 200) && x1.all (fun x => inr x 0 999)
 ·exact ⟨(Qnm, false), by simp [Qnm], by simp [Qnm], none_ok⟩
 cases hm : inr x2 0 200
 ·exact ⟨(Qnm, false), by simp [Qnm], by simp [Qnm], none_ok⟩
 have hm' := Qbz.1 hm
 simp only [Bool.and_eq_true, decide_eq_true_eq, List.all_eq_true] at hp
 obtain ⟨s, s1, s2, s3⟩ := Xlt hg (fun r hr o ho => ((g0.2.2.2.2 r hr).2 o ho).2.2.2)
 obtain ⟨R, r1, r2, r3, r4, r5⟩ := Qy3 (p := x0) (ps := x1) (m := x2.toNat) (by omega) (fun x hx => (Qbz.1 (hp.2 x hx)).1) hp.1 (g := Qnm) (g' := Qnm) FU FU 0 ⟨0, [], [], s⟩ (by omega) (Qjp (by omega)) (Qjp (by omega)) s3 rfl rfl rfl
 rw [show ((0 : Nat) : Int) = 0 from rfl] at r2
 rw [show ((x2.toNat : Nat) : Int) = x2 by omega] at r1 r2
 refine ⟨(R, true), ?_, ?_, by show R.Trace.length ≤ 1048576; omega, by show R.Picks.length ≤ 1048576; omega, rg_sm r5⟩
 ·simp only [Bool.not_true, Bool.false_eq_true, if_false, Qmv, s1, Option.bind_some]
  rw [show (Qcy.mk 0 [] [] (Qa2.mk [] [] [] 0)) = Qnm from rfl, show (Qa2.mk s.Threads s.Cells s.Owner s.Fault) = s from rfl, r1]
  rfl
 ·simp only [Bool.not_true, Bool.false_eq_true, if_false, Qj5, Qcs, s2, Option.bind_some]
  rw [show (Qcy.mk 0 [] [] (Qa2.mk [] [] [] 0)) = Qnm from rfl, show (Qa2.mk s.Threads s.Cells s.Owner s.Fault) = s from rfl, r2]
  rfl
end Go.Proofs.YtjcaompblpglcaaGreat
