/- Lemmas for FnExactOrderOf; no condition. -/

import Derived.Test.YtjcaompblpglcaaTW
import Derived.Test.YtjcaompblpglcaaTK
set_option linter.unusedVariables false
namespace Go.T
open Go Go.RowKit Go.Proofs
abbrev Xs := List (Nat × Option Qao) × List Nat
end Go.T
set_option linter.unusedVariables false
namespace Go.T
open Go Go.RowKit
end Go.T
set_option linter.unusedVariables false
namespace Go.T
open Go Go.RowKit
end Go.T
set_option linter.unusedVariables false
namespace Go.T
open Go Go.RowKit
theorem Qmc {w : World} {S U : Nat → Prop} {ρ : Tab} : ∀ {x : List AV} {us : List Value} {f : List Nat}, Qa7 w S U ρ x us f → ∀ (o : Nat), ∃ f', Qa7 w S U ρ (x.set o .dead) us f' ∧ f'.Sublist f
 | [], us, f, h, o => ⟨f, by simpa using h, List.Sublist.refl _⟩
 | c :: cs, us, f, h, o => by
  simp only [Qa7] at h
  obtain ⟨u, us', f1, f2, rfl, rfl, k1, k2⟩ := h
  cases o with
  | zero =>
   refine ⟨f2, ?_, List.sublist_append_right _ _⟩
   simp only [List.set_cons_zero, Qa7]
   exact ⟨u, us', [], f2, rfl, rfl, by simp [repR, rep], k2⟩
  | succ o =>
   obtain ⟨f', h1, h2⟩ := Qmc k2 o
   refine ⟨f1 ++ f', ?_, List.Sublist.append (List.Sublist.refl _) h2⟩
   simp only [List.set_cons_succ, Qa7]
   exact ⟨u, us', f1, f', rfl, rfl, k1, h1⟩
theorem Qbg.forget {E : Env} {s : St} {a : Act} {w : World} {χ : Nat → Option Nat} {hd : Nat → Value} (h : Qbg E s a w χ hd) {i : Nat} {R : Qao} (hR : s.root i = some R) {e o : Nat} {x : List AV} (he : R.xs[e]? = some x) :
  Qbg E (s.setR i ⟨R.T, R.sz, R.xs.set e (x.set o .dead)⟩) a w χ hd := by
 obtain ⟨hus, fp, ⟨hz, vs, fp', hown, hrep, rfl⟩, hnd, hcol⟩ := h.rts i R hR
 have helt : e < R.xs.length := (List.getElem?_eq_some_iff.1 he).1
 obtain ⟨v1, us, v2, f1, fe, f2, rfl, rfl, hl1, hlus, h1c, k1, kx, k2⟩ := Qe4 hrep he
 obtain ⟨fe', kx', hsub⟩ := Qmc kx o
 have hij : i ≠ JJ := fun e => by rw [e, h.rj] at hR; cases hR
 have htab : tab (s.setR i ⟨R.T, R.sz, R.xs.set e (x.set o .dead)⟩) hd = tab s hd := by
  funext j
  by_cases hj : j = i
  ·subst hj; simp [tab, St.root_setR_same, hR]
  ·simp [tab, St.root_setR_ne s hj]
 have hs2 : ((hd i).ownBlock.toList ++ (f1 ++ fe' ++ f2)).Sublist ((hd i).ownBlock.toList ++ (f1 ++ fe ++ f2)) :=
  List.Sublist.append (List.Sublist.refl _) (List.Sublist.append (List.Sublist.append (List.Sublist.refl _) hsub) (List.Sublist.refl _))
 refine ⟨h.defers, h.size, h.os, h.tape, h.output, h.hsz, h.frame, h.fx, h.jj, by rw [St.root_setR_ne s (Ne.symm hij)]; exact h.rj, h.jk, h.col, ?_, ?_⟩
 ·intro j Q hQ
  rw [htab]
  by_cases hj : j = i
  ·subst hj
   rw [St.root_setR_same] at hQ
   cases hQ
   exact ⟨hus, _, ⟨hz, v1 ++ us ++ v2, f1 ++ fe' ++ f2, by rw [List.length_set]; exact hown, Qfj helt k1 hlus h1c kx' k2, rfl⟩, hnd.sublist hs2, fun b hb => hcol b (hs2.subset hb)⟩
  ·rw [St.root_setR_ne s hj] at hQ
   exact h.rts j Q hQ
 ·intro t
  rw [htab]
  exact h.slots t
end Go.T
set_option linter.unusedVariables false
namespace Go.T
open Go Go.RowKit Go.Proofs
theorem Qpe {E : Env} {o : Oper} {s : St} {x : Operand} {f : FuncId} {caps : List AV} {args : Array Operand} {tys : Array TypeId} (ho : o.op = .call ⟨.value x, args, tys⟩) (hx : Qae s x = .fn f caps) (hd : okD E.n o.dst = true) (ht : Qdq (args.toList.map (Qae s) ++ caps) = true) {res : AV} (hm : Qaa E.P f (args.toList.map (Qae s) ++ caps) res)
    (ids : List Nat) (hin : ids.Nodup) (hids : ∀ i ∈ ids, i ∉ s.us) : Qk3 E o s ((s.addL (rtf res ids).2.1).putO o.dst (rtf res ids).1) := by
  rintro a w ⟨χ, hd', h⟩ K Q hk
  obtain ⟨dst, op, type, pos, after, guard⟩ := o
  simp only at ho hd hk
  subst ho
  obtain ⟨hent, hm⟩ := hm
  have hxr := Qab h x
  rw [hx] at hxr
  simp only [repR] at hxr
  obtain ⟨vs, hxv, hcr⟩ := hxr
  have hargs := Qcn _ _ _ (Qci (Qf7 h args.toList) hcr) ht
  have hc := hm w (Qb3 χ w) _ hargs (fun _ h => h.2)
  have hrun : (execOp a.eval ⟨dst, .call ⟨.value x, args, tys⟩, type, pos, after, guard⟩).run E.P w = .ok (.enter f (args.toList.map a.eval ++ vs).toArray) w := by
    have e1 : (args.toList.map a.eval ++ vs).toArray = args.map a.eval ++ vs.toArray := by
      rw [← Array.toList_map]
      apply Array.ext'
      simp
    simp only [execOp, resolve, hxv, invoke, Deferred.ofValue, Sem.run_bind, Sem.run_pure, Result.andThen_ok]
    simp only [Array.empty_append]
    rw [e1]
    exact hent _ w
  unfold Oper.wp
  rw [hrun]
  show Calls E.P f _ w _
  refine hc.mono ?_
  rintro e w' ⟨v, fp, rfl, hb, hdr, hr, hn, hge⟩
  show K _ _
  obtain ⟨κ, hκ⟩ : ∃ κ : Nat, κ ∉ s.us ∧ κ ∉ ids ∧ κ ≠ JJ := by
    have : ∃ κ : Nat, ∀ x ∈ s.us ++ ids ++ [JJ], x < κ := by
      generalize s.us ++ ids ++ [JJ] = l
      induction l with
      | nil => exact ⟨0, by simp⟩
      | cons y l ih =>
        obtain ⟨κ, hκ⟩ := ih
        refine ⟨max κ (y + 1), ?_⟩
        intro x hx
        rcases List.mem_cons.1 hx with rfl | hx
        · omega
        · have := hκ x hx; omega
    obtain ⟨κ, hκ⟩ := this
    refine ⟨κ, fun hm => ?_, fun hm => ?_, fun hm => ?_⟩
    · have := hκ κ (by simp [hm]); omega
    · have := hκ κ (by simp [hm]); omega
    · have := hκ JJ (by simp); omega
  have hlt := Qj0 _ _ _ hr
  have h1 := h.grow hb hdr (fun b => if b ∈ fp then some κ else none) (fun b r hbr => by
    split at hbr
    · rename_i hm; exact hlt b hm
    · cases hbr)
  have hr2 : rep w' (Qb3 (fun b => if b < w.heap.size then χ b else if b ∈ fp then some κ else none) w') res v fp := by
    refine Qb2 _ _ _ hr (fun b hb => ⟨?_, hb.2.1⟩) (fun _ _ => rfl) (fun _ _ => rfl)
    by_cases hlt : b < w.heap.size
    · simp only [hlt, if_true]
      rcases hb.1 with h2 | h2
      · exact h2.1
      · omega
    · simp only [hlt, hb.2.2, if_false]
  obtain ⟨χ2, hd2, n2, r2, _, _, _⟩ := Qk9 (κ := κ) res v fp ids s _ hd' h1 hr2 hn (fun b hb => by
      have := hge b hb
      rw [if_neg (by omega), if_pos hb]) (fun b hb => by have := hge b hb; have := h.hsz; omega) (fun b hb hj => by
      have h3 := h.jk b hj
      have h4 := (h.col b _ h3).2
      have := hge b hb
      omega) (fun R i hR => fun e => hκ.1 (e ▸ (h.rts i R hR).1)) hin (fun i hi => ⟨hids i hi, fun e => hκ.2.1 (e ▸ hi)⟩)
  exact hk _ _ ⟨χ2, hd2, n2.rel.putO hd r2⟩
end Go.T
set_option linter.unusedVariables false
namespace Go.T
open Go Go.RowKit Go.Proofs
def hid (V : Nat → Value) (ks : List Nat) : Nat → List AV → List AV
 | _, [] => []
 | k, c :: cs => (if ks.contains k then .lit (V k) else c) :: hid V ks (k + 1) cs
def unh (ks : List Nat) : Nat → List AV → List AV → List AV
 | k, c :: cs, d :: ds => (if ks.contains k then c else d) :: unh ks (k + 1) cs ds
 | _, _, ds => ds
def hidC (s : St) (i : Nat) : AV → Bool
 | .sl j _ _ => !(j == i) && (s.root j).isSome
 | _ => false
def Qqv (s : St) (i : Nat) (ks : List Nat) : Nat → List AV → Bool
 | _, [] => true
 | k, c :: cs => (if ks.contains k then hidC s i c else true) && Qqv s i ks (k + 1) cs
theorem Qr6 {s : St} {i : Nat} {c : AV} (h : hidC s i c = true) : ∃ j o n R, c = .sl j o n ∧ j ≠ i ∧ s.root j = some R := by
 unfold hidC at h
 split at h
 ·rename_i j o n
  simp only [Bool.and_eq_true, Bool.not_eq_true', beq_eq_false_iff_ne] at h
  obtain ⟨R, hR⟩ := Option.isSome_iff_exists.1 h.2
  exact ⟨j, o, n, R, rfl, h.1, hR⟩
 ·cases h
theorem Qms {s : St} {i : Nat} {ks : List Nat} : ∀ {x : List AV} {k : Nat}, Qqv s i ks k x = true → ∀ {m : Nat} {c : AV}, x[m]? = some c → ks.contains (k + m) = true → hidC s i c = true
 | [], k, h, m, c, hc, _ => by simp at hc
 | d :: ds, k, h, m, c, hc, hk => by
  simp only [Qqv, Bool.and_eq_true] at h
  cases m with
  | zero =>
   simp only [List.getElem?_cons_zero, Option.some.injEq] at hc
   subst hc
   rw [Nat.add_zero] at hk
   have := h.1
   rwa [if_pos hk] at this
  | succ m =>
   rw [List.getElem?_cons_succ] at hc
   exact Qms h.2 hc (by rw [show k + 1 + m = k + (m + 1) by omega]; exact hk)
theorem Qsy {w : World} {S U : Nat → Prop} {ρ : Tab} {ks : List Nat} {V : Nat → Value} : ∀ {x : List AV} {us : List Value} {f : List Nat} {k : Nat}, Qa7 w S U ρ x us f → (∀ m u, us[m]? = some u → V (k + m) = u) → (∀ m c, x[m]? = some c → ks.contains (k + m) = true → ∀ u f', repR w S U ρ c u f' → f' = []) → Qa7 w S U ρ (hid V ks k x) us f
 | [], us, f, k, h, _, _ => h
 | c :: cs, us, f, k, h, hV, hn => by
  simp only [Qa7, hid] at h ⊢
  obtain ⟨u, us', f1, f2, rfl, rfl, k1, k2⟩ := h
  refine ⟨u, us', f1, f2, rfl, rfl, ?_, Qsy k2 (fun m v hm => ?_) (fun m d hm hk => ?_)⟩
  ·by_cases hc : ks.contains k = true
   ·rw [if_pos hc]
    have := hn 0 c rfl (by simpa using hc) u f1 k1
    subst this
    have e := hV 0 u rfl
    rw [Nat.add_zero] at e
    rw [e]
    exact Qbm u
   ·rw [if_neg hc]; exact k1
  ·rw [show k + 1 + m = k + (m + 1) by omega]; exact hV (m + 1) v (by simpa using hm)
  ·exact hn (m + 1) d (by simpa using hm) (by rw [show k + (m + 1) = k + 1 + m by omega]; exact hk)
theorem Qro {w : World} {S U : Nat → Prop} {ρ : Tab} : ∀ {x : List AV} {us : List Value} {f : List Nat}, Qa7 w S U ρ x us f → ∀ {m : Nat} {c : AV}, x[m]? = some c → ∃ u f', us[m]? = some u ∧ repR w S U ρ c u f'
 | [], us, f, h, m, c, hc => by simp at hc
 | d :: ds, us, f, h, m, c, hc => by
  simp only [Qa7] at h
  obtain ⟨u, us', f1, f2, rfl, rfl, k1, k2⟩ := h
  cases m with
  | zero => simp at hc; subst hc; exact ⟨u, f1, rfl, k1⟩
  | succ m => simpa using Qro k2 (by simpa using hc)
theorem Qrx {w : World} {S U : Nat → Prop} {ρ : Tab} {ks : List Nat} {V : Nat → Value} : ∀ {x y : List AV} {us : List Value} {f : List Nat} {k : Nat}, x.length = y.length → Qa7 w S U ρ (hid V ks k y) us f → (∀ m c, x[m]? = some c → ks.contains (k + m) = true → nf (V (k + m)) = true ∧ repR w S U ρ c (V (k + m)) []) → Qa7 w S U ρ (unh ks k x y) us f
 | [], [], us, f, k, _, h, _ => by simpa [hid, unh] using h
 | [], d :: ds, us, f, k, hl, h, _ => by simp at hl
 | c :: cs, [], us, f, k, hl, h, _ => by simp at hl
 | c :: cs, d :: ds, us, f, k, hl, h, hn => by
  simp only [Qa7, hid, unh] at h ⊢
  obtain ⟨u, us', f1, f2, rfl, rfl, k1, k2⟩ := h
  refine ⟨u, us', f1, f2, rfl, rfl, ?_, Qrx (by simpa using hl) k2 (fun m e hm hk => ?_)⟩
  ·by_cases hc : ks.contains k = true
   ·rw [if_pos hc] at k1 ⊢
    obtain ⟨n1, n2⟩ := hn 0 c rfl (by simpa using hc)
    rw [Nat.add_zero] at n1 n2
    simp only [repR, rep] at k1
    obtain ⟨rfl, hv⟩ := k1
    rw [VEq.eq hv n1]
    exact n2
   ·rw [if_neg hc] at k1 ⊢; exact k1
  ·have := hn (m + 1) e (by simpa using hm) (by rw [show k + (m + 1) = k + 1 + m by omega]; exact hk)
   rwa [show k + (m + 1) = k + 1 + m by omega] at this
theorem Qq1 {w : World} {S U : Nat → Prop} {ρ : Tab} {j o n : Nat} {u : Value} {f : List Nat} (h : repR w S U ρ (.sl j o n) u f) : f = [] := by simp only [repR] at h; exact h.1
theorem Qbg.hide {E : Env} {s : St} {a : Act} {w : World} {χ : Nat → Option Nat} {hd : Nat → Value} (h : Qbg E s a w χ hd) {i : Nat} {R : Qao} (hR : s.root i = some R) {e : Nat} {x : List AV} (he : R.xs[e]? = some x) {ks : List Nat} (hok : Qqv s i ks 0 x = true) :
    ∃ V : Nat → Value, Qbg E (s.setR i ⟨R.T, R.sz, R.xs.set e (hid V ks 0 x)⟩) a w χ hd ∧ ∀ m c, x[m]? = some c → ks.contains m = true → nf (V m) = true ∧ repR w (Qb3 χ w) (· ∈ s.us) (tab s hd) c (V m) [] := by
  obtain ⟨hus, fp, ⟨hz, vs, fp', hown, hrep, rfl⟩, hnd, hcol⟩ := h.rts i R hR
  have helt : e < R.xs.length := (List.getElem?_eq_some_iff.1 he).1
  obtain ⟨v1, us, v2, f1, fe, f2, rfl, rfl, hl1, hlus, h1c, k1, kx, k2⟩ := Qe4 hrep he
  let V : Nat → Value := fun k => (us[k]?).getD undef
  have hV : ∀ m u, us[m]? = some u → V (0 + m) = u := fun m u hm => by simp only [V, Nat.zero_add, hm, Option.getD_some]
  have kx' : Qa7 w (Qb3 χ w) (· ∈ s.us) (tab s hd) (hid V ks 0 x) us fe := Qsy kx hV (fun m c hm hk u f' hr => by
    obtain ⟨j, o, n, R', rfl, _, _⟩ := Qr6 (Qms hok hm hk)
    exact Qq1 hr)
  have hij : i ≠ JJ := fun e => by rw [e, h.rj] at hR; cases hR
  have htab : tab (s.setR i ⟨R.T, R.sz, R.xs.set e (hid V ks 0 x)⟩) hd = tab s hd := by
    funext j
    by_cases hj : j = i
    · subst hj; simp [tab, St.root_setR_same, hR]
    · simp [tab, St.root_setR_ne s hj]
  refine ⟨V, ⟨h.defers, h.size, h.os, h.tape, h.output, h.hsz, h.frame, h.fx, h.jj, by rw [St.root_setR_ne s (Ne.symm hij)]; exact h.rj, h.jk, h.col, ?_, ?_⟩, ?_⟩
  · intro j Q hQ
    rw [htab]
    by_cases hj : j = i
    · subst hj
      rw [St.root_setR_same] at hQ
      cases hQ
      exact ⟨hus, _, ⟨hz, v1 ++ us ++ v2, f1 ++ fe ++ f2, by rw [List.length_set]; exact hown, Qfj helt k1 hlus h1c kx' k2, rfl⟩, hnd, hcol⟩
    · rw [St.root_setR_ne s hj] at hQ
      exact h.rts j Q hQ
  · intro t
    rw [htab]
    exact h.slots t
  · intro m c hm hk
    obtain ⟨j, o, n, R', rfl, _, hRj⟩ := Qr6 (Qms hok hm (by rw [Nat.zero_add]; exact hk))
    obtain ⟨u, f', hu, hr⟩ := Qro kx hm
    have e1 := hV m u hu
    rw [Nat.zero_add] at e1
    have e2 := Qq1 hr
    subst e2
    rw [e1]
    refine ⟨?_, hr⟩
    simp only [repR] at hr
    obtain ⟨_, hs, _⟩ := hr.2.2 (hd j) R'.xs.length R'.sz (by simp [tab, hRj])
    obtain ⟨A, cap, rfl, _⟩ := hs
    rfl
theorem Qbg.unhide {E : Env} {s : St} {a : Act} {w : World} {χ : Nat → Option Nat} {hd : Nat → Value} (h : Qbg E s a w χ hd) {i T sz : Nat} {V : Nat → Value} {ks : List Nat} {x y : List AV} (hR : s.root i = some ⟨T, sz, [hid V ks 0 y]⟩) (hl : x.length = y.length)
    (hn : ∀ m c, x[m]? = some c → ks.contains m = true → nf (V m) = true ∧ repR w (Qb3 χ w) (· ∈ s.us) (tab s hd) c (V m) []) : Qbg E (s.setR i ⟨T, sz, [unh ks 0 x y]⟩) a w χ hd := by
  obtain ⟨hus, fp, ⟨hz, vs, fp', hown, hrep, rfl⟩, hnd, hcol⟩ := h.rts i _ hR
  obtain ⟨v1, us, v2, f1, fe, f2, rfl, rfl, hl1, hlus, h1c, k1, kx, k2⟩ := Qe4 hrep (e := 0) (x := hid V ks 0 y) rfl
  have kx' : Qa7 w (Qb3 χ w) (· ∈ s.us) (tab s hd) (unh ks 0 x y) us fe := Qrx hl kx (fun m c hm hk => by
    rw [Nat.zero_add] at hk ⊢; exact hn m c hm hk)
  have hij : i ≠ JJ := fun e => by rw [e, h.rj] at hR; cases hR
  have htab : tab (s.setR i ⟨T, sz, [unh ks 0 x y]⟩) hd = tab s hd := by
    funext j
    by_cases hj : j = i
    · subst hj; simp [tab, St.root_setR_same, hR]
    · simp [tab, St.root_setR_ne s hj]
  refine ⟨h.defers, h.size, h.os, h.tape, h.output, h.hsz, h.frame, h.fx, h.jj, by rw [St.root_setR_ne s (Ne.symm hij)]; exact h.rj, h.jk, h.col, ?_, ?_⟩
  · intro j Q hQ
    rw [htab]
    by_cases hj : j = i
    · subst hj
      rw [St.root_setR_same] at hQ
      cases hQ
      have hset := Qfj (xs := [hid V ks 0 y]) (e := 0) (by simp) k1 hlus h1c kx' k2
      exact ⟨hus, _, ⟨hz, v1 ++ us ++ v2, f1 ++ fe ++ f2, hown, hset, rfl⟩, hnd, hcol⟩
    · rw [St.root_setR_ne s hj] at hQ
      exact h.rts j Q hQ
  · intro t
    rw [htab]
    exact h.slots t
theorem Qbg.congrO {E : Env} {s s' : St} {a : Act} {w : World} {χ : Nat → Option Nat} {hd : Nat → Value} (h : Qbg E s a w χ hd) (hr : ∀ j, s'.root j = s.root j) (hg : ∀ t, s'.get t = s.get t) (hu : s'.us = s.us) : Qbg E s' a w χ hd := by
 have ht : tab s' hd = tab s hd := by funext j; simp only [tab, hr]
 refine ⟨h.defers, h.size, h.os, h.tape, h.output, h.hsz, h.frame, by rw [hu]; exact h.fx, by rw [hu]; exact h.jj, by rw [hr]; exact h.rj, h.jk, h.col, ?_, ?_⟩
 ·intro i R hR
  rw [hr] at hR
  rw [hu, ht]
  exact h.rts i R hR
 ·intro t
  rw [hu, ht, hg]
  exact h.slots t
mutual
theorem Qxe {s : St} {i : Nat} {R : Qao} {π : List (Nat × Nat)} {k : Nat} (hπ : π.lookup i = some k) : ∀ x : AV, Qfb (s.setR i R) π x = Qfb s π x
 | .lit _ => by simp only [Qfb]
 | .ro _ _ => by simp only [Qfb]
 | .rop _ _ => by simp only [Qfb]
 | .sl j _ _ => by
  simp only [Qfb]
  cases hj : π.lookup j with
  | some _ => rfl
  | none => rw [St.root_setR_ne s (by intro e; subst e; rw [hπ] at hj; cases hj)]
 | .ptr j e _ => by
  simp only [Qfb]
  cases hj : π.lookup j with
  | some _ => rfl
  | none => rw [St.root_setR_ne s (by intro e; subst e; rw [hπ] at hj; cases hj)]
 | .agg cs => by simp only [Qfb, Qin hπ cs]
 | .fn _ cs => by simp only [Qfb, Qin hπ cs]
 | .dead => by simp only [Qfb]
 | .own _ _ _ => by simp only [Qfb]
 | .tup _ => by simp only [Qfb]
theorem Qin {s : St} {i : Nat} {R : Qao} {π : List (Nat × Nat)} {k : Nat} (hπ : π.lookup i = some k) : ∀ xs : List AV, Qfe (s.setR i R) π xs = Qfe s π xs
 | [] => by simp only [Qfe]
 | c :: cs => by simp only [Qfe, Qxe hπ c, Qin hπ cs]
end
theorem Qpa {E : Env} {o : Oper} {s : St} {x : Operand} {f : FuncId} {caps : List AV} {args : Array Operand} {tys : Array TypeId} (ho : o.op = .call ⟨.value x, args, tys⟩) (hx : Qae s x = .fn f caps) (hd : okD E.n o.dst = true)
    {i T sz : Nat} {ks : List Nat} {cx cy : List AV} {outs : List AV} {res : AV} (hrt : s.root i = some ⟨T, sz, [cx]⟩) (hok : Qqv s i ks 0 cx = true) (hlen : cx.length = cy.length) (ht : ∀ V, Qac [hid V ks 0 cx] = true ∧ Qaz [hid V ks 0 cx] = true)
    (hout : Qfe s [(i, 0)] (args.toList.map (Qae s) ++ caps) = some outs) (hm : ∀ V, Qd3 E.P f [⟨T, sz, [hid V ks 0 cx]⟩] outs [true] [⟨T, sz, [hid V ks 0 cy]⟩] res) (hl : (rtf (Qff (Qjd [i] [true]) res) []).2.1 = []) :
    Qk3 E o s ((s.back [(i, some ⟨T, sz, [unh ks 0 cx cy]⟩)]).putO o.dst (rtf (Qff (Qjd [i] [true]) res) []).1) := by
  rintro a w ⟨χ, hd', h⟩ K Q hk
  obtain ⟨V, hV, hval⟩ := h.hide hrt (e := 0) (x := cx) rfl (ks := ks) hok
  have hij : i ≠ JJ := fun e => by rw [e, h.rj] at hrt; cases hrt
  let E' : Env := ⟨E.P, E.w0, E.n, E.In, E.Jk, s.us.map fun j => (j, hd' j)⟩
  let sV := s.setR i ⟨T, sz, [hid V ks 0 cx]⟩
  have h1 : Qbg E' sV a w χ hd' := ⟨hV.defers, hV.size, hV.os, hV.tape, hV.output, hV.hsz, hV.frame, fun p hp => by
      obtain ⟨j, hj, rfl⟩ := List.mem_map.1 hp
      exact ⟨hj, rfl⟩, hV.jj, hV.rj, hV.jk, hV.col, hV.rts, hV.slots⟩
  have hop : Qae sV = Qae s := by funext y; cases y <;> rfl
  refine Qln (E := E') (s := sV) (ρ := [i]) (ks := [true]) (rs := [⟨T, sz, [hid V ks 0 cx]⟩]) (rs' := [⟨T, sz, [hid V ks 0 cy]⟩]) (outs := outs) (res := res) ho (by rw [hop]; exact hx) hd (by simp) ⟨St.root_setR_same s i _, trivial⟩ (fun R hR => by
      simp only [List.mem_singleton] at hR
      subst hR
      exact ht V) rfl (by simp [Qmm]) ⟨rfl, trivial⟩ (by rw [hop]; exact (Qin (k := 0) (by simp) _).trans hout) (hm V) [] (by simp) (by simp) a w ⟨χ, hd', h1⟩ K Q ?_
  rintro a' w' ⟨χ2, hd2, h2⟩
  refine hk a' w' ⟨χ2, hd2, ?_⟩
  rw [hl] at h2
  have hrs : ∀ (q : St) (d : Option Nat) (v : AV) (j : Nat), (q.putO d v).root j = q.root j := fun q d v j => by cases d <;> rfl
  have hfx := h2.fx
  have htb : ∀ j, j ∈ s.us → j ≠ i → tab (St.putO (sV.back (Qqm [i] [true] [⟨T, sz, [hid V ks 0 cy]⟩])) o.dst (rtf (Qff (Qjd [i] [true]) res) []).1) hd2 j = tab s hd' j := by
    intro j hj hne
    have e1 := (hfx (j, hd' j) (List.mem_map.2 ⟨j, hj, rfl⟩)).2
    simp only at e1
    simp only [tab, hrs, Qgt, Qqm, Qa8 hne, List.lookup_nil, Option.getD_none]
    rw [show sV.root j = s.root j from St.root_setR_ne s hne _, e1]
  have h3 := h2.unhide (i := i) (T := T) (sz := sz) (V := V) (ks := ks) (x := cx) (y := cy) (by
      show (St.putO (sV.back (Qqm [i] [true] [⟨T, sz, [hid V ks 0 cy]⟩])) _ _).root i = _
      rw [hrs, Qgt]
      simp [Qqm]) hlen (fun m c hm hk => by
      obtain ⟨n1, n2⟩ := hval m c hm hk
      refine ⟨n1, ?_⟩
      obtain ⟨j, q, n, R, rfl, hne, hRj⟩ := Qr6 (Qms hok hm (by rw [Nat.zero_add]; exact hk))
      have hju := (h.rts j R hRj).1
      simp only [repR] at n2 ⊢
      refine ⟨trivial, (hfx (j, hd' j) (List.mem_map.2 ⟨j, hju, rfl⟩)).1, fun p r z hh => n2.2.2 p r z ?_⟩
      rw [← htb j hju hne]
      exact hh)
  have h4 : Qbg E _ a' w' χ2 hd2 := ⟨h3.defers, h3.size, h3.os, h3.tape, h3.output, h3.hsz, h3.frame, fun p hp => by
      obtain ⟨p1, p2⟩ := h.fx p hp
      have := hfx (p.1, hd' p.1) (List.mem_map.2 ⟨p.1, p1, rfl⟩)
      exact ⟨this.1, this.2.trans p2⟩, h3.jj, h3.rj, h3.jk, h3.col, h3.rts, h3.slots⟩
  refine h4.congrO (fun j => ?_) (fun t => ?_) ?_
  · rw [hrs, Qgt]
    by_cases hj : j = i
    · subst hj
      rw [St.root_setR_same]
      simp
    · rw [St.root_setR_ne _ hj]
      show _ = (St.putO (sV.back (Qqm [i] [true] [⟨T, sz, [hid V ks 0 cy]⟩])) _ _).root j
      rw [hrs, Qgt]
      simp only [Qqm, Qa8 hj, List.lookup_nil, Option.getD_none]
      exact (St.root_setR_ne s hj _).symm
  · cases o.dst <;> rfl
  · cases o.dst <;> rfl
end Go.T
set_option linter.unusedVariables false
namespace Go.T
open Go Go.RowKit Go.Proofs
def Qb5 : List Prop → Prop
 | [] => True
 | p :: ps => p ∧ Qb5 ps
theorem Qan : ∀ {ps qs : List Prop}, Qb5 (ps ++ qs) → Qb5 ps ∧ Qb5 qs
 | [], qs, h => ⟨trivial, h⟩
 | p :: ps, qs, h => ⟨⟨h.1, (Qan h.2).1⟩, (Qan h.2).2⟩
inductive H where
 | no
 | br (b : Bool)
 | row (x : List AV)
 | cel (x : List AV) (c : AV)
 | agg (x cs : List AV)
 | sto (x : List AV) (xs' : List (List AV))
 | stoS (x : List AV) (xs' : List (List AV))
 | callV (zss : List (List (List AV))) (res : AV)
 | callR (zss : List (List (List AV))) (res : AV) (ids : List Nat) (x' : AV) (l : List (Nat × Qao))
 | app (id : Nat) (zs : List (List AV))
 | nw (id : Nat) (xs' : List (List AV))
 | new (id : Nat)
 | nwc (id : Nat)
 | callS (res : AV) (ids : List Nat) (x' : AV) (l : List (Nat × Qao))
 | callO (i T sz : Nat) (ks : List Nat) (cx cy : List AV) (zss : List (List (List AV))) (res x' : AV)
 | call (zss : List (List (List AV))) (res : AV) (ids : List Nat)
 | callD (τs : List Nat) (zss : List (List (List AV))) (res : AV) (ids : List Nat)
 | callX (ρ : List Nat) (ks : List Bool) (rs rs' : List Qao) (zss : List (List (List AV))) (res : AV) (ids : List Nat) (x' : AV) (l : List (Nat × Qao))
 | pack (i j e c : Nat) (x : List AV) (xs' : List (List AV))
 | unpack (i j e c : Nat) (x : List AV) (T sz : Nat) (ys xs' : List (List AV))
 | nil (t id T sz : Nat)
 | fgt (i e o : Nat) (x : List AV) (xs' : List (List AV))
 | bin (r : AV)
 | cnv (r : AV)
 | xt (r : AV)
 | own0 (id n : Nat) (pre post : List AV) (T sz : Nat) (xs' : List (List AV))
 | eqr (id : Nat) (xs' : List (List AV))
 | own1 (id n : Nat) (T sz : Nat) (xs' : List (List AV))
 | slen (t n : Nat)
 | api
 | sl3
 | slB
 | clr (xs' : List (List AV))
 | shr (id : Nat) (zs : List (List AV))
structure Hn where
 k : Nat
 h : H := .no
 o : Option AV := none
def Qwd : Nat → Nat → Nat
 | 0, x => x
 | o, x => o + x
theorem Qll : ∀ o x, Qwd o x = o + x
 | 0, x => by simp [Qwd]
 | o + 1, x => rfl
def Xdj : Nat → Nat → Nat
 | i, 1 => i
 | i, s => i * s
theorem Qtw : ∀ i s, Xdj i s = i * s
 | i, 0 => rfl
 | i, 1 => by simp [Xdj]
 | i, s + 2 => rfl
def Qh4 : Nat → Nat → Nat
 | x, 0 => x
 | x, o => x - o
theorem Qgh : ∀ x o, Qh4 x o = x - o
 | x, 0 => rfl
 | x, o + 1 => rfl
def binC (op : BinOp) (x y : Value) : Option (Value × List Prop) :=
 match op, x, y with
 | .quo, .int k a, .int k' b => if k = k' then some (.int k (k.wrap (a.tdiv b)), [b ≠ 0]) else none
 | .rem, .int k a, .int k' b => if k = k' then some (.int k (a.tmod b), [b ≠ 0]) else none
 | .shl, .int k a, .int _ b => some (.int k (k.wrap (a * 2 ^ (min b.toNat k.bits))), [¬ b < 0])
 | .shr, .int k a, .int _ b => some (.int k (a.fdiv (2 ^ (min b.toNat k.bits))), [¬ b < 0])
 | .add, .string a, .string b => some (.string (a ++ b), [¬ ((a.size + b.size : Nat) : Int) > IntKind.i64.max])
 | op, x, y => (Qmg op x y).map fun v => (v, [])
theorem Qvv {op : BinOp} {x y v : Value} {ps : List Prop} (h : binC op x y = some (v, ps)) (hp : Qb5 ps) : Qmg op x y = some v := by
 unfold binC at h
 split at h
 ·split at h <;> cases h
  rename_i hk
  simp only [Qb5, and_true] at hp
  simp [Qmg, hk, hp]
 ·split at h <;> cases h
  rename_i hk
  simp only [Qb5, and_true] at hp
  simp [Qmg, hk, hp]
 ·cases h
  simp only [Qb5, and_true] at hp
  simp [Qmg, hp]
 ·cases h
  simp only [Qb5, and_true] at hp
  simp [Qmg, hp]
 ·cases h
  simp only [Qb5, and_true] at hp
  unfold Qmg
  simp only []
  rw [if_neg hp]
 ·rw [Option.map_eq_some_iff] at h
  obtain ⟨z, h, e⟩ := h
  cases e
  exact h
def Qxb (s : St) (h : H) : AV → Option (List AV × Nat × List Prop)
 | .ptr id e o => match s.root id with
  | some R => match h with
   | .no => match R.xs[e]? with
    | some x => some (x, o, [])
    | none => none
   | .row x => some (x, o, [R.xs[e]? = some x])
   | .cel x _ => some (x, o, [R.xs[e]? = some x])
   | .agg x _ => some (x, o, [R.xs[e]? = some x])
   | _ => none
  | none => none
 | .rop cs o => some (cs, o, [])
 | _ => none
theorem Qg4 {s : St} {h : H} {p : AV} {x : List AV} {o : Nat} {ps : List Prop} (he : Qxb s h p = some (x, o, ps)) (hp : Qb5 ps) : Qs4 s p = some (x, o) := by
 unfold Qxb at he
 split at he
 ·split at he
  case h_2 => cases he
  rename_i R hR
  simp only [Qs4, hR]
  split at he
  ·split at he
   ·rename_i x' hx; cases he; simp [hx]
   ·cases he
  all_goals first | (cases he; simp only [Qb5, and_true] at hp; simp [hp]; done) | cases he
 ·cases he; rfl
 ·cases he
def Qyu (Θ : Tys) (s : St) (t : Nat) (h : H) (p : AV) : Option (AV × List Prop) :=
 match Θ.lookup t with
 | none => none
 | some ti => match Qxb s h p with
  | none => none
  | some (x, o, ps) =>
   if Xbj ti.und then
    match h with
    | .agg _ cs => some (.agg cs, (o + ti.sz ≤ x.length) :: ((x.drop o).take ti.sz = cs) :: (cs.all AV.plain = true) :: ps)
    | _ => if o + ti.sz ≤ x.length then (if ((x.drop o).take ti.sz).all AV.plain then some (.agg ((x.drop o).take ti.sz), ps) else none) else none
   else match h with
    | .cel _ c => if c.plain then some (c, (x[o]? = some c) :: ps) else none
    | _ => match x[o]? with
     | some c => if c.plain then some (c, ps) else none
     | none => none
theorem Qo0 {Θ : Tys} {s : St} {t : Nat} {h : H} {p r : AV} {ps : List Prop} (he : Qyu Θ s t h p = some (r, ps)) (hp : Qb5 ps) : Qoa Θ s t p = some r := by
 unfold Qyu at he
 split at he
 ·cases he
 rename_i ti hti
 split at he
 ·cases he
 rename_i x o qs hpl
 unfold Qoa
 simp only [hti]
 split at he
 ·rename_i hagg
  split at he
  ·cases he
   obtain ⟨h1, h2, h3, h4⟩ := hp
   simp only [Qg4 hpl h4]
   rw [if_pos hagg, if_pos h1, h2, if_pos h3]
  ·split at he
   case isFalse => cases he
   rename_i h1
   split at he
   case isFalse => cases he
   rename_i h2
   cases he
   simp only [Qg4 hpl hp]
   rw [if_pos hagg, if_pos h1, if_pos h2]
 ·rename_i hagg
  split at he
  ·split at he
   case isFalse => cases he
   rename_i h1
   cases he
   obtain ⟨h2, h4⟩ := hp
   simp only [Qg4 hpl h4]
   rw [if_neg hagg, h2]
   simp only []
   rw [if_pos h1]
  ·split at he
   case h_2 => cases he
   rename_i c hc
   split at he
   case isFalse => cases he
   rename_i h1
   cases he
   simp only [Qg4 hpl hp]
   rw [if_neg hagg, hc]
   simp only []
   rw [if_pos h1]
def idxC (Θ : Tys) (s : St) (t : Nat) (h : H) (x i : AV) : Option (AV × List Prop) :=
  match i with
  | .lit (.int k i) =>
    match Θ.lookup t with
    | some ⟨_, _, .slice el, _⟩ =>
      match Θ.lookup el, x with
      | some te, .sl id off len => match s.root id with
        | some R => if R.sz = te.sz then some (.ptr id (Qwd off i.toNat) 0, [0 ≤ i, i < (len : Int)]) else none
        | none => none
      | some te, .ro sz xs => if sz = te.sz then (match h with
        | .row y => some (.rop y 0, [0 ≤ i, xs[i.toNat]? = some y])
        | _ => none) else none
      | _, _ => none
    | some ⟨_, _, .array n el, _⟩ =>
      match Θ.lookup el with
      | some te => match x with
        | .ptr id e o => if (s.root id).isSome then some (.ptr id e (Qwd o (Xdj i.toNat te.sz)), [0 ≤ i, i < (n : Int)]) else none
        | .rop cs o => some (.rop cs (Qwd o (Xdj i.toNat te.sz)), [0 ≤ i, i < (n : Int)])
        | _ => none
      | none => none
    | _ => none
  | _ => none
theorem Qwc {Θ : Tys} {s : St} {t : Nat} {h : H} {x i r : AV} {ps : List Prop} (he : idxC Θ s t h x i = some (r, ps)) (hp : Qb5 ps) : Qy1 Θ s t x i = some r := by
 unfold idxC at he
 split at he
 case h_2 => cases he
 rename_i k i
 unfold Qy1
 split at he
 ·rename_i sz by_ el ze hti
  simp only [hti]
  split at he
  ·rename_i te id off len hte
   simp only [hte]
   split at he
   case h_2 => cases he
   rename_i R hR
   simp only [hR]
   split at he
   case isFalse => cases he
   rename_i hsz
   cases he
   obtain ⟨h1, h2, _⟩ := hp
   rw [if_pos hsz, if_pos h1, if_pos h2, Qll]
  ·rename_i te sz' xs hte
   simp only [hte]
   split at he
   case isFalse => cases he
   rename_i hsz
   split at he
   case h_2 => cases he
   cases he
   obtain ⟨h1, h2, _⟩ := hp
   rw [if_pos hsz, if_pos h1, h2]
  ·cases he
 ·rename_i sz by_ n el ze hti
  simp only [hti]
  split at he
  case h_2 => cases he
  rename_i te hte
  simp only [hte]
  split at he
  ·rename_i id e o
   split at he
   case isFalse => cases he
   rename_i hs
   cases he
   obtain ⟨h1, h2, _⟩ := hp
   rw [if_pos h1, if_pos h2, Qll, Qtw]
   simp only []
   rw [if_pos hs]
  ·cases he
   obtain ⟨h1, h2, _⟩ := hp
   rw [if_pos h1, if_pos h2, Qll, Qtw]
  ·cases he
 ·cases he
def Qzz (Θ : Tys) (t : Nat) (h : H) (cs : List AV) (off : Nat) : Option (AV × List Prop) :=
  match Θ.lookup t with
  | some ti => if Xbj ti.und then (match h with
      | .agg _ ds => some (.agg ds, [(cs.drop off).take ti.sz = ds, ds.all AV.plain = true])
      | _ => if ((cs.drop off).take ti.sz).all AV.plain then some (.agg ((cs.drop off).take ti.sz), []) else none)
    else match h with
      | .cel _ c => if c.plain then some (c, [cs[off]? = some c]) else none
      | _ => match cs[off]? with
        | some c => if c.plain then some (c, []) else none
        | none => none
  | none => none
theorem Qnj {Θ : Tys} {t : Nat} {h : H} {cs : List AV} {off : Nat} {r : AV} {ps : List Prop} (he : Qzz Θ t h cs off = some (r, ps)) (hp : Qb5 ps) : Qq5 Θ t cs off = some r := by
 unfold Qzz at he
 split at he
 case h_2 => cases he
 rename_i ti hti
 unfold Qq5
 simp only [hti]
 split at he
 ·rename_i hagg
  rw [if_pos hagg]
  split at he
  ·cases he
   obtain ⟨h1, h2, _⟩ := hp
   rw [h1, if_pos h2]
  ·split at he
   case isFalse => cases he
   rename_i h1
   cases he
   rw [if_pos h1]
 ·rename_i hagg
  rw [if_neg hagg]
  split at he
  ·split at he
   case isFalse => cases he
   rename_i h1
   cases he
   obtain ⟨h2, _⟩ := hp
   rw [h2]
   simp only []
   rw [if_pos h1]
  ·split at he
   case h_2 => cases he
   rename_i c hc
   split at he
   case isFalse => cases he
   rename_i h1
   cases he
   rw [hc]
   simp only []
   rw [if_pos h1]
def Qx0 (Θ : Tys) (t : Nat) (h : H) (x : AV) (f : Nat) : Option (AV × List Prop) :=
 match x with
 | .agg cs => match Θ.lookup t with
  | some ⟨_, _, .struct fs, _⟩ => match fs[f]? with
   | some fd => Qzz Θ fd.type h cs fd.offset
   | none => none
  | _ => none
 | _ => none
theorem Qrm {Θ : Tys} {t : Nat} {h : H} {x : AV} {f : Nat} {r : AV} {ps : List Prop} (he : Qx0 Θ t h x f = some (r, ps)) (hp : Qb5 ps) : Qng Θ t x f = some r := by
 unfold Qx0 at he
 split at he
 case h_2 => cases he
 split at he
 case h_2 => cases he
 rename_i hti
 split at he
 case h_2 => cases he
 rename_i fd hfd
 simp only [Qng, hti, hfd]
 exact Qnj he hp
def Qxl (Θ : Tys) (t : Nat) (h : H) (x i : AV) : Option (AV × List Prop) :=
 match x, i, Θ.lookup t with
 | .lit (.string s), .lit (.int k i), some ⟨_, _, .string, _⟩ => match h with
  | .cel _ (.lit (.int .u8 b)) => some (.lit (.int .u8 b), [0 ≤ i, (s[i.toNat]?).map (fun u => ((u.toNat : Nat) : Int)) = some b])
  | _ => none
 | .agg cs, .lit (.int k i), some ⟨_, _, .array n el, _⟩ => match Θ.lookup el with
  | some te => match Qzz Θ el h cs (Xdj i.toNat te.sz) with
   | some (r, ps) => some (r, (0 ≤ i) :: (i < (n : Int)) :: ps)
   | none => none
  | none => none
 | _, _, _ => none
theorem Qs5 {Θ : Tys} {t : Nat} {h : H} {x i : AV} {r : AV} {ps : List Prop} (he : Qxl Θ t h x i = some (r, ps)) (hp : Qb5 ps) : Qlc Θ t x i = some r := by
 unfold Qxl at he
 split at he
 ·rename_i hti
  split at he
  case h_2 => cases he
  cases he
  obtain ⟨h1, h2, _⟩ := hp
  rw [Option.map_eq_some_iff] at h2
  obtain ⟨u, hu, rfl⟩ := h2
  simp only [Qlc, hti]
  rw [if_pos h1, hu]
 ·rename_i hti
  split at he
  case h_2 => cases he
  rename_i te hte
  split at he
  case h_2 => cases he
  rename_i r' qs hr
  cases he
  obtain ⟨h1, h2, h3⟩ := hp
  simp only [Qlc, hti, hte]
  rw [if_pos h1, if_pos h2]
  rw [Qtw] at hr
  exact Qnj hr h3
 ·cases he
def Qx5 (Θ : Tys) (s : St) (t : Nat) (x : AV) (lo hi : Option AV) : Option (AV × List Prop) :=
  match Θ.lookup t with
  | some ⟨_, _, .slice el, _⟩ => match Θ.lookup el with
    | none => none
    | some te => match x with
      | .sl id off len => match s.root id with
        | some R => if R.sz = te.sz then (match bnd 0 lo, bnd len hi with
          | some l, some h => some (.sl id (Qwd off l.toNat) (Qh4 h.toNat l.toNat), [0 ≤ l, l ≤ h, h ≤ (len : Int)])
          | _, _ => none) else none
        | none => none
      | .ro sz xs => if sz = te.sz then (match bnd 0 lo, bnd xs.length hi with
          | some l, some h => some (.ro sz ((xs.drop l.toNat).take (Qh4 h.toNat l.toNat)), [0 ≤ l, l ≤ h, h ≤ (xs.length : Int)])
          | _, _ => none) else none
      | _ => none
  | some ⟨_, _, .string, _⟩ => match x with
    | .lit (.string z) => match bnd 0 lo, bnd z.size hi with
      | some l, some h => some (.lit (.string (z.extract l.toNat h.toNat)), [0 ≤ l, l ≤ h, h ≤ (z.size : Int)])
      | _, _ => none
    | _ => none
  | _ => none
theorem Qsr {Θ : Tys} {s : St} {t : Nat} {x : AV} {lo hi : Option AV} {r : AV} {ps : List Prop} (he : Qx5 Θ s t x lo hi = some (r, ps)) (hp : Qb5 ps) : Qoj Θ s t x lo hi = some r := by
 unfold Qx5 at he
 unfold Qoj
 split at he
 ·rename_i hti
  simp only [hti]
  split at he
  ·cases he
  rename_i te hte
  simp only [hte]
  split at he
  ·split at he
   case h_2 => cases he
   rename_i R hR
   simp only [hR]
   split at he
   case isFalse => cases he
   rename_i hsz
   rw [if_pos hsz]
   split at he
   case h_2 => cases he
   rename_i l h hl hh
   cases he
   obtain ⟨h1, h2, h3, _⟩ := hp
   simp only [hl, hh]
   rw [if_pos h1, if_pos h2, if_pos h3, Qll, Qgh]
  ·split at he
   case isFalse => cases he
   rename_i hsz
   simp only []
   rw [if_pos hsz]
   split at he
   case h_2 => cases he
   rename_i l h hl hh
   cases he
   obtain ⟨h1, h2, h3, _⟩ := hp
   simp only [hl, hh]
   rw [if_pos h1, if_pos h2, if_pos h3, Qgh]
  ·cases he
 ·rename_i hti
  simp only [hti]
  split at he
  case h_2 => cases he
  split at he
  case h_2 => cases he
  rename_i l h hl hh
  cases he
  obtain ⟨h1, h2, h3, _⟩ := hp
  simp only [hl, hh]
  rw [if_pos h1, if_pos h2, if_pos h3]
 ·cases he
def vx (Θ : Tys) (s : St) (op : Op) (h : H) : Option (AV × List Prop) :=
 match op with
 | .binOp op t x y _ => match Qae s x, Qae s y with
  | .lit (.bool u), .lit (.bool v) => match op, Θ.lookup t with
   | .eql, some ⟨_, _, .bool, _⟩ => some (.lit (.bool (u == v)), [])
   | .neq, some ⟨_, _, .bool, _⟩ => some (.lit (.bool (!(u == v))), [])
   | _, _ => none
  | .lit u, .lit v => (binC op u v).map fun p => (.lit p.1, p.2)
  | _, _ => none
 | .load t p => Qyu Θ s t h (Qae s p)
 | .field t x f => Qx0 Θ t h (Qae s x) f
 | .indexAddr t x i => idxC Θ s t h (Qae s x) (Qae s i)
 | .index t x i => Qxl Θ t h (Qae s x) (Qae s i)
 | .slice t x lo hi none => Qx5 Θ s t (Qae s x) (lo.map (Qae s)) (hi.map (Qae s))
 | op => (Qor Θ s op).map fun r => (r, [])
theorem Qv2 {Θ : Tys} {s : St} {op : Op} {h : H} {r : AV} {ps : List Prop} (he : vx Θ s op h = some (r, ps)) (hp : Qb5 ps) : Qor Θ s op = some r := by
 unfold vx at he
 split at he
 ·split at he
  ·rename_i hu hv
   simp only [Qor, hu, hv]
   split at he
   ·rename_i hti; cases he; simp only [hti]
   ·rename_i hti; cases he; simp only [hti]
   ·cases he
  ·rename_i u v hn hu hv
   rw [Option.map_eq_some_iff] at he
   obtain ⟨⟨z, qs⟩, he, e⟩ := he
   cases e
   simp only [Qor, hu, hv]
   rw [Qvv he hp]; rfl
  ·cases he
 ·exact Qo0 he hp
 ·exact Qrm he hp
 ·exact Qwc he hp
 ·exact Qs5 he hp
 ·exact Qsr he hp
 ·rw [Option.map_eq_some_iff] at he
  obtain ⟨z, he, e⟩ := he
  cases e
  exact he
end Go.T
set_option linter.unusedVariables false
namespace Go.T
open Go Go.RowKit Go.Proofs
def Xbk (Θ : Tys) (s : St) (op : Op) : Option (Nat × Qao × AV × List Prop) :=
  match op with
  | .call ⟨.builtin .append, args, tys⟩ => match args.toList, tys.toList with
    | [x, y], [t, t'] => if t = t' then match Θ.lookup t with
      | some ⟨_, _, .slice el, _⟩ => match Θ.lookup el, Qae s x, Qae s y with
        | some te, .sl i 0 k, .sl j k2 n => if i = j then (match s.root i with
          | some R => if R.sz = te.sz then (if 0 < R.sz then (if R.T = el then some (i, ⟨R.T, R.sz, Qgg R.xs k ((R.xs.drop k2).take n)⟩, .sl i 0 (k + n), [Qiu R.xs = true, k + n ≤ R.xs.length]) else none) else none) else none
          | none => none) else none
        | _, _, _ => none
      | _ => none
      else none
    | _, _ => none
  | _ => none
theorem Qpy {E : Env} {Θ : Tys} (hΘ : TOK E.P Θ) {s : St} {o : Oper} (hd : okD E.n o.dst = true) {i : Nat} {R : Qao} {r : AV} {ps : List Prop} (he : Xbk Θ s o.op = some (i, R, r, ps)) (hp : Qb5 ps) : Qk3 E o s ((s.setR i R).putO o.dst r) := by
 unfold Xbk at he
 split at he
 case h_2 => cases he
 rename_i args tys hop
 split at he
 case h_2 => cases he
 rename_i x y t t' ha ht
 split at he
 case isFalse => cases he
 rename_i htt
 subst htt
 split at he
 case h_2 => cases he
 rename_i sz by_ el ze hti
 split at he
 case h_2 => cases he
 rename_i te i' k j k2 n hte hx hy
 split at he
 case isFalse => cases he
 rename_i hij
 subst hij
 split at he
 case h_2 => cases he
 rename_i R' hR
 split at he
 case isFalse => cases he
 rename_i h1
 split at he
 case isFalse => cases he
 rename_i h2
 split at he
 case isFalse => cases he
 rename_i h3
 cases he
 obtain ⟨p1, p2, _⟩ := hp
 have e1 : args = #[x, y] := by rw [← Array.toArray_toList (xs := args), ha]
 have e2 : tys = #[t, t] := by rw [← Array.toArray_toList (xs := tys), ht]
 subst e1; subst e2
 exact Qw8 hΘ hop hd hti rfl hte hx hy hR h1 h2 h3 p1 p2
def exN (Θ : Tys) (s : St) (o : Oper) : H → Option (St × List Prop)
 | .api => match Xbk Θ s o.op with
  | some (i, R, r, ps) => some ((s.setR i R).putO o.dst r, ps)
  | none => none
 | .sl3 => match o.op with
  | .slice t x lo hi mx => match Θ.lookup t, Qae s x, bnd 0 (lo.map (Qae s)), hi.map (Qae s), mx.map (Qae s) with
   | some ⟨_, _, .slice el, _⟩, .sl id off len, some l, some (.lit (.int _ hh)), some (.lit (.int _ mm)) => match Θ.lookup el, s.root id with
    | some te, some R => some (s.putO o.dst .dead, [0 ≤ l, l ≤ hh, hh ≤ mm, mm ≤ (len : Int)])
    | _, _ => none
   | _, _, _, _, _ => none
  | _ => none
 | .slB => match o.op with
  | .slice t x lo hi none => match Θ.lookup t, Qae s x, bnd 0 (lo.map (Qae s)), hi.map (Qae s) with
   | some ⟨_, _, .slice el, _⟩, .sl id 0 len, some l, some (.lit (.int _ hh)) => match Θ.lookup el, s.root id with
    | some te, some R => if R.sz = te.sz then some (s.putO o.dst (.sl id l.toNat (hh.toNat - l.toNat)), [0 ≤ l, l ≤ hh, hh ≤ ((R.xs.length : Nat) : Int)]) else none
    | _, _ => none
   | _, _, _, _ => none
  | _ => none
 | .clr xs' => match o.op with
  | .call ⟨.builtin .clear, args, tys⟩ => match args.toList, tys.toList with
   | [x], [t] => match Θ.lookup t, Qae s x with
    | some ⟨_, _, .slice el, _⟩, .sl i off n => match Θ.lookup el, s.root i with
     | some te, some R => if R.sz = te.sz then (if zOK te then some ((s.setR i ⟨R.T, R.sz, xs'⟩).putO o.dst .dead, [Qiu R.xs = true, off + n ≤ R.xs.length, Qgg R.xs off (List.replicate n (Qf9 te.zero)) = xs']) else none) else none
     | _, _ => none
    | _, _ => none
   | _, _ => none
  | _ => none
 | .shr _ _ => none
 | _ => none
theorem Qi3 {E : Env} {Θ : Tys} (hΘ : TOK E.P Θ) {s s' : St} {o : Oper} (hd : okD E.n o.dst = true) {h : H} {ps : List Prop} (he : exN Θ s o h = some (s', ps)) (hp : Qb5 ps) : Qk3 E o s s' := by
 unfold exN at he
 split at he
 ·split at he
  case h_2 => cases he
  rename_i i R r qs ha
  cases he
  exact Qpy hΘ hd ha hp
 ·split at he
  case h_2 => cases he
  rename_i t x lo hi mx hop
  split at he
  case h_2 => cases he
  rename_i el ze id off len l hh mm hti hx hl hhi hmx
  split at he
  case h_2 => cases he
  rename_i te R hte hR
  cases he
  obtain ⟨p1, p2, p3, p4, _⟩ := hp
  exact Qtp hΘ hop hd hti rfl hte hx hR hmx hhi hl p1 p2 p3 p4
 ·split at he
  case h_2 => cases he
  rename_i t x lo hi hop
  split at he
  case h_2 => cases he
  rename_i el ze id len l k hh hti hx hl hhi
  split at he
  case h_2 => cases he
  rename_i te R hte hR
  split at he
  case isFalse => cases he
  rename_i hsz
  cases he
  obtain ⟨p1, p2, p3, _⟩ := hp
  have e : ((hh.toNat : Nat) : Int) = hh := Int.toNat_of_nonneg (by omega)
  rw [← e] at hhi
  have := Qtj hΘ hop hd hti rfl hte hx hR hsz hhi hl p1 (by omega) (by omega)
  exact this
 ·split at he
  case h_2 => cases he
  rename_i args tys hop
  split at he
  case h_2 => cases he
  rename_i x t ha ht
  split at he
  case h_2 => cases he
  rename_i el ze i off n hti hx
  split at he
  case h_2 => cases he
  rename_i te R hte hR
  split at he
  case isFalse => cases he
  rename_i hsz
  split at he
  case isFalse => cases he
  rename_i hz
  cases he
  obtain ⟨p1, p2, p3, _⟩ := hp
  rw [← p3]
  have e1 : args = #[x] := by rw [← Array.toArray_toList (xs := args), ha]
  have e2 : tys = #[t] := by rw [← Array.toArray_toList (xs := tys), ht]
  subst e1; subst e2
  exact Qwb hΘ hop hd hti rfl hte hz hx hR hsz p1 p2
 ·cases he
 ·cases he
theorem Qzj {xs ys : List (List AV)} {k : Nat} (h : Qiu xs = true) (hy : Qiu ys = true) : Qiu (Qgg xs k ys) = true := by
 unfold Qiu at *
 rw [List.all_eq_true] at *
 intro r hr
 simp only [Qgg, List.mem_append] at hr
 rcases hr with (h1 | h1) | h1
 ·exact h r (List.mem_of_mem_take h1)
 ·exact hy r h1
 ·exact h r (List.mem_of_mem_drop h1)
theorem Qze {xs : List (List AV)} {k k2 n : Nat} (h : Qiu xs = true) : Qiu (Qgg xs k ((xs.drop k2).take n)) = true :=
 Qzj h (Qv9 h (fun r hr => List.mem_of_mem_drop (List.mem_of_mem_take hr)))
theorem Qvj {T : Type} {o : T → List AV} (h : ∀ x, (o x).all Qo1 = true) (xs : List T) : Qiu (xs.map o) = true := by
 unfold Qiu
 rw [List.all_eq_true]
 intro r hr
 obtain ⟨x, _, rfl⟩ := List.mem_map.1 hr
 exact h x
noncomputable def delL {T : Type} (t : List T) (i j : Int) : Option (List T) := if 0 ≤ i ∧ i ≤ j ∧ j ≤ (t.length : Int) then some (t.take i.toNat ++ t.drop j.toNat) else none
theorem delE {T : Type} {t r : List T} {i j : Int} (h : delL t i j = some r) : 0 ≤ i ∧ i ≤ j ∧ j ≤ (t.length : Int) ∧ r = t.take i.toNat ++ t.drop j.toNat := by
 unfold delL at h
 split at h
 ·rename_i h0; cases h; exact ⟨h0.1, h0.2.1, h0.2.2, rfl⟩
 ·cases h
theorem Qzc {xs ys : List (List AV)} {a : Nat} (h : a ≤ xs.length) : (Qgg xs a ys).take a = xs.take a := by
 unfold Qgg
 rw [List.append_assoc, List.take_append_of_le_length (by rw [List.length_take]; omega), List.take_take, Nat.min_self]
theorem Qwj {xs ys : List (List AV)} {a n : Nat} (h : a ≤ xs.length) (hn : ys.length = n) : (Qgg xs a ys).take (a + n) = xs.take a ++ ys := by
 unfold Qgg
 have e : (xs.take a ++ ys).length = a + n := by rw [List.length_append, List.length_take]; omega
 rw [← e]
 exact List.take_left
section
variable {T : Type} {o : T → List AV} {t : List T} {i j : Int}
theorem delN (d2 : j ≤ (t.length : Int)) : (((t.map o).drop j.toNat).take (Qh4 (List.length (t.map o)) j.toNat)) = (t.map o).drop j.toNat ∧ Qh4 (List.length (t.map o)) j.toNat = ((t.map o).drop j.toNat).length := by
 rw [Qgh]
 constructor
 ·exact List.take_of_length_le (by rw [List.length_drop]; omega)
 ·rw [List.length_drop]
theorem delA (d0 : 0 ≤ i) (d1 : i ≤ j) (d2 : j ≤ (t.length : Int)) : i.toNat + Qh4 (List.length (t.map o)) j.toNat ≤ (t.map o).length := by
 rw [Qgh, List.length_map]; omega
theorem delB (d0 : 0 ≤ i) (d1 : i ≤ j) (d2 : j ≤ (t.length : Int)) : ((i.toNat + Qh4 (List.length (t.map o)) j.toNat : Nat) : Int) ≤ ((List.length (t.map o) : Nat) : Int) := by
 have := delA (o := o) d0 d1 d2
 omega
theorem delO (d0 : 0 ≤ i) (d1 : i ≤ j) (d2 : j ≤ (t.length : Int)) : (Qgg (t.map o) i.toNat (((t.map o).drop j.toNat).take (Qh4 (List.length (t.map o)) j.toNat))).length = (t.map o).length := by
 apply Qtl
 rw [(delN d2).1, List.length_drop, List.length_map]; omega
theorem delC (d0 : 0 ≤ i) (d1 : i ≤ j) (d2 : j ≤ (t.length : Int)) : ((List.length (t.map o) : Nat) : Int) ≤ (((Qgg (t.map o) i.toNat (((t.map o).drop j.toNat).take (Qh4 (List.length (t.map o)) j.toNat))).length : Nat) : Int) := by
 rw [delO d0 d1 d2]; exact Int.le_refl _
theorem delD (d0 : 0 ≤ i) (d1 : i ≤ j) (d2 : j ≤ (t.length : Int)) : (i.toNat + Qh4 (List.length (t.map o)) j.toNat) + (List.length (t.map o) - (i.toNat + Qh4 (List.length (t.map o)) j.toNat)) ≤ (Qgg (t.map o) i.toNat (((t.map o).drop j.toNat).take (Qh4 (List.length (t.map o)) j.toNat))).length := by
 rw [delO d0 d1 d2]
 have := delA (o := o) d0 d1 d2
 omega
theorem delQ (d0 : 0 ≤ i) (d1 : i ≤ j) (d2 : j ≤ (t.length : Int)) {m : Nat} {Z : List AV} : (Qgg (Qgg (t.map o) i.toNat (((t.map o).drop j.toNat).take (Qh4 (List.length (t.map o)) j.toNat))) (i.toNat + Qh4 (List.length (t.map o)) j.toNat) (List.replicate m Z)).take (i.toNat + Qh4 (List.length (t.map o)) j.toNat) = (t.take i.toNat ++ t.drop j.toNat).map o := by
 rw [Qzc (by rw [delO d0 d1 d2]; exact delA d0 d1 d2)]
 rw [Qwj (by rw [List.length_map]; omega) (by rw [(delN d2).1, ← (delN d2).2])]
 rw [(delN d2).1, List.map_append, List.map_take, List.map_drop]
theorem delS (c : (i == j) = true) : (t.map o).take (List.length (t.map o)) = (t.take i.toNat ++ t.drop j.toNat).map o := by
 have : i = j := by simpa using c
 subst this
 rw [List.take_append_drop, List.take_of_length_le (Nat.le_refl _)]
end
def ovT {T : Type} (xs : List T) (a : Nat) (ys : List T) : List T := xs.take a ++ ys ++ xs.drop (a + ys.length)
def Qud {T : Type} (xs : List T) (z : T) (a n : Nat) : List T := ovT xs a (List.replicate n z)
theorem clrM {T : Type} (o : T → List AV) {xs : List T} {z : T} {Z : List AV} {a n : Nat} (h : o z = Z) : Qgg (xs.map o) a (List.replicate n Z) = (Qud xs z a n).map o := by
 subst h
 simp [Qgg, Qud, ovT, List.map_take, List.map_drop]
end Go.T
set_option linter.unusedVariables false
namespace Go.T
open Go Go.RowKit
variable {E : Env} {s : St} {a : Act} {w : World} {χ : Nat → Option Nat} {hd : Nat → Value}
mutual
theorem Qw5 {τ : List (Nat × Qao)} (hτ : tOK s τ) (h : Qbg E s a w χ hd) : ∀ (x : AV) (z z' : List (List (List AV))) (y : AV) (ps : List Prop) (u : Value) (f : List Nat), Qwg s τ x z = some (y, ps, z') → Qb5 ps → repR w (Qb3 χ w) (· ∈ s.us) (tab s hd) x u f → rep w (fun b => b < w.heap.size) y u []
 | .lit v, z, z', y, ps, u, f, he, hp, hr => by
  simp only [Qwg] at he; cases he
  exact Qh0 h (.lit v) _ u f hr (by simp [Xbq, out])
 | .ro sz xs, z, z', y, ps, u, f, he, hp, hr => by
  simp only [Qwg] at he; cases he
  exact Qh0 h (.ro sz xs) _ u f hr (by simp [Xbq, out])
 | .rop cs o, z, z', y, ps, u, f, he, hp, hr => by
  simp only [Qwg] at he; cases he
  exact Qh0 h (.rop cs o) _ u f hr (by simp [Xbq, out])
 | .sl i off len, z, z', y, ps, u, f, he, hp, hr => by
  simp only [Qwg] at he
  split at he
  case h_2 => cases he
  rename_i zs z1
  split at he
  case h_2 => cases he
  rename_i R hR
  cases he
  obtain ⟨h1, _⟩ := hp
  exact Qh0 h (.sl i off len) _ u f hr (by simp only [Xbq, hR, Quk hτ h1])
 | .ptr i e o, z, z', y, ps, u, f, he, hp, hr => by
  simp only [Qwg] at he
  split at he
  case h_2 => cases he
  rename_i x x' z1
  split at he
  case h_2 => cases he
  rename_i R hR
  cases he
  obtain ⟨h1, h2, _⟩ := hp
  exact Qh0 h (.ptr i e o) _ u f hr (by simp only [Xbq, hR, h1, Qtx hτ h2])
 | .agg cs, z, z', y, ps, u, f, he, hp, hr => by
  simp only [Qwg] at he
  split at he
  case h_2 => cases he
  rename_i ds qs z1 h1
  cases he
  simp only [repR] at hr
  obtain ⟨vs, rfl, hr⟩ := hr
  simp only [rep]
  exact ⟨vs, rfl, Qh3 hτ h cs z _ ds ps vs f h1 hp hr⟩
 | .fn g cs, z, z', y, ps, u, f, he, hp, hr => by
  simp only [Qwg] at he
  split at he
  case h_2 => cases he
  rename_i ds qs z1 h1
  cases he
  simp only [repR] at hr
  obtain ⟨vs, rfl, hr⟩ := hr
  simp only [rep]
  exact ⟨vs, rfl, Qh3 hτ h cs z _ ds ps vs f h1 hp hr⟩
 | .dead, z, z', y, ps, u, f, he, hp, hr => by simp [Qwg] at he
 | .own _ _ _, z, z', y, ps, u, f, he, hp, hr => by simp [Qwg] at he
 | .tup _, z, z', y, ps, u, f, he, hp, hr => by simp [Qwg] at he
theorem Qh3 {τ : List (Nat × Qao)} (hτ : tOK s τ) (h : Qbg E s a w χ hd) : ∀ (xs : List AV) (z z' : List (List (List AV))) (ys : List AV) (ps : List Prop) (us : List Value) (f : List Nat), Qtq s τ xs z = some (ys, ps, z') → Qb5 ps → Qa7 w (Qb3 χ w) (· ∈ s.us) (tab s hd) xs us f → Qcy w (fun b => b < w.heap.size) ys us []
 | [], z, z', ys, ps, us, f, he, hp, hr => by
  simp only [Qtq] at he; cases he
  simp only [Qa7] at hr; simp only [Qcy]; exact ⟨hr.1, trivial⟩
 | c :: cs, z, z', ys, ps, us, f, he, hp, hr => by
  simp only [Qtq] at he
  split at he
  case h_2 => cases he
  rename_i d qs z1 h1
  split at he
  case h_2 => cases he
  rename_i ds rs z2 h2
  cases he
  obtain ⟨p1, p2⟩ := Qan hp
  simp only [Qa7] at hr
  obtain ⟨u, us', f1, f2, rfl, rfl, k1, k2⟩ := hr
  simp only [Qcy]
  exact ⟨u, us', [], [], rfl, rfl, Qw5 hτ h c z _ d qs u f1 h1 p1 k1, Qh3 hτ h cs _ _ ds rs us' f2 h2 p2 k2⟩
end
def Xa0 (s : St) (ids : List Nat) : List (Nat × Qao) := ids.filterMap fun i => (s.root i).map fun R => (i, R)
theorem Qun (s : St) : ∀ ids : List Nat, tOK s (Xa0 s ids)
 | [] => fun i R h => by simp [Xa0] at h
 | k :: ids => fun i R h => by
  have ih := Qun s ids
  unfold Xa0 at h ih
  rw [List.filterMap_cons] at h
  cases hk : s.root k with
  | none => rw [hk] at h; exact ih i R h
  | some Q =>
   rw [hk] at h
   simp only [Option.map_some] at h
   by_cases e : i = k
   ·subst e
    rw [Qah] at h
    cases h; exact hk
   ·rw [Qa8 e] at h
    exact ih i R h
end Go.T
