/- Plain facts for FnExactOrderOf; no condition. -/

import Derived.Test.YtjcaompblpglcaaOR1
set_option linter.unusedVariables false
set_option linter.unusedSimpArgs false
namespace Go.Proofs.Ytjcaompblpglcaa
open Go Go.T
structure WInv (P : List (List Int)) (from_ to : Int) (W : List (List Int)) (S : List Int) (i : Nat) : Prop where
 hi : i ≤ W.length
 hm : W.map lst = from_ :: S
 hS : S.Nodup
 hr : ∀ x ∈ S, 0 ≤ x ∧ x < 100
 hw : ∀ (q : Nat) (w : List Int), W[q]? = some w → w ≠ [] ∧ w.length ≤ q + 1 ∧ (lst w = from_ ∨ Way P from_ (lst w))
 hd : ∀ (q : Nat) (w : List Int), q < i → W[q]? = some w → ∀ m, [lst w, m] ∈ P → m ≠ to ∧ m ∈ S
theorem WInv.len {P : List (List Int)} {f t : Int} {W : List (List Int)} {S : List Int} {i : Nat} (h : WInv P f t W S i) : W.length = S.length + 1 ∧ S.length ≤ 100 := by
 have h1 := congrArg List.length h.hm
 simp at h1
 exact ⟨h1, Qhe 100 S h.hS h.hr⟩
theorem Xc9 (P : List (List Int)) (x : Int) : (nxt P x).length ≤ P.length := List.length_filterMap_le _ _
theorem Xal {P : List (List Int)} (hP : E2 P) (hl : P.length ≤ 100000) {f t : Int} : ∀ (n : Nat) (W : List (List Int)) (S : List Int) (i : Nat), WInv P f t W S i → 102 < n + i → ∃ r, Qbz P t n W S i = some r ∧ (r ≠ [] ↔ Way P f t) ∧ r.length ≤ 200
 | 0, W, S, i, h, hn => by have := h.len; have := h.hi; omega
 | n + 1, W, S, i, h, hn => by
  obtain ⟨h1, h2⟩ := h.len
  rw [Qbz]
  by_cases hk : i < W.length
  ·have hW : W[i]? = some W[i] := List.getElem?_eq_getElem hk
   obtain ⟨w0, w1, w2⟩ := h.hw i _ hW
   generalize hww : W[i] = w at hW w0 w1 w2
   have hx := Qya hP hl (K0 := Qbz P t n) (to := t) (i := (i : Int)) w0 (by omega) (W := W) (S := S) FU 0 [] (by omega) (Qdg (by omega)) (by simp)
   rw [List.drop_zero, show ((0 : Nat) : Int) = 0 from rfl] at hx
   have hnl := Qqf [] (nxt P (lst w))
   have hnl2 := Xc9 P (lst w)
   rw [show ([] : List Int).length = 0 from rfl] at hnl
   have hmem : ∀ x, x ∈ Qoo [] (nxt P (lst w)) ↔ [lst w, x] ∈ P := fun x => by rw [Qmz, Xbx hP]; simp
   generalize Qoo [] (nxt P (lst w)) = nx at hx hnl hmem
   have hnr : ∀ x ∈ nx, 0 ≤ x ∧ x < 100 := fun x hx => by
    obtain ⟨a, b, e, r1, r2, r3, r4⟩ := hP _ ((hmem x).1 hx)
    simp at e; omega
   have hy := Qxf (P := P) (K0 := Qbz P t n) (to := t) (i := i) (w := w) (nx := nx) (by omega) hnr (by omega) (by omega) FU 0 W S (by omega) (Qdg (by omega)) (by omega) h.hS h.hr hW
   rw [List.drop_zero, show ((0 : Nat) : Int) = 0 from rfl] at hy
   simp only [PS, hk, Qdm hk, hww, hx, hy]
   by_cases ht : t ∈ nx
   ·refine ⟨w, by simp [ht], ⟨fun _ => ?_, fun _ => w0⟩, by omega⟩
    rcases w2 with e | e
    ·exact .one (e ▸ (hmem t).1 ht)
    ·exact .more e ((hmem t).1 ht)
   ·simp only [ht, if_false]
    refine Xal hP hl n _ _ (i + 1) ⟨?_, ?_, ?_, ?_, ?_, ?_⟩ (by omega)
    ·simp; omega
    ·rw [List.map_append, h.hm, List.map_map, show lst ∘ (fun m => w ++ [m]) = id from funext fun m => Qws w m, List.map_id]; rfl
    ·exact Qk0 h.hS
    ·intro x hx
     rw [Qkg] at hx
     rcases hx with hx | hx
     ·exact h.hr x hx
     ·exact hnr x hx
    ·intro q w' hq
     by_cases hql : q < W.length
     ·rw [List.getElem?_append_left hql] at hq; exact h.hw q w' hq
     ·rw [List.getElem?_append_right (by omega), List.getElem?_map, Option.map_eq_some_iff] at hq
      obtain ⟨m, hm, rfl⟩ := hq
      have hmf := (Qy7 (List.mem_of_getElem? hm)).1
      refine ⟨by simp, by simp; omega, .inr ?_⟩
      rw [Qws]
      rcases w2 with e | e
      ·exact .one (e ▸ (hmem m).1 hmf)
      ·exact .more e ((hmem m).1 hmf)
    ·intro q w' hq hqw m hm
     by_cases hqi : q < i
     ·rw [List.getElem?_append_left (by omega)] at hqw
      have := h.hd q w' hqi hqw m hm
      exact ⟨this.1, List.mem_append_left _ this.2⟩
     ·have hqe : q = i := by omega
      subst hqe
      rw [List.getElem?_append_left hk, hW] at hqw
      cases hqw
      have hm' := (hmem m).2 hm
      exact ⟨fun e => ht (e ▸ hm'), Qkg.2 (.inr hm')⟩
  ·have hi := h.hi
   have hiW : i = W.length := by omega
   simp only [PS, hk]
   refine ⟨[], by simp, ⟨fun h => absurd rfl h, fun hw => ?_⟩, by simp⟩
   exfalso
   have step : ∀ x m, x = f ∨ x ∈ S → [x, m] ∈ P → m ≠ t ∧ m ∈ S := by
    intro x m hx hm
    have hxm : x ∈ W.map lst := by rw [h.hm, List.mem_cons]; exact hx
    rw [List.mem_map] at hxm
    obtain ⟨w, hw, rfl⟩ := hxm
    obtain ⟨q, hq, rfl⟩ := List.mem_iff_getElem.1 hw
    exact h.hd q _ (by omega) (List.getElem?_eq_getElem hq) m hm
   have all : ∀ x, Way P f x → x ≠ t ∧ x ∈ S := by
    intro x hx
    clear hw
    induction hx with
    | one k => exact step _ _ (.inl rfl) k
    | more _ k ih => exact step _ _ (.inr ih.2) k
   exact (all t hw).1 rfl
theorem Xcs {P : List (List Int)} (hP : E2 P) (hl : P.length ≤ 100000) (f t : Int) : ∃ r, Qgs P f t = some r ∧ (r ≠ [] ↔ Way P f t) ∧ r.length ≤ 200 := by
 rw [Qgs]
 refine Xal hP hl FU [[f]] [] 0 ⟨by simp, by simp [lst], by simp, by simp, ?_, ?_⟩ (by have := Qdg (n := 102) (by omega); omega)
 ·intro q w hq
  match q, hq with
  | 0, hq => simp at hq; subst hq; exact ⟨by simp, by simp, .inl (by simp [lst])⟩
  | q + 1, hq => simp at hq
 ·intro q w hq; omega
theorem Qvd {P : List (List Int)} (hP : E2 P) (hl : P.length ≤ 100000) : ∀ (n m k : Nat), k + m = 100 → m < n → ∃ r, Qc9 P n k = some r ∧ (r ≠ [] ↔ ∃ x : Nat, k ≤ x ∧ x < 100 ∧ Way P x x) ∧ r.length ≤ 200
 | 0, m, k, h1, h2 => by omega
 | n + 1, m, k, h1, h2 => by
  rw [Qc9]
  by_cases hk : k < 100
  ·obtain ⟨r, e1, e2, e3⟩ := Xcs hP hl (k : Int) (k : Int)
   have c1 : decide ((k : Int) < 100) = true := by simp; omega
   simp only [PS, c1, e1, Qcx (k := k) (by omega)]
   by_cases hr : r = []
   ·subst hr
    obtain ⟨r2, f1, f2, f3⟩ := Qvd hP hl n (m - 1) (k + 1) (by omega) (by omega)
    refine ⟨r2, by simpa using f1, ?_, f3⟩
    rw [f2]
    constructor
    ·rintro ⟨x, a, b⟩; exact ⟨x, by omega, b⟩
    ·rintro ⟨x, a, b, c⟩
     refine ⟨x, ?_, b, c⟩
     rcases Nat.lt_or_ge k x with h | h
     ·exact h
     ·have : x = k := by omega
      subst this
      exact absurd rfl (e2.2 c)
   ·have hp : 0 < r.length := List.length_pos_iff.2 hr
    have c2 : decide ((r.length : Int) > 0) = true := by simp; exact hp
    refine ⟨r, by simp [hr], ⟨fun _ => ⟨k, by omega, hk, e2.1 hr⟩, fun _ => hr⟩, e3⟩
  ·have : k = 100 := by omega
   subst this
   have c1 : decide (((100 : Nat) : Int) < 100) = false := by decide
   simp only [PS, c1]
   exact ⟨[], by simp, ⟨fun h => absurd rfl h, fun ⟨x, a, b, _⟩ => by omega⟩, by simp⟩
theorem Qza {P : List (List Int)} (hP : E2 P) (hl : P.length ≤ 100000) : ∃ r, Qf8 P = some r ∧ (r ≠ [] ↔ ∃ x, Way P x x) ∧ r.length ≤ 200 := by
 obtain ⟨r, e1, e2, e3⟩ := Qvd hP hl FU 100 0 (by omega) (Qdg (by omega))
 refine ⟨r, by rw [Qf8]; exact e1, ?_, e3⟩
 rw [e2]
 constructor
 ·rintro ⟨x, _, _, h⟩; exact ⟨_, h⟩
 ·rintro ⟨x, h⟩
  obtain ⟨a, b, _⟩ := h.rng hP
  exact ⟨x.toNat, by omega, by omega, by rw [show ((x.toNat : Nat) : Int) = x by omega]; exact h⟩
def Qiv (P : List (List Int)) (L : List Int) (k : Int) : Bool := !P.any fun e => match e with
 | [a, b] => b == k && L.any (· == a)
 | _ => false
theorem Qp8 {P : List (List Int)} (hP : E2 P) {L : List Int} {k : Int} : Qiv P L k = true ↔ ∀ a ∈ L, [a, k] ∉ P := by
 unfold Qiv
 rw [Bool.not_eq_true', List.any_eq_false]
 constructor
 ·intro h a ha hp
  have := h _ hp
  simp at this
  exact this ha
 ·intro h e he
  obtain ⟨a, b, rfl, _⟩ := hP e he
  simp
  rintro rfl hb
  exact h a hb he
theorem Qv1 {P : List (List Int)} {L : List Int} (h : ∀ k ∈ L, ∃ a ∈ L, [a, k] ∈ P) {x : Int} (hx : x ∈ L) : ∀ m : Nat, ∃ T : List Int, T.length = m + 1 ∧ (∀ y ∈ T, y ∈ L) ∧ T.Pairwise (fun a b => Way P a b)
 | 0 => ⟨[x], rfl, by simpa using hx, by simp⟩
 | m + 1 => by
  obtain ⟨T, t1, t2, t3⟩ := Qv1 h hx m
  match T, t1 with
  | y :: T, t1 =>
   obtain ⟨a, ha, hp⟩ := h y (t2 y (by simp))
   refine ⟨a :: y :: T, by simp at t1 ⊢; omega, ?_, ?_⟩
   ·intro z hz
    rw [List.mem_cons] at hz
    rcases hz with rfl | hz
    ·exact ha
    ·exact t2 z hz
   ·rw [List.pairwise_cons]
    refine ⟨fun z hz => ?_, t3⟩
    rw [List.mem_cons] at hz
    rcases hz with rfl | hz
    ·exact .one hp
    ·exact .cons hp ((List.pairwise_cons.1 t3).1 z hz)
theorem Qt2 {P : List (List Int)} {L : List Int} (hr : ∀ x ∈ L, 0 ≤ x ∧ x < 100) (hne : L ≠ []) (h : ∀ k ∈ L, ∃ a ∈ L, [a, k] ∈ P) : ∃ x, Way P x x := by
 obtain ⟨x, hx⟩ := List.exists_mem_of_ne_nil L hne
 obtain ⟨T, t1, t2, t3⟩ := Qv1 h hx 100
 apply Classical.byContradiction
 intro hno
 have hnd : T.Nodup := t3.imp (fun {a b} hab => by rintro rfl; exact hno ⟨_, hab⟩)
 have := Qhe 100 T hnd (fun y hy => hr y (t2 y hy))
 omega
end Go.Proofs.Ytjcaompblpglcaa
