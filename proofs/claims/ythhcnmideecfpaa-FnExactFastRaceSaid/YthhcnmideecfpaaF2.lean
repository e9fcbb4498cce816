/- Plain facts for FnExactFastRace; no condition. -/

import Derived.Test.YthhcnmideecfpaaF1
set_option linter.unusedVariables false
namespace Go.Proofs.Ythhcnmideecfpaa
open Go Go.T


/- what comes right ahead -/
def leadB (a b : GEvent) : Bool := a.Thread == b.Thread || givesB a == takesB b ||
  (if a.Kind = 6 then a.Obj == b.Thread else if a.Kind = 11 then b.Kind == 7 && b.Obj == a.Thread else if a.Kind = 10 then b.Kind == 9 && a.Lock == b.Thread else false)
theorem spec_right (a b : GEvent) : spec_l6Right a b = some (leadB a b) := by
  have hg : spec_l6Gives a = some (givesB a) := by
    unfold spec_l6Gives givesB
    by_cases h1 : a.Kind = 5
    · simp [h1]
    · by_cases h2 : a.Kind = 8 <;> simp [h1, h2]
  have ht : spec_l6Takes b = some (takesB b) := by
    unfold spec_l6Takes takesB
    by_cases h1 : b.Kind = 4
    · simp [h1]
    · by_cases h2 : b.Kind = 9 <;> simp [h1, h2]
  unfold spec_l6Right leadB spec_l6Right_j0
  rw [hg, ht]
  simp only [Option.bind_some]
  by_cases h1 : a.Thread = b.Thread
  · simp [h1]
  · have h1' : (a.Thread == b.Thread) = false := by simp [h1]
    rw [h1']
    cases givesB a == takesB b
    · by_cases h6 : a.Kind = 6
      · simp [h6]
      · by_cases h11 : a.Kind = 11
        · simp only [h11]; cases b.Kind == 7 <;> simp
        · by_cases h10 : a.Kind = 10
          · simp only [h10]; cases b.Kind == 9 <;> simp
          · simp [h6, h11, h10]
    · simp
theorem impl_leads_eq {a b : GEvent} (ha : goodE a = true) (hb : goodE b = true) : impl_leads a b = some (leadB a b) := by
  have good : ∀ e : GEvent, goodE e = true → (e.Kind = 4 ∨ e.Kind = 5 → 0 ≤ e.Obj) ∧ (e.Kind = 8 ∨ e.Kind = 9 → 0 ≤ e.Lock) := by
    intro e h
    unfold goodE at h
    simp only [Bool.and_eq_true, Bool.or_eq_true, Bool.not_eq_true', bne_iff_ne, decide_eq_true_eq, inr, Bool.and_eq_false_iff, decide_eq_false_iff_not] at h
    omega
  have ga := good a ha
  have gb := good b hb
  have j0 : impl_leads_j0 a b = some (if a.Kind = 6 then a.Obj == b.Thread else if a.Kind = 11 then b.Kind == 7 && b.Obj == a.Thread else if a.Kind = 10 then b.Kind == 9 && a.Lock == b.Thread else false) := by
    unfold impl_leads_j0
    by_cases h6 : a.Kind = 6
    · simp [h6]
    · by_cases h11 : a.Kind = 11
      · simp only [h11]; cases b.Kind == 7 <;> simp
      · by_cases h10 : a.Kind = 10
        · simp only [h10]; cases b.Kind == 9 <;> simp
        · simp [h6, h11, h10]
  have hg : impl_Event_gives a = some (if givesB a = -2 then -1 else givesB a) := by
    unfold impl_Event_gives givesB
    by_cases h1 : a.Kind = 5
    · have := ga.1 (.inr h1)
      have e : ¬ a.Obj = -2 := by omega
      simp [h1, e]
    · by_cases h2 : a.Kind = 8
      · have := ga.2 (.inl h2)
        have e : ¬ a.Lock = -2 := by omega
        simp [h2, e]
      · simp [h1, h2]
  have ht : impl_Event_takes b = some (if takesB b = -3 then -1 else takesB b) := by
    unfold impl_Event_takes takesB
    by_cases h1 : b.Kind = 4
    · have := gb.1 (.inl h1)
      have e : ¬ b.Obj = -3 := by omega
      simp [h1, e]
    · by_cases h2 : b.Kind = 9
      · have := gb.2 (.inr h2)
        have e : ¬ b.Lock = -3 := by omega
        simp [h2, e]
      · simp [h1, h2]
  have r1 : givesB a = -2 ∨ 0 ≤ givesB a := by
    unfold givesB
    by_cases h1 : a.Kind = 5
    · right; rw [if_pos h1]; exact ga.1 (.inr h1)
    · by_cases h2 : a.Kind = 8
      · right; rw [if_neg h1, if_pos h2]; exact ga.2 (.inl h2)
      · left; rw [if_neg h1, if_neg h2]
  have r2 : takesB b = -3 ∨ 0 ≤ takesB b := by
    unfold takesB
    by_cases h1 : b.Kind = 4
    · right; rw [if_pos h1]; exact gb.1 (.inl h1)
    · by_cases h2 : b.Kind = 9
      · right; rw [if_neg h1, if_pos h2]; exact gb.2 (.inr h2)
      · left; rw [if_neg h1, if_neg h2]
  unfold impl_leads leadB
  rw [hg, ht, j0]
  simp only [Option.bind_some]
  generalize (if a.Kind = 6 then a.Obj == b.Thread else if a.Kind = 11 then b.Kind == 7 && b.Obj == a.Thread else if a.Kind = 10 then b.Kind == 9 && a.Lock == b.Thread else false) = z
  generalize givesB a = x at r1
  generalize takesB b = y at r2
  by_cases h1 : a.Thread = b.Thread
  · simp [h1]
  · have h1' : (a.Thread == b.Thread) = false := by simp [h1]
    rw [h1']
    rcases r1 with rfl | r1
    · have e : ((-2 : Int) == y) = false := by simp; omega
      simp [e]
    · have e : ¬ x = -2 := by omega
      rw [if_neg e]
      rcases r2 with rfl | r2
      · have e2 : (x == (-3 : Int)) = false := by simp; omega
        have e3 : (x == (-1 : Int)) = false := by simp; omega
        simp [e2, e3, r1]
      · have e2 : ¬ y = -3 := by omega
        rw [if_neg e2]
        cases x == y <;> simp [r1]

/- the table of what comes ahead -/
section
def rowUp (L : Nat → Nat → Bool) (R : Nat → Nat → Bool) (e : Nat) : Nat → Nat → (Nat → Bool) → Nat → Bool
  | 0, _, r => r
  | n + 1, d, r => rowUp L R e n (d + 1) (if L d e then (fun k => k == d || r k || R d k) else r)
def upd (F : Nat → Nat → Bool) (e : Nat) (r : Nat → Bool) : Nat → Nat → Bool := fun i => if i = e then r else F i
def fullT (L : Nat → Nat → Bool) : Nat → Nat → (Nat → Nat → Bool) → Nat → Nat → Bool
  | 0, _, F => F
  | m + 1, e, F => fullT L m (e + 1) (upd F e (rowUp L F e e 0 (fun _ => false)))
def leadAt (p : List GEvent) (i j : Nat) : Bool := leadB (evAt p i) (evAt p j)
/-- spec's rows: those ahead of e are whole, e itself is r, the others are empty -/
def rowsS (len e : Nat) (F : Nat → Nat → Bool) (r : List Bool) : List (List Bool) := tbl (fun i => if i < e then tbl (F i) len else if i = e then r else []) len
end
theorem rowsS_set {len e : Nat} {F : Nat → Nat → Bool} {r r' : List Bool} (he : e < len) : (rowsS len e F r).set e r' = rowsS len e F r' := by
  unfold rowsS
  rw [tbl_set]
  exact tbl_congr (fun k hk => by
    by_cases h : k = e
    · subst h; simp
    · simp [h])
theorem rowsS_e {len e : Nat} {F : Nat → Nat → Bool} {r : List Bool} (he : e < len) : rd (rowsS len e F r) (e : Int) = some r := by
  unfold rowsS; rw [tbl_rd he]; simp
theorem rowsS_d {len e d : Nat} {F : Nat → Nat → Bool} {r : List Bool} (he : e < len) (hd : d < e) : rd (rowsS len e F r) (d : Int) = some (tbl (F d) len) := by
  unfold rowsS; rw [tbl_rd (by omega)]; simp [hd]
theorem rowsS_setd {len e d : Nat} {F : Nat → Nat → Bool} {r : List Bool} (he : e < len) (hd : d < e) : (rowsS len e F r).set d (tbl (F d) len) = rowsS len e F r := by
  unfold rowsS
  rw [tbl_set]
  exact tbl_congr (fun k hk => by
    by_cases h : k = d
    · subst h; simp [hd]
    · simp [h])
theorem neI_ok {a b : Nat} (h : a ≠ b) : neI (a : Int) (b : Int) = some () := by unfold neI; rw [if_neg (by omega)]
theorem specAhead_l2 {p : List GEvent} {K0 K1 : List (List Bool) → Int → Option (List (List Bool))} {len e d : Nat} {F : Nat → Nat → Bool} (hl : len < 1000000) (he : e < len) (hd : d < e) : ∀ (n k : Nat) (r : Nat → Bool), k ≤ len → len < n + k →
    spec_l6Ahead_l2 K0 K1 p e d (tbl (F d) len) n (rowsS len e F (tbl r len)) (tbl (F d) len) k = K1 (rowsS len e F (tbl (fun j => if k ≤ j then r j || F d j else r j) len)) (((d + 1 : Nat) : Int))
  | 0, k, r, h1, h2 => by omega
  | n + 1, k, r, h1, h2 => by
    rw [spec_l6Ahead_l2]
    by_cases hk : k < len
    · have step : ∀ x : Bool, x = (r k || F d k) → spec_l6Ahead_l2 K0 K1 p e d (tbl (F d) len) n (rowsS len e F (tbl (fun j => if j = k then x else r j) len)) (tbl (F d) len) ((k + 1 : Nat) : Int) = K1 (rowsS len e F (tbl (fun j => if k ≤ j then r j || F d j else r j) len)) (((d + 1 : Nat) : Int)) := by
        intro x hx
        rw [specAhead_l2 hl he hd n (k + 1) _ hk (by omega)]
        congr 2
        exact tbl_congr (fun j _ => by
          by_cases h : j = k
          · subst h; rw [if_neg (by omega), if_pos rfl, if_pos (Nat.le_refl _), hx]
          · simp only [h, if_false]
            by_cases h' : k ≤ j
            · rw [if_pos (by omega), if_pos h']
            · rw [if_neg (by omega), if_neg h'])
      simp only [PS, tbl_len, hk, tbl_rd (f := F d) hk, rowsS_e he, rowsS_d he hd, neI_ok (show d ≠ e by omega), tbl_rd (f := r) hk, w64_s (k := k) (by omega), rowsS_set he, tbl_set]
      cases hr : r k
      · simp only [PS, ]
        exact step (F d k) (by rw [hr]; rfl)
      · simp only [PS, ]
        exact step true (by rw [hr]; rfl)
    · have : k = len := by omega
      subst this
      simp only [PS, tbl_len, Nat.lt_irrefl, rowsS_d he hd, rowsS_setd he hd, w64_s (k := d) (by omega)]
      congr 2
      exact tbl_congr (fun j hj => by rw [if_neg (by omega)])
theorem specAhead_l1 {p : List GEvent} {K0 : List (List Bool) → Int → Option (List (List Bool))} {e : Nat} {F : Nat → Nat → Bool} (hl : p.length < 1000000) (he : e < p.length) : ∀ (n m d : Nat) (r : Nat → Bool), d + m = e → m < n →
    spec_l6Ahead_l1 K0 p e n (rowsS p.length e F (tbl r p.length)) d = K0 (rowsS p.length e F (tbl (rowUp (leadAt p) F e m d r) p.length)) (((e + 1 : Nat) : Int))
  | 0, m, d, r, h1, h2 => by omega
  | n + 1, 0, d, r, h1, h2 => by
    rw [spec_l6Ahead_l1]
    have : d = e := by omega
    subst this
    simp only [PS, Nat.lt_irrefl, w64_s (k := d) (by omega), rowUp]
  | n + 1, m + 1, d, r, h1, h2 => by
    rw [spec_l6Ahead_l1]
    have hd : d < e := by omega
    simp only [PS, hd, evAt_rd (show d < p.length by omega), evAt_rd he, spec_right, w64_s (k := d) (by omega), rowUp]
    show _ = K0 (rowsS p.length e F (tbl (rowUp (leadAt p) F e m (d + 1) (if leadB (evAt p d) (evAt p e) = true then _ else _)) p.length)) _
    cases leadB (evAt p d) (evAt p e)
    · simp only [PS, ]
      exact specAhead_l1 hl he n m (d + 1) r (by omega) (by omega)
    · simp only [PS, rowsS_e he, tbl_rd (f := r) (show d < p.length by omega), rowsS_set he, tbl_set, rowsS_d he hd]
      rw [show spec_l6Ahead_l2 K0 _ p (e : Int) (d : Int) (tbl (F d) p.length) FU _ (tbl (F d) p.length) 0 = _ from specAhead_l2 hl he hd FU 0 _ (by omega) (by have := FU_gt (n := p.length) (by omega); omega)]
      rw [specAhead_l1 hl he n m (d + 1) _ (by omega) (by omega)]
      congr 4
      funext j
      simp only [Nat.zero_le, if_true]
      by_cases h : j = d
      · simp [h]
      · have h' : (j == d) = false := by simp [h]
        rw [h', if_neg h, Bool.false_or]
theorem specAhead_l0 {p : List GEvent} (hl : p.length < 1000000) : ∀ (n m e : Nat) (F : Nat → Nat → Bool), e + m = p.length → m < n →
    spec_l6Ahead_l0 p n (rowsS p.length e F []) e = some (tbl (fun i => tbl (fullT (leadAt p) m e F i) p.length) p.length)
  | 0, m, e, F, h1, h2 => by omega
  | n + 1, 0, e, F, h1, h2 => by
    rw [spec_l6Ahead_l0]
    have : e = p.length := by omega
    subst this
    simp only [PS, Nat.lt_irrefl, fullT]
    congr 1
    exact tbl_congr (fun k hk => by rw [if_pos hk])
  | n + 1, m + 1, e, F, h1, h2 => by
    rw [spec_l6Ahead_l0]
    have he : e < p.length := by omega
    simp only [PS, he, mk_ok (z := false) (n := p.length) (by omega), rowsS_e he, rowsS_set he, tbl_rep (x := false), fullT]
    rw [show spec_l6Ahead_l1 _ p (e : Int) FU _ 0 = _ from specAhead_l1 hl he FU e 0 _ (by omega) (by have := FU_gt (n := e) (by omega); omega)]
    rw [← specAhead_l0 hl n m (e + 1) _ (by omega) (by omega)]
    congr 1
    unfold rowsS upd
    exact tbl_congr (fun k hk => by
      by_cases h : k = e
      · subst h; simp
      · by_cases h' : k < e
        · rw [if_pos h', if_pos (by omega)]; simp [h]
        · rw [if_neg h', if_neg h, if_neg (by omega)]; simp)
def aheadF (p : List GEvent) : Nat → Nat → Bool := fullT (leadAt p) p.length 0 (fun _ _ => false)
theorem specAhead_eq {p : List GEvent} (hl : p.length < 1000000) : spec_l6Ahead p = some (tbl (fun i => tbl (aheadF p i) p.length) p.length) := by
  rw [spec_l6Ahead, mk_ok (z := ([] : List Bool)) (n := p.length) (by omega)]
  simp only [PS, tbl_rep (x := ([] : List Bool))]
  have := specAhead_l0 hl FU p.length 0 (fun _ _ => false) (by omega) (by have := FU_gt (n := p.length) (by omega); omega)
  rw [show tbl (fun _ => ([] : List Bool)) p.length = rowsS p.length 0 (fun _ _ => false) [] from tbl_congr (fun k _ => by simp)]
  exact this
end Go.Proofs.Ythhcnmideecfpaa
