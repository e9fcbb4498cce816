/- Plain facts for FnExactGoodHunt; no condition. -/

import Derived.Test.YthhcnmideecfpaaGreatQFnExactGoodHunt
set_option linter.unusedVariables false
namespace Go.Proofs.YthhcnmideecfpaaGreat
open Go Go.T

theorem decF {L k : Nat} (h : k < L) : decide ((k : Int) < (L : Int)) = true := by simp; omega
theorem decE {L : Nat} : decide ((L : Int) < (L : Int)) = false := by simp
theorem bnot_if {α : Type} {b : Bool} {x y : α} : (if (!b) = true then x else y) = if b = true then y else x := by cases b <;> rfl
/- numbers, all in a range -/
theorem all_both {p : List Int} {a b : Int} (hp : p.length ≤ 1048576) : spec_l1All p a b = some (p.all (fun x => inr x a b)) := by
  rw [spec_l1All]
  have := allL (F := spec_l1All_l0 p a b) (L := p.length) (c := fun k => inr (p.getD k 0) a b) (fin := true) (fun n => by rw [spec_l1All_l0, decE]; rfl)
    (fun n k hk => by rw [spec_l1All_l0, decF hk]; simp only [if_true, rd_at hk, Option.bind_some, spec_in_eq, bnot_if, getD_at 0 hk]) (by omega)
  rw [this, Bool.and_true, all_at p 0 (fun x => inr x a b)]
/- numbers that rise -/
def risB (p : List Int) (a b : Int) (k : Nat) : Bool := inr (p.getD k 0) a b && (k == 0 || decide (p.getD (k - 1) 0 < p.getD k 0))
def risF (p : List Int) (a b : Int) : Bool := (List.range p.length).all (risB p a b)
theorem ris_step {p : List Int} {a b : Int} {k : Nat} {F : Option Bool} (hp : p.length ≤ 1048576) (hk : k < p.length) : (if inr p[k] a b = true then if decide ((k : Int) > 0) = true then Option.bind (rd p (w64 ((k : Int) - 1))) fun x => if decide (x ≥ p[k]) = true then some false else F else F else some false) = if risB p a b k = true then F else some false := by
  unfold risB
  rw [getD_at 0 hk]
  cases inr p[k] a b
  · simp
  · by_cases h0 : k = 0
    · subst h0; simp
    · have h1 : decide ((k : Int) > 0) = true := by simp; omega
      have h2 : w64 ((k : Int) - 1) = ((k - 1 : Nat) : Int) := by
        rw [w64_id (by omega)]; omega
      have h3 : k - 1 < p.length := by omega
      have h4 : (k == 0) = false := by simp [h0]
      rw [getD_at 0 h3]
      simp only [h1, h2, rd_at h3, if_true, Option.bind_some, h4, Bool.false_or, Bool.true_and]
      by_cases h5 : p[k - 1] < p[k]
      · have : decide (p[k - 1] ≥ p[k]) = false := by simp; omega
        simp [h5, this]
      · have : decide (p[k - 1] ≥ p[k]) = true := by simp; omega
        simp [h5, this]
theorem spec_rising {p : List Int} {a b : Int} (hp : p.length ≤ 1048576) : spec_l1Rising p a b = some (risF p a b) := by
  rw [spec_l1Rising]
  have := allL (F := spec_l1Rising_l0 p a b) (L := p.length) (c := risB p a b) (fin := true) (fun n => by rw [spec_l1Rising_l0, decE]; rfl)
    (fun n k hk => by rw [spec_l1Rising_l0, decF hk]; simp only [if_true, rd_at hk, Option.bind_some, spec_in_eq, bnot_if]; exact ris_step hp hk) (by omega)
  rw [this, Bool.and_true]; rfl
theorem impl_rising_eq {p : List Int} {b : Int} (hp : p.length ≤ 1048576) : impl_isRising p b = some (risF p 0 b) := by
  rw [impl_isRising]
  have := allL (F := impl_isRising_l0 p b) (L := p.length) (c := risB p 0 b) (fin := true) (fun n => by rw [impl_isRising_l0, decE]; rfl)
    (fun n k hk => by rw [impl_isRising_l0, decF hk]; simp only [if_true, rd_at hk, Option.bind_some, impl_in_eq, bnot_if]; exact ris_step hp hk) (by omega)
  rw [this, Bool.and_true]; rfl
/- numbers, each once -/
theorem len_le_of : ∀ (a b : List Int), a.Nodup → (∀ x ∈ a, x ∈ b) → a.length ≤ b.length
  | [], b, _, _ => by simp
  | x :: a, b, hn, h => by
    rw [List.nodup_cons] at hn
    have h1 := len_le_of a (b.erase x) hn.2 (fun y hy => (List.mem_erase_of_ne (fun (e : y = x) => hn.1 (e ▸ hy))).2 (h y (List.mem_cons_of_mem _ hy)))
    have h2 := List.length_erase_of_mem (h x List.mem_cons_self)
    have h3 : 0 < b.length := List.length_pos_of_mem (h x List.mem_cons_self)
    simp only [List.length_cons]
    omega
theorem twice_of : ∀ (l : List Int), ¬ l.Nodup → ∃ x, x ∈ l ∧ x ∈ l.erase x
  | [], h => absurd List.nodup_nil h
  | x :: l, h => by
    by_cases hx : x ∈ l
    · exact ⟨x, List.mem_cons_self, by rw [List.erase_cons_head]; exact hx⟩
    · have : ¬ l.Nodup := fun hl => h (List.nodup_cons.2 ⟨hx, hl⟩)
      obtain ⟨y, h1, h2⟩ := twice_of l this
      have hne : x ≠ y := fun e => hx (e ▸ h1)
      exact ⟨y, List.mem_cons_of_mem _ h1, by rw [List.erase_cons_tail (by simpa using hne)]; exact List.mem_cons_of_mem _ h2⟩
theorem setL_nodup (l : List Int) : (setL l).Nodup := (setL_sorted l).imp fun {a b} h => by omega
theorem setL_full {l : List Int} : (setL l).length = l.length ↔ l.Nodup := by
  constructor
  · intro h
    apply Classical.byContradiction
    intro hn
    obtain ⟨x, h1, h2⟩ := twice_of l hn
    have h3 := len_le_of (setL l) (l.erase x) (setL_nodup l) (fun y hy => by
      by_cases e : y = x
      · rw [e]; exact h2
      · exact (List.mem_erase_of_ne e).2 (setL_mem.1 hy))
    have h4 := List.length_erase_of_mem h1
    have h5 : 0 < l.length := List.length_pos_of_mem h1
    omega
  · intro h
    have h1 := len_le_of l (setL l) h (fun x hx => setL_mem.2 hx)
    have h2 := setL_len l
    omega
theorem risF_strict {l : List Int} {a b : Int} (h : l.Pairwise (· < ·)) : risF l a b = l.all (fun x => inr x a b) := by
  unfold risF
  rw [← all_at l 0 (fun x => inr x a b), Bool.eq_iff_iff, List.all_eq_true, List.all_eq_true]
  constructor
  · intro h2 k hk
    have := h2 k hk
    unfold risB at this
    rw [Bool.and_eq_true] at this
    exact this.1
  · intro h2 k hk
    have hk' := List.mem_range.1 hk
    unfold risB
    rw [Bool.and_eq_true, h2 k hk]
    refine ⟨rfl, ?_⟩
    by_cases h0 : k = 0
    · simp [h0]
    · have h3 : k - 1 < l.length := by omega
      have := (List.pairwise_iff_getElem.1 h) (k - 1) k h3 hk' (by omega)
      rw [getD_at 0 hk', getD_at 0 h3]
      simp [this]
theorem spec_has {p : List Int} {x : Int} (hp : p.length ≤ 1048576) : spec_l1Has p x = some (p.any (· == x)) := by
  rw [spec_l1Has]
  have := anyL (F := spec_l1Has_l0 p x) (L := p.length) (c := fun k => p.getD k 0 == x) (fun n => by rw [spec_l1Has_l0, decE]; rfl)
    (fun n k hk => by rw [spec_l1Has_l0, decF hk]; simp only [if_true, rd_at hk, Option.bind_some, getD_at 0 hk]) (by omega)
  rw [this, any_at p 0 (· == x)]
theorem nodup_places {l : List Int} : (List.range l.length).all (fun k => !(l.take k).any (· == l.getD k 0)) = decide l.Nodup := by
  rw [Bool.eq_iff_iff, List.all_eq_true, decide_eq_true_eq]
  constructor
  · intro h
    rw [List.Nodup, List.pairwise_iff_getElem]
    intro i j hi hj hij e
    have := h j (List.mem_range.2 hj)
    rw [Bool.not_eq_true', List.any_eq_false] at this
    apply this l[i] (by rw [List.mem_take_iff_getElem]; exact ⟨i, by omega, rfl⟩)
    rw [getD_at 0 hj, e]; simp
  · intro h k hk
    have hk := List.mem_range.1 hk
    rw [Bool.not_eq_true', List.any_eq_false]
    intro x hx
    rw [List.mem_take_iff_getElem] at hx
    obtain ⟨i, hi, rfl⟩ := hx
    rw [getD_at 0 hk, beq_iff_eq]
    intro e
    exact (List.pairwise_iff_getElem.1 h) i k (by omega) hk (by omega) e
/- schedules -/
def goodPct (s : GPct) : Bool := decide (s.Ranks.length = 5) && decide s.Ranks.Nodup && s.Ranks.all (fun x => inr x 0 4) && decide (s.Changes.length ≤ 4) && risF s.Changes 0 199
theorem clone_int {p : List Int} (hp : p.length ≤ 1048576) : slices_Clone_int_int p = some p := by
  rw [slices_Clone_int_int, slices_Clone_int_int_j0, app_ok (by simp; omega)]
  cases p <;> simp [nilS, both]
theorem impl_pct {s : GPct} (h1 : s.Ranks.length ≤ 1048576) (h2 : s.Changes.length ≤ 1048576) : impl_GoodPct s = some (goodPct s) := by
  rw [impl_GoodPct, clone_int h1]
  simp only [Option.bind_some, rising_eq (p := s.Ranks) (by omega)]
  unfold goodPct
  by_cases h5 : s.Ranks.length = 5
  · have e5 : ((s.Ranks.length : Int) == 5) = true := by simp; omega
    have hl := setL_len s.Ranks
    rw [impl_rising_eq (by omega), impl_rising_eq h2, risF_strict (setL_sorted s.Ranks)]
    have ha : (setL s.Ranks).all (fun x => inr x 0 4) = s.Ranks.all (fun x => inr x 0 4) := by
      rw [Bool.eq_iff_iff, List.all_eq_true, List.all_eq_true]
      exact ⟨fun h x hx => h x (setL_mem.2 hx), fun h x hx => h x (setL_mem.1 hx)⟩
    rw [ha]
    simp only [e5, if_true, h5, decide_true, Bool.true_and, Option.bind_some]
    by_cases hn : s.Ranks.Nodup
    · have : ((setL s.Ranks).length : Int) == 5 := by rw [setL_full.2 hn]; simp; omega
      simp only [this, if_true, hn, decide_true, Bool.true_and]
      cases s.Ranks.all (fun x => inr x 0 4)
      · simp
      · by_cases h4 : s.Changes.length ≤ 4
        · have : decide ((s.Changes.length : Int) ≤ 4) = true := by simp; omega
          simp [this, h4]
        · have : decide ((s.Changes.length : Int) ≤ 4) = false := by simp; omega
          simp [this, h4]
    · have : (((setL s.Ranks).length : Int) == 5) = false := by
        rw [beq_eq_false_iff_ne]
        intro e
        exact hn (setL_full.1 (by omega))
      simp [this, hn]
  · have e5 : ((s.Ranks.length : Int) == 5) = false := by simp; omega
    simp [e5, h5]
theorem spec_pct {s : GPct} (h1 : s.Ranks.length ≤ 1048576) (h2 : s.Changes.length ≤ 1048576) : spec_GoodPct s = some (goodPct s) := by
  rw [spec_GoodPct]
  unfold goodPct
  by_cases h5 : s.Ranks.length = 5
  · have e5 : ((s.Ranks.length : Int) != 5) = false := by simp; omega
    have hl := allL (F := spec_GoodPct_l0 s) (L := s.Ranks.length) (c := fun k => !(s.Ranks.take k).any (· == s.Ranks.getD k 0)) (fin := decide (s.Changes.length ≤ 4) && risF s.Changes 0 199)
      (fun n => by
        rw [spec_GoodPct_l0, decE]
        by_cases h4 : s.Changes.length ≤ 4
        · have : decide ((s.Changes.length : Int) ≤ 4) = true := by simp; omega
          simp [this, h4, spec_rising h2]
        · have : decide ((s.Changes.length : Int) ≤ 4) = false := by simp; omega
          simp [this, h4])
      (fun n k hk => by
        rw [spec_GoodPct_l0, decF hk]
        simp only [if_true, rd_at hk, Option.bind_some, slc_take (Nat.le_of_lt hk), spec_has (p := s.Ranks.take k) (by simp; omega), getD_at 0 hk, bnot_if]) (by omega)
    rw [hl, nodup_places, all_both h1]
    simp only [e5, Bool.false_eq_true, if_false, Option.bind_some, h5, decide_true, Bool.true_and]
    cases s.Ranks.all (fun x => inr x 0 4) <;> cases decide s.Ranks.Nodup <;> simp
  · have e5 : ((s.Ranks.length : Int) != 5) = true := by simp; omega
    simp [e5, h5]
/- pairs in their order -/
def goodPr (x : GPair) : Bool := inr x.Cell 0 99 && inr x.One 0 999 && inr x.Two 0 999
theorem spec_pair (x : GPair) : spec_l11Pair x = some (goodPr x) := by
  rw [spec_l11Pair]; unfold goodPr
  simp only [spec_in_eq, Option.bind_some]
  cases inr x.Cell 0 99 <;> cases inr x.One 0 999 <;> simp
theorem impl_pair (x : GPair) : impl_Pair_isGood x = some (goodPr x) := by
  rw [impl_Pair_isGood]; unfold goodPr
  simp only [impl_in_eq, Option.bind_some]
  cases inr x.Cell 0 99 <;> cases inr x.One 0 999 <;> simp
def cmpI (x y : Int) : Int := if x < y then -1 else if x > y then 1 else 0
theorem cmp_int (x y : Int) : cmp_Compare_int x y = some (cmpI x y) := by
  rw [cmp_Compare_int, cmp_isNaN_int, cmp_isNaN_int]
  unfold cmpI
  simp only [bne_self_eq_false, Option.bind_some, Bool.false_eq_true, if_false, decide_eq_true_eq]
  split
  · rfl
  · split <;> rfl
theorem or3 (a b c : Int) : cmp_Or_int [a, b, c] = some (if a ≠ 0 then a else if b ≠ 0 then b else c) := by
  rw [cmp_Or_int]
  obtain ⟨n, hn⟩ : ∃ n, FU = n + 4 := ⟨FU - 4, by have := FU_gt (n := 4) (by omega); omega⟩
  rw [hn]
  have r0 : rd [a, b, c] 0 = some a := rfl
  have r1 : rd [a, b, c] 1 = some b := rfl
  have r2 : rd [a, b, c] 2 = some c := rfl
  have w1 : w64 (0 + 1) = 1 := by decide
  have w2 : w64 (1 + 1) = 2 := by decide
  have w3 : w64 (2 + 1) = 3 := by decide
  rw [cmp_Or_int_l0, r0, w1, cmp_Or_int_l0, r1, w2, cmp_Or_int_l0, r2, w3, cmp_Or_int_l0]
  by_cases ha : a = 0 <;> by_cases hb : b = 0 <;> by_cases hc : c = 0 <;> simp [ha, hb, hc]
def ordP (x y : GPair) : Int := if cmpI x.Cell y.Cell ≠ 0 then cmpI x.Cell y.Cell else if cmpI x.One y.One ≠ 0 then cmpI x.One y.One else cmpI x.Two y.Two
theorem impl_order (x y : GPair) : impl_Pair_order x y = some (ordP x y) := by
  rw [impl_Pair_order]
  simp only [cmp_int, Option.bind_some, or3]
  rfl
def keyP (x : GPair) : Int := w64 (w64 (w64 (x.Cell * 1000000) + w64 (x.One * 1000)) + x.Two)
theorem key_good {x : GPair} (h : goodPr x = true) : keyP x = x.Cell * 1000000 + x.One * 1000 + x.Two := by
  unfold goodPr at h
  simp only [Bool.and_eq_true] at h
  have h1 := inr_true.1 h.1.1
  have h2 := inr_true.1 h.1.2
  have h3 := inr_true.1 h.2
  unfold keyP
  rw [w64_id (n := x.Cell * 1000000) (by omega), w64_id (n := x.One * 1000) (by omega), w64_id (n := x.Cell * 1000000 + x.One * 1000) (by omega), w64_id (by omega)]
theorem ord_key {x y : GPair} (hx : goodPr x = true) (hy : goodPr y = true) : decide (ordP x y ≥ 0) = decide (keyP x ≥ keyP y) := by
  rw [key_good hx, key_good hy]
  unfold goodPr at hx hy
  simp only [Bool.and_eq_true] at hx hy
  have h1 := inr_true.1 hx.1.1
  have h2 := inr_true.1 hx.1.2
  have h3 := inr_true.1 hx.2
  have k1 := inr_true.1 hy.1.1
  have k2 := inr_true.1 hy.1.2
  have k3 := inr_true.1 hy.2
  rw [decide_eq_decide]
  unfold ordP cmpI
  repeat' split
  all_goals omega
def dP : GPair := ⟨0, 0, 0⟩
def risP (f : GPair → GPair → Bool) (p : List GPair) (k : Nat) : Bool := goodPr (p.getD k dP) && (k == 0 || !f (p.getD (k - 1) dP) (p.getD k dP))
theorem risP_step {p : List GPair} {f : GPair → GPair → Bool} {k : Nat} {F : Option Bool} {G : GPair → Option Bool} (hk : k < p.length) (hp : p.length ≤ 1048576) (hG : ∀ x, G x = if f x p[k] = true then some false else F) : (if goodPr p[k] = true then if decide ((k : Int) > 0) = true then Option.bind (rd p (w64 ((k : Int) - 1))) G else F else some false) = if risP f p k = true then F else some false := by
  unfold risP
  rw [getD_at dP hk]
  cases goodPr p[k]
  · simp
  · by_cases h0 : k = 0
    · subst h0; simp
    · have h1 : decide ((k : Int) > 0) = true := by simp; omega
      have h2 : w64 ((k : Int) - 1) = ((k - 1 : Nat) : Int) := by rw [w64_id (by omega)]; omega
      have h3 : k - 1 < p.length := by omega
      have h4 : (k == 0) = false := by simp [h0]
      rw [getD_at dP h3]
      simp only [h1, h2, rd_at h3, if_true, Option.bind_some, h4, Bool.false_or, Bool.true_and, hG]
      cases f p[k - 1] p[k] <;> simp
theorem impl_ris {p : List GPair} (hp : p.length ≤ 1048576) : impl_areRising p = some ((List.range p.length).all (risP (fun x y => decide (ordP x y ≥ 0)) p) && decide (p.length ≤ 200)) := by
  rw [impl_areRising]
  exact allL (F := impl_areRising_l0 p) (L := p.length) (c := risP (fun x y => decide (ordP x y ≥ 0)) p) (fin := decide (p.length ≤ 200)) (fun n => by rw [impl_areRising_l0, decE]; simp only [Bool.false_eq_true, if_false, Option.some.injEq, decide_eq_decide]; omega)
    (fun n k hk => by
      rw [impl_areRising_l0, decF hk]
      simp only [if_true, rd_at hk, Option.bind_some, impl_pair, bnot_if]
      exact risP_step hk hp (fun x => by simp only [impl_order, Option.bind_some])) (by omega)
theorem spec_ris {p : List GPair} (hp : p.length ≤ 1048576) : spec_l11Rising p = some ((List.range p.length).all (risP (fun x y => decide (keyP x ≥ keyP y)) p) && decide (p.length ≤ 200)) := by
  rw [spec_l11Rising]
  exact allL (F := spec_l11Rising_l0 p) (L := p.length) (c := risP (fun x y => decide (keyP x ≥ keyP y)) p) (fin := decide (p.length ≤ 200)) (fun n => by rw [spec_l11Rising_l0, decE]; simp only [Bool.false_eq_true, if_false, Option.some.injEq, decide_eq_decide]; omega)
    (fun n k hk => by
      rw [spec_l11Rising_l0, decF hk]
      simp only [if_true, rd_at hk, Option.bind_some, spec_pair, bnot_if]
      exact risP_step hk hp (fun x => by simp only [spec_l11Key, Option.bind_some]; rfl)) (by omega)
theorem ris_same (p : List GPair) : (List.range p.length).all (risP (fun x y => decide (ordP x y ≥ 0)) p) = (List.range p.length).all (risP (fun x y => decide (keyP x ≥ keyP y)) p) := by
  have key : ∀ (f g : GPair → GPair → Bool), (∀ x y, goodPr x = true → goodPr y = true → f x y = g x y) → (List.range p.length).all (risP f p) = true → (List.range p.length).all (risP g p) = true := by
    intro f g hfg h
    rw [List.all_eq_true] at h ⊢
    intro k hk
    have hk' := List.mem_range.1 hk
    have h1 := h k hk
    unfold risP at h1 ⊢
    rw [Bool.and_eq_true] at h1 ⊢
    refine ⟨h1.1, ?_⟩
    by_cases h0 : k = 0
    · simp [h0]
    · have h2 := h (k - 1) (List.mem_range.2 (by omega))
      unfold risP at h2
      rw [Bool.and_eq_true] at h2
      rw [← hfg _ _ h2.1 h1.1]
      exact h1.2
  rw [Bool.eq_iff_iff]
  exact ⟨key _ _ fun x y hx hy => ord_key hx hy, key _ _ fun x y hx hy => (ord_key hx hy).symm⟩
/- finds -/
def picksOk (p : List Int) : Bool := decide (p.length ≤ 200) && p.all (fun x => inr x 0 999)
theorem spec_picks {p : List Int} (hp : p.length ≤ 1048576) : spec_l4Picks p = some (picksOk p) := by
  rw [spec_l4Picks, all_both hp]
  unfold picksOk
  by_cases h : p.length ≤ 200
  · have : decide ((p.length : Int) ≤ 200) = true := by simp; omega
    simp [this, h]
  · have : decide ((p.length : Int) ≤ 200) = false := by simp; omega
    simp [this, h]
theorem impl_picks {p : List Int} (hp : p.length ≤ 1048576) : impl_arePicks p 200 = some (picksOk p) := by
  rw [impl_arePicks, slices_ContainsFunc_int_int__impl_arePicks_1, slices_IndexFunc_int_int__impl_arePicks_1]
  obtain ⟨r, h1, h2⟩ := firstL (F := slices_IndexFunc_int_int__impl_arePicks_1_l0 p) (L := p.length) (c := fun k => !inr (p.getD k 0) 0 999) (fun n => by rw [slices_IndexFunc_int_int__impl_arePicks_1_l0, decE]; rfl)
    (fun n k hk => by rw [slices_IndexFunc_int_int__impl_arePicks_1_l0, decF hk]; simp only [if_true, rd_at hk, Option.bind_some, impl_arePicks_1, impl_in_eq, getD_at 0 hk]) (by omega)
  rw [any_at p 0 (fun x => !inr x 0 999)] at h2
  rw [h1]
  simp only [Option.bind_some, h2]
  unfold picksOk
  have e : (!p.any fun x => !inr x 0 999) = p.all (fun x => inr x 0 999) := by rw [List.not_any_eq_all_not]; simp
  rw [e]
  by_cases h : p.length ≤ 200
  · have : decide ((p.length : Int) ≤ 200) = true := by simp; omega
    simp [this, h]
  · have : decide ((p.length : Int) ≤ 200) = false := by simp; omega
    simp [this, h]
def dFd : GFound := ⟨[], []⟩
theorem impl_sign {p : List GFound} {x : Str} (hp : p.length ≤ 1048576) : impl_hasSign p x = some (p.any (fun f => f.Sign == x)) := by
  rw [impl_hasSign, slices_ContainsFunc_Found_Found__impl_hasSign_1, slices_IndexFunc_Found_Found__impl_hasSign_1]
  obtain ⟨r, h1, h2⟩ := firstL (F := slices_IndexFunc_Found_Found__impl_hasSign_1_l0 p x) (L := p.length) (c := fun k => (p.getD k dFd).Sign == x) (fun n => by rw [slices_IndexFunc_Found_Found__impl_hasSign_1_l0, decE]; rfl)
    (fun n k hk => by rw [slices_IndexFunc_Found_Found__impl_hasSign_1_l0, decF hk]; simp only [if_true, rd_at hk, Option.bind_some, impl_hasSign_1, getD_at dFd hk]) (by omega)
  rw [any_at p dFd (fun f => f.Sign == x)] at h2
  rw [h1]
  simp [h2]
def fdB (p : List GFound) (k : Nat) : Bool := !((p.take k).any (fun f => f.Sign == (p.getD k dFd).Sign)) && picksOk (p.getD k dFd).Picks
theorem spec_fd_l1 {K0 : Int → Option Bool} {p1 l : List GFound} {v : Int} {x : GFound} (hl : l.length ≤ 1048576) : spec_l13Finds_l1 K0 p1 v l FU x 0 = if (l.any fun f => f.Sign == x.Sign) = true then some false else K0 (w64 (v + 1)) := by
  have key : ∀ (n m k : Nat), k + m = l.length → m < n → spec_l13Finds_l1 K0 p1 v l n x (k : Int) = if ((List.range' k m).any fun k => (l.getD k dFd).Sign == x.Sign) = true then some false else K0 (w64 (v + 1)) := by
    intro n
    induction n with
    | zero => intro m k h1 h2; omega
    | succ n ih =>
      intro m k h1 h2
      rw [spec_l13Finds_l1]
      cases m with
      | zero =>
        have : k = l.length := by omega
        subst this
        rw [decE]; rfl
      | succ m =>
        have hk : k < l.length := by omega
        rw [decF hk, List.range'_succ, List.any_cons, getD_at dFd hk]
        simp only [if_true, rd_at hk, Option.bind_some, w64_s (k := k) (by omega)]
        have hsym : (x.Sign == l[k].Sign) = (l[k].Sign == x.Sign) := by rw [Bool.eq_iff_iff, beq_iff_eq, beq_iff_eq]; exact eq_comm
        rw [hsym]
        cases hc : (l[k].Sign == x.Sign)
        · simp only [Bool.false_eq_true, if_false, Bool.false_or]
          exact ih m (k + 1) (by omega) (by omega)
        · simp
  have := key FU l.length 0 (by omega) (FU_gt (by omega))
  rw [← List.range_eq_range', any_at l dFd (fun f => f.Sign == x.Sign)] at this
  exact this
theorem spec_finds {p : List GFound} (hp : p.length ≤ 1048576) (hq : ∀ f ∈ p, f.Picks.length ≤ 1048576) : spec_l13Finds p = some ((List.range p.length).all (fdB p)) := by
  rw [spec_l13Finds]
  have := allL (F := spec_l13Finds_l0 p) (L := p.length) (c := fdB p) (fin := true) (fun n => by rw [spec_l13Finds_l0, decE]; rfl)
    (fun n k hk => by
      rw [spec_l13Finds_l0, decF hk]
      simp only [if_true, rd_at hk, Option.bind_some, spec_picks (hq _ (List.getElem_mem hk)), slc_take (Nat.le_of_lt hk), spec_fd_l1 (l := p.take k) (by simp; omega), bnot_if]
      unfold fdB
      rw [getD_at dFd hk]
      cases picksOk p[k].Picks <;> cases ((p.take k).any fun f => f.Sign == p[k].Sign) <;> simp) (by omega)
  rw [this, Bool.and_true]
/- hunts -/
def dPc : GPct := ⟨[], []⟩
def goodH (h : GHunt) : Bool := goodP h.Prog && decide (h.Kept.length ≤ 30) && h.Kept.all goodPct && ((List.range h.Covered.length).all (risP (fun x y => decide (keyP x ≥ keyP y)) h.Covered) && decide (h.Covered.length ≤ 200)) && inr h.Tried 0 60 && (List.range h.Finds.length).all (fdB h.Finds)
theorem spec_hunt {h : GHunt} (sm : smHunt h) (g : wfGProg h.Prog) : spec_GoodHunt h = some (goodH h) := by
  obtain ⟨s1, ⟨s2, s2'⟩, s3, s4, s4'⟩ := sm
  rw [spec_GoodHunt]
  have e := allL (F := fun n k => spec_GoodHunt_l0 h n h k) (L := h.Kept.length) (c := fun k => goodPct (h.Kept.getD k dPc)) (fin := goodP h.Prog && decide (h.Kept.length ≤ 30) && ((List.range h.Covered.length).all (risP (fun x y => decide (keyP x ≥ keyP y)) h.Covered) && decide (h.Covered.length ≤ 200)) && inr h.Tried 0 60 && (List.range h.Finds.length).all (fdB h.Finds))
    (fun n => by
      show spec_GoodHunt_l0 h (n + 1) h _ = _
      rw [spec_GoodHunt_l0, decE, spec_goodProg s1 g, spec_ris s3, spec_finds s4 s4', spec_in_eq]
      simp only [Bool.false_eq_true, if_false, Option.bind_some]
      have h30 : decide ((h.Kept.length : Int) ≤ 30) = decide (h.Kept.length ≤ 30) := by rw [decide_eq_decide]; omega
      rw [h30]
      generalize goodP h.Prog = b1
      generalize decide (h.Kept.length ≤ 30) = b2
      generalize ((List.range h.Covered.length).all (risP (fun x y => decide (keyP x ≥ keyP y)) h.Covered) && decide (h.Covered.length ≤ 200)) = b3
      generalize inr h.Tried 0 60 = b4
      generalize (List.range h.Finds.length).all (fdB h.Finds) = b5
      cases b1 <;> cases b2 <;> cases b3 <;> cases b4 <;> cases b5 <;> rfl)
    (fun n k hk => by
      show spec_GoodHunt_l0 h (n + 1) h _ = _
      rw [spec_GoodHunt_l0, decF hk]
      have hs := s2' _ (List.getElem_mem hk)
      simp only [if_true, rd_at hk, Option.bind_some, spec_pct hs.1 hs.2, bnot_if, getD_at dPc hk]) (by omega)
  rw [e, all_at h.Kept dPc goodPct]
  unfold goodH
  generalize goodP h.Prog = b1
  generalize decide (h.Kept.length ≤ 30) = b2
  generalize ((List.range h.Covered.length).all (risP (fun x y => decide (keyP x ≥ keyP y)) h.Covered) && decide (h.Covered.length ≤ 200)) = b3
  generalize inr h.Tried 0 60 = b4
  generalize (List.range h.Finds.length).all (fdB h.Finds) = b5
  generalize h.Kept.all goodPct = b6
  cases b1 <;> cases b2 <;> cases b3 <;> cases b4 <;> cases b5 <;> cases b6 <;> rfl
theorem impl_hunt {h : GHunt} (sm : smHunt h) : impl_GoodHunt h = some (goodH h) := by
  obtain ⟨s1, ⟨s2, s2'⟩, s3, s4, s4'⟩ := sm
  rw [impl_GoodHunt, impl_goodProg s1, impl_ris s3, ris_same, impl_in_eq, slices_ContainsFunc_Pct_Pct__impl_GoodHunt_1, slices_IndexFunc_Pct_Pct__impl_GoodHunt_1]
  obtain ⟨r, h1, h2⟩ := firstL (F := slices_IndexFunc_Pct_Pct__impl_GoodHunt_1_l0 h.Kept) (L := h.Kept.length) (c := fun k => !goodPct (h.Kept.getD k dPc)) (fun n => by rw [slices_IndexFunc_Pct_Pct__impl_GoodHunt_1_l0, decE]; rfl)
    (fun n k hk => by
      have hs := s2' _ (List.getElem_mem hk)
      rw [slices_IndexFunc_Pct_Pct__impl_GoodHunt_1_l0, decF hk]; simp only [if_true, rd_at hk, Option.bind_some, impl_GoodHunt_1, impl_pct hs.1 hs.2, getD_at dPc hk]) (by omega)
  rw [any_at h.Kept dPc (fun x => !goodPct x)] at h2
  have e := allL (F := fun n k => impl_GoodHunt_l0 h n h k) (L := h.Finds.length) (c := fdB h.Finds) (fin := true) (fun n => by show impl_GoodHunt_l0 h (n + 1) h _ = _; rw [impl_GoodHunt_l0, decE]; rfl)
    (fun n k hk => by
      show impl_GoodHunt_l0 h (n + 1) h _ = _
      rw [impl_GoodHunt_l0, decF hk]
      simp only [if_true, rd_at hk, Option.bind_some, slc_take (Nat.le_of_lt hk), impl_sign (p := h.Finds.take k) (by simp; omega), impl_picks (s4' _ (List.getElem_mem hk)), bnot_if]
      unfold fdB
      rw [getD_at dFd hk]
      cases picksOk h.Finds[k].Picks <;> cases ((h.Finds.take k).any fun f => f.Sign == h.Finds[k].Sign) <;> simp) (by omega)
  rw [Bool.and_true] at e
  have e' : impl_GoodHunt_l0 h FU h 0 = some ((List.range h.Finds.length).all (fdB h.Finds)) := e
  have h30 : decide ((h.Kept.length : Int) > 30) = !decide (h.Kept.length ≤ 30) := by
    rw [Bool.eq_iff_iff]; simp; omega
  have hk : (h.Kept.any fun x => !goodPct x) = !h.Kept.all goodPct := by
    rw [Bool.eq_iff_iff]; simp
  rw [h1, e', h30]
  simp only [Option.bind_some, h2, hk]
  unfold goodH
  generalize goodP h.Prog = b1
  generalize decide (h.Kept.length ≤ 30) = b2
  generalize ((List.range h.Covered.length).all (risP (fun x y => decide (keyP x ≥ keyP y)) h.Covered) && decide (h.Covered.length ≤ 200)) = b3
  generalize inr h.Tried 0 60 = b4
  generalize (List.range h.Finds.length).all (fdB h.Finds) = b5
  generalize h.Kept.all goodPct = b6
  cases b1 <;> cases b2 <;> cases b3 <;> cases b4 <;> cases b5 <;> cases b6 <;> rfl
theorem law_GoodHunt (x0 : GHunt) (g0 : wfGHunt x0) : laws_FnExactGoodHunt x0 = some true :=
  law_GoodHunt_of x0 g0 fun sm => ⟨goodH x0, spec_hunt sm g0.1, impl_hunt sm⟩
end Go.Proofs.YthhcnmideecfpaaGreat
