/- Plain facts for FnExactFastRace; no condition. -/

import Derived.Test.YthhcnmideecfpaaQFnExactFastRace
set_option linter.unusedVariables false
namespace Go.Proofs.Ythhcnmideecfpaa
open Go Go.T

def tchF (e : GEvent) : Bool := e.Kind == 2 || e.Kind == 3
theorem spec_tchF (e : GEvent) : spec_l7Touch e = some (tchF e) := by unfold spec_l7Touch tchF; by_cases h : e.Kind = 2 <;> simp [h]
theorem impl_tchF (e : GEvent) : impl_Event_touches e = some (tchF e) := by unfold impl_Event_touches tchF; by_cases h : e.Kind = 2 <;> simp [h]
theorem tchF_obj {e : GEvent} (h : goodE e = true) (ht : tchF e = true) : 0 ≤ e.Obj ∧ e.Obj ≤ 99 := by
  unfold goodE at h
  unfold tchF at ht
  simp only [Bool.and_eq_true, Bool.or_eq_true, Bool.not_eq_true', bne_iff_ne, decide_eq_true_eq, inr, Bool.and_eq_false_iff, decide_eq_false_iff_not, beq_iff_eq] at h ht
  omega
/-- a cell's place in the spec's row: the first one -/
def isAt (cs : List Gl7Cell) (c : Int) (k : Nat) (x : Gl7Cell) : Prop := cs[k]? = some x ∧ x.cell = c ∧ ∀ (j : Nat) (y : Gl7Cell), j < k → cs[j]? = some y → y.cell ≠ c
theorem find_l0 {cs : List Gl7Cell} {c : Int} (hl : cs.length < 1000000) : ∀ (n k : Nat), k ≤ cs.length → cs.length < n + k → (∀ (j : Nat) (y : Gl7Cell), j < k → cs[j]? = some y → y.cell ≠ c) →
    (spec_l7Find_l0 cs c n k = some (-1) ∧ ∀ (j : Nat) (y : Gl7Cell), cs[j]? = some y → y.cell ≠ c) ∨ (∃ (i : Nat) (x : Gl7Cell), spec_l7Find_l0 cs c n k = some (i : Int) ∧ isAt cs c i x)
  | 0, k, h1, h2, h3 => by omega
  | n + 1, k, h1, h2, h3 => by
    rw [spec_l7Find_l0]
    by_cases hk : k < cs.length
    · simp only [PS, hk, rd_at hk, w64_s (k := k) (by omega)]
      by_cases h : cs[k].cell = c
      · right
        refine ⟨k, cs[k], by simp [h], by simp [hk], h, h3⟩
      · have h' : (cs[k].cell == c) = false := by simp [h]
        simp only [PS, h']
        refine find_l0 hl n (k + 1) hk (by omega) fun j y hj hy => ?_
        by_cases e : j = k
        · subst e
          rw [List.getElem?_eq_getElem hk] at hy
          cases hy; exact h
        · exact h3 j y (by omega) hy
    · left
      have : k = cs.length := by omega
      subst this
      refine ⟨by simp, fun j y hy => h3 j y ?_ hy⟩
      exact (List.getElem?_eq_some_iff.1 hy).1
theorem find_eq {cs : List Gl7Cell} {c : Int} (hl : cs.length < 1000000) : (spec_l7Find cs c = some (-1) ∧ ∀ (j : Nat) (y : Gl7Cell), cs[j]? = some y → y.cell ≠ c) ∨ (∃ (i : Nat) (x : Gl7Cell), spec_l7Find cs c = some (i : Int) ∧ isAt cs c i x) := by
  rw [spec_l7Find]
  exact find_l0 hl FU 0 (by omega) (by have := FU_gt (n := cs.length) (by omega); omega) (fun j y hj => by omega)
/-- what the spec's row tells of a cell -/
def tells (cs : List Gl7Cell) (c : Int) (t : Int) (n : Int) (L : List Int) : Prop := (∃ k x, isAt cs c k x ∧ x.by_ = t ∧ x.at_ = n ∧ x.loads = L) ∨ ((∀ (j : Nat) (y : Gl7Cell), cs[j]? = some y → y.cell ≠ c) ∧ t = 0 ∧ n = 0 ∧ L = List.replicate 5 0)
/-- row and array tell the same -/
def RA (cs : List Gl7Cell) (a : Vector Gtouched 100) : Prop := ∀ c : Nat, c < 100 → ∃ (t : Nat) (n : Int) (L : Vector Int 5), t < 5 ∧ a[c]? = some ⟨(t : Int), n, L⟩ ∧ tells cs (c : Int) (t : Int) n L.toList
theorem isAt_set {cs : List Gl7Cell} {c c' : Int} {k : Nat} {x x' : Gl7Cell} (h : isAt cs c k x) (hx : x'.cell = c) : isAt (cs.set k x') c k x' := by
  obtain ⟨h1, h2, h3⟩ := h
  have hk := (List.getElem?_eq_some_iff.1 h1).1
  refine ⟨by rw [List.getElem?_set_self hk], hx, fun j y hj hy => h3 j y hj ?_⟩
  rwa [List.getElem?_set_ne (by omega)] at hy
theorem tells_set {cs : List Gl7Cell} {c c' : Int} {k : Nat} {x x' : Gl7Cell} {t n : Int} {L : List Int} (h : isAt cs c k x) (hx : x'.cell = c) (hne : c' ≠ c) (ht : tells cs c' t n L) : tells (cs.set k x') c' t n L := by
  obtain ⟨h1, h2, h3⟩ := h
  have hk := (List.getElem?_eq_some_iff.1 h1).1
  rcases ht with ⟨i, y, ⟨g1, g2, g3⟩, e⟩ | ⟨g, e⟩
  · left
    have hik : k ≠ i := by
      intro e; subst e
      rw [h1] at g1; cases g1
      exact hne (g2.symm.trans h2)
    refine ⟨i, y, ⟨by rw [List.getElem?_set_ne hik]; exact g1, g2, fun j z hj hz => ?_⟩, e⟩
    by_cases e : k = j
    · subst e
      rw [List.getElem?_set_self hk] at hz
      cases hz
      rw [hx]; exact fun e => hne e.symm
    · rw [List.getElem?_set_ne e] at hz
      exact g3 j z hj hz
  · right
    refine ⟨fun j z hz => ?_, e⟩
    by_cases e : k = j
    · subst e
      rw [List.getElem?_set_self hk] at hz
      cases hz
      rw [hx]; exact fun e => hne e.symm
    · rw [List.getElem?_set_ne e] at hz
      exact g j z hz
theorem isAt_app {cs : List Gl7Cell} {x : Gl7Cell} (h : ∀ (j : Nat) (y : Gl7Cell), cs[j]? = some y → y.cell ≠ x.cell) : isAt (cs ++ [x]) x.cell cs.length x := by
  refine ⟨by simp, rfl, fun j y hj hy => h j y ?_⟩
  rwa [List.getElem?_append_left hj] at hy
theorem tells_app {cs : List Gl7Cell} {x : Gl7Cell} {c : Int} {t n : Int} {L : List Int} (hx : x.by_ = 0 ∧ x.at_ = 0 ∧ x.loads = List.replicate 5 0) (ht : tells cs c t n L) : tells (cs ++ [x]) c t n L := by
  rcases ht with ⟨i, y, ⟨g1, g2, g3⟩, e⟩ | ⟨g, e1, e2, e3⟩
  · left
    have hi := (List.getElem?_eq_some_iff.1 g1).1
    exact ⟨i, y, ⟨by rw [List.getElem?_append_left hi]; exact g1, g2, fun j z hj hz => g3 j z hj (by rwa [List.getElem?_append_left (by omega)] at hz)⟩, e⟩
  · by_cases hc : x.cell = c
    · left
      subst hc
      exact ⟨cs.length, x, isAt_app g, by rw [e1]; exact hx.1, by rw [e2]; exact hx.2.1, by rw [e3]; exact hx.2.2⟩
    · right
      refine ⟨fun j z hz => ?_, e1, e2, e3⟩
      by_cases hj : j < cs.length
      · rw [List.getElem?_append_left hj] at hz
        exact g j z hz
      · have h1 := (List.getElem?_eq_some_iff.1 hz).1
        simp at h1
        have : j = cs.length := by omega
        subst this
        simp at hz
        subst hz; exact hc
theorem tells_at {cs : List Gl7Cell} {c : Int} {k : Nat} {x : Gl7Cell} {t n : Int} {L : List Int} (h : isAt cs c k x) (ht : tells cs c t n L) : x.by_ = t ∧ x.at_ = n ∧ x.loads = L := by
  rcases ht with ⟨i, y, ⟨g1, g2, g3⟩, e⟩ | ⟨g, e⟩
  · obtain ⟨h1, h2, h3⟩ := h
    have : i = k := by
      rcases Nat.lt_trichotomy i k with h4 | h4 | h4
      · exact absurd g2 (h3 i y h4 g1)
      · exact h4
      · exact absurd h2 (g3 k x h4 h1)
    subst this
    rw [h1] at g1; cases g1
    exact e
  · exact absurd h.2.1 (g k x h.1)
/- the test whether a place races -/
def ckv (p : List GEvent) (j t : Nat) : Int := ((ct p (fun i => i == j || aheadF p j i) (j + 1) t : Nat) : Int)
theorem clk_rd (p : List GEvent) (j : Nat) {t : Nat} (h : t < 5) : rd (clk p j) (t : Int) = some (ckv p j t) := by unfold clk; exact tbl_rd h
theorem vrd {L : Vector Int 5} {i : Nat} (h : i < 5) : rd L.toList (i : Int) = some (L[i]?.getD 0) ∧ rdv L (i : Int) = some (L[i]?.getD 0) := by
  constructor
  · rw [rd_nat, Vector.getElem?_toList]; simp [h]
  · rw [rdv_at h]; simp [h]
def lateB (p : List GEvent) (j : Nat) (L : Vector Int 5) (i : Nat) : Bool := decide (L[i]?.getD 0 > ckv p j i)
theorem fr_l2 {K0 : List (List Int) → List Gl7Cell → Int → Option (Int × Int × Bool)} {p : List GEvent} {j k : Nat} {C : List (List Int)} {cs : List Gl7Cell} {e : GEvent} {x : Gl7Cell} {L : Vector Int 5} (hx : x.loads = L.toList) (hC : ∃ y, rd C (j : Int) = some y) (hc : ∃ y, rd cs (k : Int) = some y) {FIN : Option (Int × Int × Bool)}
    (hf : ∀ n, spec_FastRace_l2 K0 p j C cs e k (clk p j) x (n + 1) ((5 : Nat) : Int) = FIN) : ∀ (n i : Nat), i ≤ 5 → 5 < n + i → spec_FastRace_l2 K0 p j C cs e k (clk p j) x n i = if e.Kind = 3 ∧ exi (lateB p j L) i (5 - i) = true then some (e.Obj, (j : Int), true) else FIN
  | 0, i, h1, h2 => by omega
  | n + 1, i, h1, h2 => by
    by_cases hi : i < 5
    · rw [spec_FastRace_l2]
      have ll : x.loads.length = 5 := by rw [hx]; simp
      have hi' : decide ((i : Int) < (x.loads.length : Int)) = true := by rw [ll]; simp; omega
      obtain ⟨y1, e1⟩ := hC
      obtain ⟨y2, e2⟩ := hc
      have es : 5 - i = (5 - (i + 1)) + 1 := by omega
      have ih := fr_l2 hx ⟨y1, e1⟩ ⟨y2, e2⟩ hf n (i + 1) hi (by omega)
      rw [es, exi]
      rw [hx]
      simp only [PS, show decide ((i : Int) < (L.toList.length : Int)) = true by rw [← hx]; exact hi', (vrd (L := L) hi).1, clk_rd p j hi, e1, e2, w64_s (k := i) (by omega), ih]
      by_cases hk : e.Kind = 3
      · have hk' : (e.Kind == 3) = true := by simp [hk]
        simp only [PS, hk, hk']
        cases hb : lateB p j L i
        · have hb' : decide (L[i]?.getD 0 > ckv p j i) = false := hb
          rw [hb']; simp
        · have hb' : decide (L[i]?.getD 0 > ckv p j i) = true := hb
          rw [hb']; simp
      · have hk' : (e.Kind == 3) = false := by simp [hk]
        simp only [PS, hk']
        simp [hk]
    · have : i = 5 := by omega
      subst this
      rw [hf n]
      simp [exi]
theorem fr_l1 {K0 : Vector Gtouched 100 → List (List Int) → Int → Option (Int × Int × Bool)} {p : List GEvent} {j : Nat} {C C2 : List (List Int)} {a : Vector Gtouched 100} {e : GEvent} {x : Gtouched} {FIN R : Option (Int × Int × Bool)}
    (hr : ∀ n, impl_FastRace_l1 K0 p C a C2 j (clk p j) e x (n + 1) true ((5 : Nat) : Int) = R)
    (hf : ∀ n, impl_FastRace_l1 K0 p C a C2 j (clk p j) e x (n + 1) false ((5 : Nat) : Int) = FIN) : ∀ (n i : Nat) (b : Bool), i ≤ 5 → 5 < n + i → impl_FastRace_l1 K0 p C a C2 j (clk p j) e x n b i = if b = true ∨ (e.Kind = 3 ∧ exi (lateB p j x.loads) i (5 - i) = true) then R else FIN
  | 0, i, b, h1, h2 => by omega
  | n + 1, i, b, h1, h2 => by
    by_cases hi : i < 5
    · rw [impl_FastRace_l1]
      have es : 5 - i = (5 - (i + 1)) + 1 := by omega
      have ih := fun b => fr_l1 hr hf n (i + 1) b hi (by omega)
      have hi' : decide ((i : Int) < 5) = true := by simp; omega
      rw [es, exi]
      simp only [PS, hi', (vrd (L := x.loads) hi).2, clk_rd p j hi, w64_s (k := i) (by omega), ih]
      cases b
      · by_cases hk : e.Kind = 3
        · have hk' : (e.Kind == 3) = true := by simp [hk]
          simp only [PS, hk, hk']
          rw [show decide (x.loads[i]?.getD 0 > ckv p j i) = lateB p j x.loads i from rfl]
          cases hb : lateB p j x.loads i <;> simp
        · have hk' : (e.Kind == 3) = false := by simp [hk]
          simp only [PS, hk']
          simp [hk]
      · simp
    · have : i = 5 := by omega
      subst this
      cases b
      · rw [hf n]; simp [exi]
      · rw [hr n]; simp
theorem fr_run {p : List GEvent} (hl : p.length ≤ 200) (hg : p.all goodE = true) : ∀ (n j : Nat) (cs : List Gl7Cell) (a : Vector Gtouched 100), j ≤ p.length → p.length < n + j → cs.length ≤ j → RA cs a →
    ∃ r, spec_FastRace_l0 p n (tbl (clk p) p.length) cs j = some r ∧ impl_FastRace_l0 p (tbl (clk p) p.length) n a (tbl (clk p) p.length) j = some r
  | 0, j, cs, a, h1, h2, h3, h4 => by omega
  | n + 1, j, cs, a, h1, h2, h3, h4 => by
    rw [spec_FastRace_l0, impl_FastRace_l0]
    by_cases hj : j < p.length
    · have hge := evAt_good hg hj
      have hC : rd (tbl (clk p) p.length) (j : Int) = some (clk p j) := tbl_rd hj
      have hset : (tbl (clk p) p.length).set j (clk p j) = tbl (clk p) p.length := by
        have h5 : (tbl (clk p) p.length)[j]? = some (clk p j) := tbl_get hj
        apply List.ext_getElem?
        intro m
        by_cases e : j = m
        · subst e; rw [List.getElem?_set_self (by rw [tbl_len]; exact hj), h5]
        · rw [List.getElem?_set_ne e]
      have hlen : decide ((j : Int) < ((tbl (clk p) p.length).length : Int)) = true := by rw [tbl_len]; simp; omega
      simp only [PS, hj, evAt_rd hj, hC, hlen, spec_tchF, impl_tchF, w64_s (k := j) (by omega)]
      cases ht : tchF (evAt p j)
      · simp only [PS, ]
        have := fr_run hl hg n (j + 1) cs a hj (by omega) (by omega) h4
        have hs0 : (tbl (clk p) p.length).set (Int.toNat (j : Int)) (clk p j) = tbl (clk p) p.length := by rw [Int.toNat_natCast]; exact hset
        simpa [hset] using this
      · simp only [PS, ]
        obtain ⟨o0, o1⟩ := tchF_obj hge ht
        obtain ⟨th, ht5, eth⟩ := thr hg hj
        obtain ⟨o, eo⟩ : ∃ o : Nat, (evAt p j).Obj = (o : Int) := ⟨(evAt p j).Obj.toNat, by omega⟩
        have ho : o < 100 := by omega
        obtain ⟨t, m, L, t5, ea, etl⟩ := h4 o ho
        have ea' : rdv a ((o : Nat) : Int) = some ⟨(t : Int), m, L⟩ := by simpa [rdv] using ea
        -- impl's round
        have hbe : (Int.toNat ((o : Nat) : Int)) = o := Int.toNat_natCast o
        have implS : ∀ (FIN : Option (Int × Int × Bool)), 
            (if (evAt p j).Kind = 3 then impl_FastRace_l0 p (tbl (clk p) p.length) n (a.setIfInBounds o ⟨(th : Int), ckv p j th, Vector.replicate 5 0⟩) (tbl (clk p) p.length) ((j + 1 : Nat) : Int)
              else impl_FastRace_l0 p (tbl (clk p) p.length) n (a.setIfInBounds o ⟨(t : Int), m, L.setIfInBounds th (ckv p j th)⟩) (tbl (clk p) p.length) ((j + 1 : Nat) : Int)) = FIN →
            impl_FastRace_l1 (impl_FastRace_l0 p (tbl (clk p) p.length) n) p (tbl (clk p) p.length) a (tbl (clk p) p.length) j (clk p j) (evAt p j) ⟨(t : Int), m, L⟩ FU (decide (m > ckv p j t)) 0 =
              if (decide (m > ckv p j t)) = true ∨ ((evAt p j).Kind = 3 ∧ exi (lateB p j L) 0 5 = true) then some ((o : Int), (j : Int), true) else FIN := by
          intro FIN hF
          refine fr_l1 (x := ⟨(t : Int), m, L⟩) (fun n' => ?_) (fun n' => ?_) FU 0 _ (by omega) (by have := FU_gt (n := 5) (by omega); omega)
          · rw [impl_FastRace_l1]
            simp only [PS, hC, show decide (((5 : Nat) : Int) < 5) = false by decide, eo]
          · rw [impl_FastRace_l1, ← hF]
            simp only [PS, hC, show decide (((5 : Nat) : Int) < 5) = false by decide, eo, eth, clk_rd p j ht5, ea', hset, w64_s (k := j) (by omega), (vrd (L := L) ht5).2]
            by_cases hk : (evAt p j).Kind = 3
            · simp [hk]
            · simp [hk]
        -- what both go on with
        have next : ∀ (cs' : List Gl7Cell) (k : Nat) (x : Gl7Cell), isAt cs' ((o : Nat) : Int) k x → cs'.length ≤ j + 1 → RA cs' a → ∃ r,
            spec_FastRace_j1 (spec_FastRace_l0 p n) p j (tbl (clk p) p.length) cs' (evAt p j) k = some r ∧
            impl_FastRace_l1 (impl_FastRace_l0 p (tbl (clk p) p.length) n) p (tbl (clk p) p.length) a (tbl (clk p) p.length) j (clk p j) (evAt p j) ⟨(t : Int), m, L⟩ FU (decide (m > ckv p j t)) 0 = some r := by
          intro cs' k x hat hcl hRA
          have hxk := hat.1
          have hk' := (List.getElem?_eq_some_iff.1 hxk).1
          obtain ⟨t', m', L', t5', ea2, etl'⟩ := hRA o ho
          rw [ea] at ea2
          cases ea2
          obtain ⟨b1, b2, b3⟩ := tells_at hat etl'
          have hrk : rd cs' (k : Int) = some x := by rw [rd_nat]; exact hxk
          rw [spec_FastRace_j1]
          simp only [PS, hC, hrk, b1, clk_rd p j t5, b2]
          by_cases hm : m > ckv p j t
          · refine ⟨((o : Int), (j : Int), true), ?_, ?_⟩
            · simp [hm, eo]
            · rw [implS _ rfl]; simp [hm]
          · have hmd : decide (m > ckv p j t) = false := by simp; omega
            -- the next states
            have goRA : ∀ (x' : Gl7Cell) (t2 : Nat) (m2 : Int) (L2 : Vector Int 5), t2 < 5 → x'.cell = (o : Int) → x'.by_ = (t2 : Int) → x'.at_ = m2 → x'.loads = L2.toList → RA (cs'.set k x') (a.setIfInBounds o ⟨(t2 : Int), m2, L2⟩) := by
              intro x' t2 m2 L2 h5 hc1 hc2 hc3 hc4 c hc
              by_cases e : c = o
              · subst e
                refine ⟨t2, m2, L2, h5, ?_, .inl ⟨k, x', isAt_set (c' := (c : Int)) hat hc1, hc2, hc3, hc4⟩⟩
                rw [Vector.getElem?_setIfInBounds, if_pos rfl, if_pos hc]
              · obtain ⟨t3, m3, L3, q1, q2, q3⟩ := hRA c hc
                refine ⟨t3, m3, L3, q1, ?_, tells_set hat hc1 (by omega) q3⟩
                rw [Vector.getElem?_setIfInBounds, if_neg (fun h => e h.symm)]
                exact q2
            have setT : (L.toList.set th (ckv p j th)) = (L.setIfInBounds th (ckv p j th)).toList := by rw [Vector.toList_setIfInBounds]
            obtain ⟨r, f1, f2⟩ : ∃ r, (if (evAt p j).Kind = 3 then spec_FastRace_l0 p n (tbl (clk p) p.length) (cs'.set k ⟨(o : Int), (th : Int), ckv p j th, List.replicate 5 0⟩) ((j + 1 : Nat) : Int)
                  else spec_FastRace_l0 p n (tbl (clk p) p.length) (cs'.set k ⟨x.cell, x.by_, x.at_, L.toList.set th (ckv p j th)⟩) ((j + 1 : Nat) : Int)) = some r ∧
                (if (evAt p j).Kind = 3 then impl_FastRace_l0 p (tbl (clk p) p.length) n (a.setIfInBounds o ⟨(th : Int), ckv p j th, Vector.replicate 5 0⟩) (tbl (clk p) p.length) ((j + 1 : Nat) : Int)
                  else impl_FastRace_l0 p (tbl (clk p) p.length) n (a.setIfInBounds o ⟨(t : Int), m, L.setIfInBounds th (ckv p j th)⟩) (tbl (clk p) p.length) ((j + 1 : Nat) : Int)) = some r := by
              by_cases hk : (evAt p j).Kind = 3
              · rw [if_pos hk, if_pos hk]
                exact fr_run hl hg n (j + 1) _ _ hj (by omega) (by simpa using hcl) (goRA _ th _ _ ht5 rfl rfl rfl (by simp))
              · rw [if_neg hk, if_neg hk]
                exact fr_run hl hg n (j + 1) _ _ hj (by omega) (by simpa using hcl) (goRA _ t _ _ t5 hat.2.1 b1 b2 setT)
            have hS := fr_l2 (K0 := spec_FastRace_l0 p n) (p := p) (j := j) (k := k) (C := tbl (clk p) p.length) (cs := cs') (e := evAt p j) (x := x) (L := L) b3 ⟨_, hC⟩ ⟨_, hrk⟩ (FIN := some r) (fun n' => by
              rw [spec_FastRace_l2, ← f1]
              have ll : x.loads.length = 5 := by rw [b3]; simp
              have hmk : mk (0 : Int) 5 = some (List.replicate 5 0) := by rw [show (5 : Int) = ((5 : Nat) : Int) from rfl, mk_ok (by omega)]
              simp only [PS, show decide (((5 : Nat) : Int) < (x.loads.length : Int)) = false by rw [ll]; decide, hC, hrk, eo, eth, clk_rd p j ht5, hset, hmk, w64_s (k := j) (by omega), b3, (vrd (L := L) ht5).1]
              by_cases hk : (evAt p j).Kind = 3
              · simp [hk, List.set_set]
              · simp [hk]) FU 0 (by omega) (by have := FU_gt (n := 5) (by omega); omega)
            rw [show ((0 : Nat) : Int) = 0 from rfl] at hS
            rw [implS _ f2]
            simp only [hmd, Bool.false_eq_true, if_false, false_or]
            rw [hS]
            by_cases hq : (evAt p j).Kind = 3 ∧ exi (lateB p j L) 0 5 = true
            · refine ⟨((o : Int), (j : Int), true), ?_, ?_⟩
              · rw [if_pos hq, eo]
              · rw [if_pos hq]
            · exact ⟨r, by rw [if_neg hq], by rw [if_neg hq]⟩
        rw [eo]
        simp only [PS, ea', clk_rd p j t5]
        rcases find_eq (cs := cs) (c := ((o : Nat) : Int)) (by omega) with ⟨e1, e2⟩ | ⟨i, x, e1, e2⟩
        · have hmk : mk (0 : Int) 5 = some (List.replicate 5 0) := by rw [show (5 : Int) = ((5 : Nat) : Int) from rfl, mk_ok (by omega)]
          simp only [PS, e1, show decide ((-1 : Int) < 0) = true by decide, hmk, app_ok (a := cs) (b := [(⟨(o : Int), 0, 0, List.replicate 5 0⟩ : Gl7Cell)]) (by simp only [List.length_cons, List.length_nil]; omega)]
          refine next _ cs.length _ (isAt_app (x := ⟨(o : Int), 0, 0, List.replicate 5 0⟩) e2) (by simp; omega) fun c hc => ?_
          obtain ⟨t3, m3, L3, q1, q2, q3⟩ := h4 c hc
          exact ⟨t3, m3, L3, q1, q2, tells_app ⟨rfl, rfl, rfl⟩ q3⟩
        · simp only [PS, e1, show decide ((i : Int) < 0) = false by simp]
          exact next cs i x e2 (by omega) h4
    · have : j = p.length := by omega
      subst this
      have hlen : decide ((p.length : Int) < ((tbl (clk p) p.length).length : Int)) = false := by rw [tbl_len]; simp
      simp only [PS, Nat.lt_irrefl, hlen]
      exact ⟨(0, 0, false), rfl, rfl⟩
theorem law_FastRace (x0 : (List GEvent)) (g0 : x0.length ≤ 9223372036854775807) : laws_FnExactFastRace x0 = some true := by
  refine law_FastRace_of x0 g0 fun sm0 => ?_
  have hp' : x0.length < 1099511627776 := by have := (show x0.length ≤ 1048576 from sm0); omega
  rw [spec_FastRace, impl_FastRace]
  simp only [PS, spec_trace_eq hp', impl_trace_eq hp']
  cases hg : goodT x0
  · exact ⟨(0, 0, false), by simp, by simp⟩
  · unfold goodT at hg
    simp only [Bool.and_eq_true, decide_eq_true_eq] at hg
    obtain ⟨hg, hl⟩ := hg
    obtain ⟨c1, c2⟩ := clocks_two hl hg
    simp only [PS, c1, c2]
    exact fr_run hl hg FU 0 [] _ (by omega) (by have := FU_gt (n := x0.length) (by omega); omega) (by simp) fun c hc => ⟨0, 0, Vector.replicate 5 0, by omega, by simp [hc], .inr ⟨fun j y hy => by simp at hy, rfl, rfl, by simp⟩⟩
end Go.Proofs.Ythhcnmideecfpaa
