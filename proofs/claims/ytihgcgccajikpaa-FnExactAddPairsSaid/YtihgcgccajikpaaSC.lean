/- Lemmas for FnExactAddPairs; no condition. -/

import Derived.Test.YtihgcgccajikpaaBG
import Derived.Shelf.SlSortCmp.NoneTotal
import Derived.Lib.SlKept
import Derived.Shelf.SlSortFuncK.RowK2
set_option linter.unusedVariables false
namespace Go.T
open Go Go.RowKit Go.Proofs Go.Shelf Go.Sort

/- ------------------------------------------------ worlds -/
theorem grow_of {w w' : World} (hb : Go.RowKit.Below w.heap.size w w') (hd : w.drawn ≤ w'.drawn) : ∃ q os', w' = grow (w.drewN q) os' := by
  refine ⟨w'.drawn - w.drawn, w'.heap.extract w.heap.size w'.heap.size, ?_⟩
  obtain ⟨h1, h2, h3, h4, h5⟩ := hb
  obtain ⟨heap, tape, drawn, os, output⟩ := w
  obtain ⟨heap', tape', drawn', os', output'⟩ := w'
  simp only at h1 h2 h3 h4 h5 hd
  subst h1 h2 h3
  simp only [grow, World.drewN, World.mk.injEq, and_true, true_and]
  refine ⟨?_, by omega⟩
  apply Array.ext_getElem?
  intro i
  rw [Array.getElem?_append]
  split
  · rename_i h; exact h5 i h
  · rename_i h
    rw [Array.getElem?_extract]
    split
    · rw [show heap.size + (i - heap.size) = i by omega]
    · exact Array.getElem?_eq_none (by omega)
/-- a call by its contract over trees, where two read-only rows go in and a number or a bool comes out -/
theorem meets_calls {P : Program} {f : FuncId} {args : List AV} {z : Value} (hm : Meets P f args (.lit z)) (hz : nf z = true) {w : World} {vals : List Value} (hr : repL w (fun b => b < w.heap.size) args vals []) :
    Calls P f vals.toArray w fun e w' => e = .returned z ∧ ∃ q os', w' = grow (w.drewN q) os' := by
  refine (hm.2 w _ vals hr (fun _ h => h)).mono ?_
  rintro e w' ⟨v, fp, rfl, hb, hd, hr, _⟩
  simp only [rep] at hr
  exact ⟨by rw [hr.2.eq hz], grow_of hb hd⟩
/- ------------------------------------------------ lists in their order -/
/-- -1, 0, 1 -/
def cmpL : List Int → List Int → Int
  | [], [] => 0
  | [], _ :: _ => -1
  | _ :: _, [] => 1
  | x :: a, y :: b => if x < y then -1 else if x > y then 1 else cmpL a b
def ltL (a b : List Int) : Bool := decide (cmpL a b < 0)
theorem cmpL_anti : ∀ a b, cmpL b a = -cmpL a b
  | [], [] => rfl
  | [], _ :: _ => rfl
  | _ :: _, [] => rfl
  | x :: a, y :: b => by
    simp only [cmpL]
    rcases Int.lt_trichotomy x y with h | h | h
    · rw [if_neg (show ¬ y < x by omega), if_pos (show y > x by omega), if_pos h]; rfl
    · subst h
      have h0 : ¬ x < x := by omega
      simp only [gt_iff_lt, h0, if_false]
      exact cmpL_anti a b
    · rw [if_pos h, if_neg (show ¬ x < y by omega), if_pos (show x > y by omega)]
theorem cmpL_zero : ∀ a b, cmpL a b = 0 → a = b
  | [], [], _ => rfl
  | [], _ :: _, h => by simp [cmpL] at h
  | _ :: _, [], h => by simp [cmpL] at h
  | x :: a, y :: b, h => by
    simp only [cmpL] at h
    split at h
    · cases h
    · split at h
      · cases h
      · rw [cmpL_zero a b h, show x = y by omega]
theorem cmpL_self : ∀ a, cmpL a a = 0
  | [] => rfl
  | x :: a => by simp [cmpL, cmpL_self a]
theorem cmpL_trans : ∀ a b c, cmpL a b < 0 → cmpL b c ≤ 0 → cmpL a c < 0
  | [], [], _, h, _ => by simp [cmpL] at h
  | [], _ :: _, [], _, h => by simp [cmpL] at h
  | [], _ :: _, _ :: _, _, _ => by simp [cmpL]
  | _ :: _, [], _, h, _ => by simp [cmpL] at h
  | x :: a, y :: b, [], _, h => by simp [cmpL] at h
  | x :: a, y :: b, z :: c, h1, h2 => by
    simp only [cmpL] at h1 h2 ⊢
    have ih := cmpL_trans a b c
    split at h1
    · split at h2
      · rw [if_pos (by omega)]; omega
      · split at h2
        · omega
        · rw [if_pos (by omega)]; omega
    · split at h1
      · omega
      · split at h2
        · rw [if_pos (by omega)]; omega
        · split at h2
          · omega
          · rw [if_neg (by omega), if_neg (by omega)]; exact ih h1 h2
theorem ltL_irr (a : List Int) : ltL a a = false := by simp [ltL, cmpL_self]
theorem ltL_trans {a b c : List Int} (h1 : ltL a b = true) (h2 : ltL b c = true) : ltL a c = true := by
  simp only [ltL, decide_eq_true_eq] at *
  exact cmpL_trans a b c h1 (by omega)
theorem ltL_n {a b : List Int} (h : ltL a b = false) : b = a ∨ ltL b a = true := by
  simp only [ltL, decide_eq_false_iff_not, decide_eq_true_eq] at *
  have := cmpL_anti a b
  by_cases h0 : cmpL b a = 0
  · exact .inl (cmpL_zero _ _ h0)
  · right; omega
theorem ltL_nn {a b c : List Int} (h1 : ltL a b = false) (h2 : ltL b c = false) : ltL a c = false := by
  rcases ltL_n h1 with rfl | h1'
  · exact h2
  · rcases ltL_n h2 with rfl | h2'
    · exact h1
    · have := ltL_trans h2' h1'
      cases h : ltL a c
      · rfl
      · have := ltL_trans this h
        rw [ltL_irr] at this; cases this
theorem swoL {α : Type} (con : α → List Int) : SWO (ltOf fun x y => cmpL (con x) (con y)) where
  irrefl x := ltL_irr (con x)
  trans x y z h1 h2 := ltL_trans (a := con x) (b := con y) (c := con z) h1 h2
  ntrans x y z h1 h2 := ltL_nn (a := con x) (b := con y) (c := con z) h1 h2
/-- rising, each once: told by its elements -/
theorem rise_eq : ∀ (a b : List (List Int)), a.Pairwise (fun x y => ltL x y = true) → b.Pairwise (fun x y => ltL x y = true) → (∀ x, x ∈ a ↔ x ∈ b) → a = b
  | [], [], _, _, _ => rfl
  | [], y :: b, _, _, h => by have := (h y).2 List.mem_cons_self; cases this
  | x :: a, [], _, _, h => by have := (h x).1 List.mem_cons_self; cases this
  | x :: a, y :: b, ha, hb, h => by
    rw [List.pairwise_cons] at ha hb
    have hxy : x = y := by
      rcases List.mem_cons.1 ((h x).1 List.mem_cons_self) with rfl | h1
      · rfl
      · rcases List.mem_cons.1 ((h y).2 List.mem_cons_self) with rfl | h2
        · rfl
        · have := ltL_trans (ha.1 y h2) (hb.1 x h1)
          rw [ltL_irr] at this; cases this
    subst hxy
    rw [rise_eq a b ha.2 hb.2 fun z => ?_]
    constructor
    · intro hz
      rcases List.mem_cons.1 ((h z).1 (List.mem_cons_of_mem _ hz)) with rfl | h1
      · have := ha.1 z hz; rw [ltL_irr] at this; cases this
      · exact h1
    · intro hz
      rcases List.mem_cons.1 ((h z).2 (List.mem_cons_of_mem _ hz)) with rfl | h1
      · have := hb.1 z hz; rw [ltL_irr] at this; cases this
      · exact h1
/-- put to its place, once -/
def putLL (x : List Int) : List (List Int) → List (List Int)
  | [] => [x]
  | y :: l => if ltL x y then x :: y :: l else if x = y then y :: l else y :: putLL x l
def sdL (l : List (List Int)) : List (List Int) := l.foldr putLL []
theorem mem_putLL {x z : List Int} : ∀ {l : List (List Int)}, z ∈ putLL x l ↔ z = x ∨ z ∈ l
  | [] => by simp [putLL]
  | y :: l => by
    unfold putLL
    split
    · simp
    · split
      · rename_i h; subst h; simp
      · simp only [List.mem_cons, mem_putLL (l := l)]
        constructor
        · rintro (h | h | h) <;> simp [h]
        · rintro (h | h | h) <;> simp [h]
theorem putLL_rise {x : List Int} : ∀ {l : List (List Int)}, l.Pairwise (fun x y => ltL x y = true) → (putLL x l).Pairwise (fun x y => ltL x y = true)
  | [], _ => by simp [putLL]
  | y :: l, h => by
    unfold putLL
    rw [List.pairwise_cons] at h
    split
    · rename_i hx
      rw [List.pairwise_cons, List.pairwise_cons]
      exact ⟨fun z hz => by
        rcases List.mem_cons.1 hz with rfl | hz
        · exact hx
        · exact ltL_trans hx (h.1 z hz), h⟩
    · rename_i hx
      split
      · exact List.pairwise_cons.2 h
      · rename_i hne
        rw [List.pairwise_cons]
        refine ⟨fun z hz => ?_, putLL_rise h.2⟩
        rcases mem_putLL.1 hz with rfl | hz
        · rcases ltL_n (by simpa using hx : ltL z y = false) with e | h2
          · exact absurd e.symm hne
          · exact h2
        · exact h.1 z hz
theorem sdL_rise : ∀ l, (sdL l).Pairwise (fun x y => ltL x y = true)
  | [] => List.Pairwise.nil
  | x :: l => putLL_rise (sdL_rise l)
theorem mem_sdL {z : List Int} : ∀ {l : List (List Int)}, z ∈ sdL l ↔ z ∈ l
  | [] => by simp [sdL]
  | x :: l => by
    show z ∈ putLL x (sdL l) ↔ _
    rw [mem_putLL, mem_sdL (l := l), List.mem_cons]
end Go.T
namespace Go.T
open Go Go.RowKit Go.Proofs Go.Shelf Go.Sort
/- ------------------------------------------------ rows of rows, by places -/
abbrev nilV : Value := .slice none 0 0
def vAtL (vals : List Value) (i : Nat) : Value := vals.getD i nilV
def cAtL (ls : List (List Int)) (i : Nat) : List Int := ls.getD i []
def intR' (x : List Int) : List (List AV) := x.map fun n => [AV.lit (.int .i64 n)]
theorem frz_intR (x : List Int) : frzLL (intR' x) = intR' x := by
  rw [frzLL_map]
  unfold intR'
  rw [List.map_map]
  exact List.map_congr_left fun n _ => rfl
theorem repLL_own {w : World} {S : Nat → Prop} {T : Nat} : ∀ (ls : List (List Int)) (vals : List Value) (fp : List Nat), repLL w S 1 (ls.map fun x => [AV.own T 1 (intR' x)]) vals fp →
    vals.length = ls.length ∧ ∃ fs : List (List Nat), fs.length = ls.length ∧ fp = fs.flatten ∧ ∀ i, i < ls.length → rep w S (.own T 1 (intR' (cAtL ls i))) (vAtL vals i) (fs.getD i []) ∧ (vAtL vals i).oneCell' = true
  | [], vals, fp, h => by
    simp only [List.map_nil, repLL] at h
    obtain ⟨rfl, rfl⟩ := h
    exact ⟨rfl, [], rfl, rfl, fun i hi => absurd hi (Nat.not_lt_zero _)⟩
  | x :: ls, vals, fp, h => by
    simp only [List.map_cons, repLL, repL] at h
    obtain ⟨us, us', f1, f2, rfl, rfl, hl, h1, ⟨u, us2, g1, g2, rfl, rfl, hu, rfl, rfl⟩, h2⟩ := h
    obtain ⟨e1, fs, e2, rfl, e3⟩ := repLL_own ls us' f2 h2
    refine ⟨by simp [e1], g1 :: fs, by simp [e2], by simp, fun i hi => ?_⟩
    cases i with
    | zero => exact ⟨hu, h1 u (by simp)⟩
    | succ i => exact e3 i (by simpa using hi)
theorem repLL_mk {w : World} {S : Nat → Prop} {T : Nat} {con : Nat → List Int} {enc : Nat → Value} {f : Nat → List Nat} (h1 : ∀ i, (enc i).oneCell' = true) : ∀ (K : List Nat), (∀ i ∈ K, rep w S (.own T 1 (intR' (con i))) (enc i) (f i)) →
    repLL w S 1 ((K.map con).map fun x => [AV.own T 1 (intR' x)]) (K.map enc) ((K.map f).flatten)
  | [], _ => by simp [repLL]
  | k :: K, h => by
    simp only [List.map_cons, repLL, repL, List.flatten_cons]
    exact ⟨[enc k], _, f k, _, rfl, rfl, rfl, by simpa using h1 k, ⟨enc k, [], f k, [], rfl, by simp, h k List.mem_cons_self, rfl, rfl⟩, repLL_mk h1 K fun i hi => h i (List.mem_cons_of_mem _ hi)⟩
theorem nodup_pick {fs : List (List Nat)} (hn : fs.flatten.Nodup) : ∀ {K : List Nat}, K.Nodup → (K.map fun i => fs.getD i []).flatten.Nodup := by
  have hd : ∀ i j b, b ∈ fs.getD i [] → b ∈ fs.getD j [] → i = j := by
    intro i j b hi hj
    rw [List.Nodup, List.pairwise_flatten] at hn
    rw [List.getD_eq_getElem?_getD] at hi hj
    by_cases h1 : i < fs.length
    · by_cases h2 : j < fs.length
      · rw [List.getElem?_eq_getElem h1] at hi
        rw [List.getElem?_eq_getElem h2] at hj
        rcases Nat.lt_trichotomy i j with h | h | h
        · have := (List.pairwise_iff_getElem.1 hn.2) i j h1 h2 h
          exact absurd rfl (this b hi b hj)
        · exact h
        · have := (List.pairwise_iff_getElem.1 hn.2) j i h2 h1 h
          exact absurd rfl (this b hj b hi)
      · rw [List.getElem?_eq_none (by omega)] at hj; cases hj
    · rw [List.getElem?_eq_none (by omega)] at hi; cases hi
  have h1 : ∀ i, (fs.getD i []).Nodup := by
    intro i
    rw [List.getD_eq_getElem?_getD]
    by_cases h1 : i < fs.length
    · rw [List.getElem?_eq_getElem h1]
      exact (List.pairwise_flatten.1 hn).1 _ (List.getElem_mem h1)
    · rw [List.getElem?_eq_none (by omega)]; exact List.nodup_nil
  intro K
  induction K with
  | nil => intro _; simp
  | cons k K ih =>
    intro hK
    rw [List.nodup_cons] at hK
    simp only [List.map_cons, List.flatten_cons]
    rw [List.nodup_append]
    refine ⟨h1 k, ih hK.2, fun a ha b hb e => ?_⟩
    subst e
    rw [List.mem_flatten] at hb
    obtain ⟨l, hl, hb⟩ := hb
    obtain ⟨i, hi, rfl⟩ := List.mem_map.1 hl
    exact hK.1 (hd k i a ha hb ▸ hi)
theorem mem_getD_flatten {fs : List (List Nat)} {i b : Nat} (h : b ∈ fs.getD i []) : b ∈ fs.flatten := by
  rw [List.getD_eq_getElem?_getD] at h
  by_cases h1 : i < fs.length
  · rw [List.getElem?_eq_getElem h1] at h
    exact List.mem_flatten.2 ⟨_, List.getElem_mem h1, h⟩
  · rw [List.getElem?_eq_none (by omega)] at h; cases h
theorem holds_block {w : World} {g : Nat} {cur : Array Value} {e : TypeId} {vals : List Value} {n : Nat} (hn : vals.length = n) (hb : w.heap[g]? = some (.cells cur e (0, 0))) (ht : cur.toList.take n = vals) : Holds (vAtL vals) w g 0 (Array.range n) := by
  intro j hj
  have hj' : j < n := by simpa using hj
  refine ⟨?_, by simp [World.frozen?, hb]⟩
  have h1 : (cur.toList.take n)[j]? = vals[j]? := by rw [ht]
  rw [List.getElem?_take_of_lt hj'] at h1
  simp only [World.cell?, hb, Nat.zero_add]
  simp only [Option.isSome_none, Bool.false_eq_true, if_false]
  rw [← Array.getElem?_toList, h1]
  have : (Array.range n)[j]! = j := by rw [getElem!_pos _ _ (by simpa using hj')]; simp
  rw [this, vAtL, List.getD_eq_getElem?_getD, List.getElem?_eq_getElem (by omega)]; rfl
theorem nd_len : ∀ (n : Nat) (K : List Nat), K.Nodup → (∀ i ∈ K, i < n) → K.length ≤ n
  | 0, [], _, _ => by simp
  | 0, k :: K, _, h => absurd (h k List.mem_cons_self) (Nat.not_lt_zero _)
  | n + 1, K, hn, h => by
    have h1 := nd_len n (K.erase n) (hn.erase n) (fun i hi => by
      have h2 := h i (List.mem_of_mem_erase hi)
      have h3 : i ≠ n := fun e => by subst e; exact (List.Nodup.not_mem_erase hn) hi
      omega)
    have := List.length_erase (a := n) (l := K)
    split at this <;> omega
theorem heap_sorted {enc : Nat → Value} {w : World} {g n : Nat} {os : Array Obj} {cur : Array Value} {e : TypeId} {fr : Nat × Nat} {d : Array Nat} (hb : w.heap[g]? = some (.cells cur e fr)) (hg : g < w.heap.size) :
    (sortWorld enc w g 0 n d os).heap[g]? = some (.cells (putCells enc 0 d cur) e fr) := by
  unfold sortWorld
  rw [heap_grow_old _ _ (by simpa using hg)]
  simp [putRow, mapBlock, Sort.ahead, Array.getElem?_modify, hb, onCells]
theorem take_putCells_K {enc : Nat → Value} {cur : Array Value} {K r : List Nat} (h : K.length ≤ cur.size) : (putCells enc 0 (K ++ r).toArray cur).toList.take K.length = K.map enc := by
  apply List.ext_getElem?
  intro j
  by_cases hj : j < K.length
  · rw [List.getElem?_take_of_lt hj, Array.getElem?_toList]
    simp [putCells, hj, show j < cur.size by omega, show j < K.length + r.length by omega, List.getElem_append]
  · rw [List.getElem?_take_eq_none (by omega), List.getElem?_eq_none (by simp; omega)]
/-- what a call that sorts rows and strikes repetitions does, told by the places of the rows -/
def SortsRows (P : Program) (f : FuncId) : Prop :=
  (∀ (A : Option Addr) (cap : Nat) (w : World), Calls P f #[.slice A 0 cap] w fun e w' => e = .returned (.slice A 0 cap) ∧ w' = w) ∧
  ∀ (enc : Nat → Value) (con : Nat → List Int) (g cap n : Nat) (w : World), (∀ i, (enc i).oneCell' = true) → Holds enc w g 0 (Array.range n) → g < w.heap.size → 0 < n → n < 4611686018427387904 → n ≤ cap → enc n = nilV →
    (∀ i, (con i).length < 1099511627776) → (∀ (dk : Array Nat) (W : World), SW enc w g 0 dk W → dk.size = n → ∀ i, rep W (fun b => b < W.heap.size) (.ro 1 (intR' (con i))) (enc i) []) →
    Calls P f #[.slice (some ⟨g, 0, none⟩) n cap] w fun e w' => ∃ K : List Nat, e = .returned (.slice (some ⟨g, 0, none⟩) K.length cap) ∧ K.map con = sdL ((List.range n).map con) ∧ K.Nodup ∧ (∀ i ∈ K, i < n) ∧ SW enc w g 0 (K ++ List.replicate (n - K.length) n).toArray w'
noncomputable def lstL (p : List (List Int)) : Option (List (List Int)) := if p.length < 4611686018427387904 ∧ ∀ x ∈ p, x.length < 1099511627776 then some (sdL p) else none
theorem cAt_range (ls : List (List Int)) : (List.range ls.length).map (cAtL ls) = ls := by
  apply List.ext_getElem?
  intro i
  by_cases h : i < ls.length
  · simp [cAtL, h]
  · simp [h]
theorem meetsR_lists {P : Program} {f : FuncId} {T : Nat} {T2 : Nat} (hE : Enters P f) (hc : SortsRows P f) (ls : List (List Int)) (hz : ls.length < 4611686018427387904) (hzz : ∀ x ∈ ls, x.length < 1099511627776) :
    MeetsR P f [⟨T, 1, ls.map fun x => [AV.own T2 1 (intR' x)]⟩] [.sl 0 0 (List.length (ls.map fun x => [AV.own T2 1 (intR' x)]))] [false] [⟨T, 1, ls.map fun x => [AV.own T2 1 (intR' x)]⟩] (.own T 1 ((sdL ls).map fun x => [AV.own T2 1 (intR' x)])) := by
  refine ⟨hE, ?_⟩
  intro w S hd fp vals hr hnone hdis hS hSb hargs
  obtain ⟨_, ⟨vs, fp', hown, hrep, hfp⟩, hnd⟩ := hr 0 _ rfl
  simp only at hown hrep
  obtain ⟨hvl, fs, hfl, rfl, hel⟩ := repLL_own ls vs fp' hrep
  simp only [repRL] at hargs
  obtain ⟨u, us', f1, f2, rfl, hf, hu, rfl, rfl⟩ := hargs
  obtain ⟨rfl, _⟩ := List.append_eq_nil_iff.1 hf.symm
  simp only [repR] at hu
  obtain ⟨_, _, hu⟩ := hu
  obtain ⟨_, ⟨A, cap, rfl, hcap, hA0, hA⟩, _⟩ := hu (hd 0) (ls.map fun x => [AV.own T2 1 (intR' x)]).length 1 rfl
  have e3 : (List.length (ls.map fun x => [AV.own T2 1 (intR' x)]) : Nat) = ls.length := List.length_map _
  rw [e3] at hown hcap hA
  have hfp0 : ∀ i b, b ∈ fp i → i = 0 := by
    intro i b hb
    cases i with
    | zero => rfl
    | succ i => rw [hnone (i + 1) (by simp)] at hb; cases hb
  by_cases hn : ls.length = 0
  · have hls : ls = [] := List.eq_nil_of_length_eq_zero hn
    subst hls
    refine Calls.mono (hc.1 A cap w) ?_
    rintro e w' ⟨rfl, rfl⟩
    have hA0' : A = none ∧ cap = 0 ∨ ∃ b, A = some ⟨b, 0, none⟩ ∧ ∃ cur, w'.heap[b]? = some (.cells cur T (0, 0)) ∧ cur.size = cap * 1 ∧ cap ≤ maxLen := by
      obtain ⟨m, hm⟩ := hA0 rfl
      rcases hown.2 with ⟨h0, _⟩ | ⟨g, cap2, cur, h0, hb0, hg, r1, r2, r3, r4⟩
      · rw [h0] at hm; cases hm; exact .inl ⟨rfl, rfl⟩
      · rw [h0] at hm; cases hm
        exact .inr ⟨g, rfl, cur, hg, r3, r2⟩
    have hob : (hd 0).ownBlock = (Value.slice A 0 cap).ownBlock := by
      obtain ⟨m, hm⟩ := hA0 rfl
      rw [hm]; cases A <;> rfl
    refine ⟨_, fun _ => [], (Value.slice A 0 cap).ownBlock.toList, rfl, rfl, Tp.refl _, rfl, Nat.le_refl _, fun k _ _ => rfl, ?_, fun _ _ => rfl, by simp, ?_, ?_, ?_, by simp, by simp⟩
    · intro i R' hR' hk
      cases i with
      | zero => cases hk
      | succ i => simp at hR'
    · simp only [repR, rep]
      refine ⟨[], [], ⟨rfl, ?_⟩, by simp [sdL, repLL], by simp⟩
      rcases hA0' with ⟨rfl, rfl⟩ | ⟨b, rfl, cur, h1, h2, h3⟩
      · exact .inl ⟨rfl, rfl⟩
      · exact .inr ⟨b, cap, cur, rfl, Nat.zero_le _, h1, Nat.zero_le _, h3, h2, by simp [sdL]⟩
    · cases A <;> simp [Value.ownBlock]
    · intro b hb
      rw [← hob] at hb
      have hm : b ∈ fp 0 := by rw [hfp]; exact List.mem_append_left _ hb
      exact ⟨.inl ⟨0, hm⟩, ownsRow_lt hown b hb⟩
  · rcases hown.2 with ⟨_, h0⟩ | ⟨g, cap2, cur, h0, hbase, hg, r1, r2, r3, r4⟩
    · exact absurd h0 hn
    · obtain ⟨b, m, c, hh, rfl⟩ := hA (by omega)
      rw [h0] at hh
      cases hh
      obtain ⟨m2, hm2⟩ := hA0 rfl
      rw [h0] at hm2
      cases hm2
      simp only [Nat.zero_mul, Nat.mul_one] at *
      have hH := holds_block hvl hg r4
      have hgl : g < w.heap.size := (Array.getElem?_eq_some_iff.1 hg).1
      have hgf : g ∉ fs.flatten := by
        rw [hfp, h0] at hnd
        simp only [Value.ownBlock, Option.toList, List.cons_append, List.nil_append, List.nodup_cons] at hnd
        exact hnd.1
      have hfn : fs.flatten.Nodup := by
        rw [hfp, h0] at hnd
        simp only [Value.ownBlock, Option.toList, List.cons_append, List.nil_append, List.nodup_cons] at hnd
        exact hnd.2
      have hflt : ∀ b ∈ fs.flatten, b < w.heap.size := repLL_lt 1 _ _ _ hrep
      have hone : ∀ i, (vAtL vs i).oneCell' = true := fun i => by
        by_cases hi : i < ls.length
        · exact (hel i hi).2
        · rw [vAtL, List.getD_eq_getElem?_getD, List.getElem?_eq_none (by omega)]; rfl
      have hblk : ∀ (dk : Array Nat) (W : World), SW (vAtL vs) w g 0 dk W → ∀ b, b ≠ g → b < w.heap.size → W.heap[b]? = w.heap[b]? := by
        rintro dk W ⟨q, os, rfl⟩ b hb hl
        unfold sortWorld
        rw [heap_grow_old _ _ (by rw [Go.Sort.size_putRow]; exact hl)]
        show (w.heap.modify g _)[b]? = _
        rw [Array.getElem?_modify, if_neg (fun e => hb e.symm)]
      have hown2 : ∀ (dk : Array Nat) (W : World), SW (vAtL vs) w g 0 dk W → ∀ i, i < ls.length → rep W NS (.own T2 1 (intR' (cAtL ls i))) (vAtL vs i) (fs.getD i []) := fun dk W hW i hi =>
        rep_frame _ _ _ (hel i hi).1 (fun _ h => h) (fun _ h => h.elim) (fun b hb => hblk dk W hW b (fun e => hgf (e ▸ mem_getD_flatten hb)) (hflt b (mem_getD_flatten hb)))
      have hro : ∀ (dk : Array Nat) (W : World), SW (vAtL vs) w g 0 dk W → dk.size = ls.length → ∀ i, rep W (fun b => b < W.heap.size) (.ro 1 (intR' (cAtL ls i))) (vAtL vs i) [] := by
        intro dk W hW _ i
        by_cases hi : i < ls.length
        · have := rep_frz (S2 := fun b => b < W.heap.size) _ _ _ (hown2 dk W hW i hi) (fun _ h => h.elim) (fun b hb => rep_lt _ _ _ (hown2 dk W hW i hi) b hb)
          simpa only [frz, frz_intR] using this
        · rw [vAtL, cAtL, List.getD_eq_getElem?_getD, List.getElem?_eq_none (by omega), List.getD_eq_getElem?_getD, List.getElem?_eq_none (by omega)]
          simp only [Option.getD_none, intR', List.map_nil, rep]
          exact ⟨trivial, none, 0, rfl, Nat.le_refl _, .inl trivial⟩
      have hlen : ∀ i, (cAtL ls i).length < 1099511627776 := fun i => by
        by_cases hi : i < ls.length
        · rw [cAtL, List.getD_eq_getElem?_getD, List.getElem?_eq_getElem hi]; exact hzz _ (List.getElem_mem hi)
        · rw [cAtL, List.getD_eq_getElem?_getD, List.getElem?_eq_none (by omega)]; simp
      have hnil : vAtL vs ls.length = nilV := by rw [vAtL, List.getD_eq_getElem?_getD, List.getElem?_eq_none (by omega)]; rfl
      have := hc.2 (vAtL vs) (cAtL ls) g cap ls.length w hone hH hgl (by omega) hz r1 hnil hlen hro
      rw [e3]
      refine Calls.mono this ?_
      rintro e w' ⟨K, rfl, hK1, hK2, hK3, hSW⟩
      rw [cAt_range] at hK1
      have hKl : K.length ≤ ls.length := nd_len _ _ hK2 hK3
      have hf0 : fp 0 = g :: fs.flatten := by rw [hfp, h0]; rfl
      obtain ⟨q, os, rfl⟩ := id hSW
      have hsz' : w.heap.size ≤ (sortWorld (vAtL vs) w g 0 q (K ++ List.replicate (ls.length - K.length) ls.length).toArray os).heap.size := hSW.le
      have hKf : ∀ b ∈ (K.map fun i => fs.getD i []).flatten, b ∈ fs.flatten := fun b hb => by
        obtain ⟨l, hl, hb⟩ := List.mem_flatten.1 hb
        obtain ⟨i, _, rfl⟩ := List.mem_map.1 hl
        exact mem_getD_flatten hb
      refine ⟨_, fun _ => [], g :: (K.map fun i => fs.getD i []).flatten, rfl, rfl, ⟨rfl, Nat.le_add_right _ _⟩, rfl, hsz', fun k hk hn2 => hblk _ _ hSW k (fun e => hn2 0 (by rw [hf0, e]; exact List.mem_cons_self)) hk, ?_, fun _ _ => rfl, by simp, ?_, ?_, ?_, by simp, by simp⟩
      · intro i R' hR' hk
        cases i with
        | zero => cases hk
        | succ i => simp at hR'
      · simp only [repR, rep]
        refine ⟨K.map (vAtL vs), (K.map fun i => fs.getD i []).flatten, ?_, ?_, rfl⟩
        · have e5 : ((sdL ls).map fun x => [AV.own T2 1 (intR' x)]).length = K.length := by rw [List.length_map, ← hK1, List.length_map]
          rw [e5]
          refine ⟨by simp, .inr ⟨g, cap, _, rfl, Nat.zero_le _, heap_sorted hg hgl, by omega, r2, by simp [putCells, r3], ?_⟩⟩
          rw [Nat.mul_one]
          exact take_putCells_K (by omega)
        · rw [← hK1]
          exact repLL_mk hone K fun i hi => hown2 _ _ hSW i (hK3 i hi)
      · rw [List.nodup_cons]
        exact ⟨fun h => hgf (hKf g h), nodup_pick hfn hK2⟩
      · intro b hb
        have : b ∈ fp 0 := by
          rw [hf0]
          rcases List.mem_cons.1 hb with rfl | hb
          · exact List.mem_cons_self
          · exact List.mem_cons_of_mem _ (hKf b hb)
        refine ⟨.inl ⟨0, this⟩, Nat.lt_of_lt_of_le ?_ hsz'⟩
        rw [hf0] at this
        rcases List.mem_cons.1 this with rfl | h
        · exact hgl
        · exact hflt b h
/-- a place is kept: no equal one right ahead of it -/
def kpE (eqf : Nat → Nat → Bool) (d : Array Nat) (j : Nat) : Bool := j == 0 || !(eqf d[j]! d[j - 1]!)
theorem SW.set {enc : Nat → Value} {w0 W : World} {g off : Nat} {dk : Array Nat} (h : SW enc w0 g off dk W) (hg : g < w0.heap.size) (i u : Nat) (hi : i < dk.size) : SW enc w0 g off (dk.setIfInBounds i u) (W.setCell ⟨g, off + i, none⟩ (enc u)) := by
  obtain ⟨n, os, rfl⟩ := h
  refine ⟨n, os, ?_⟩
  unfold sortWorld
  rw [← putRow_grow enc (Sort.ahead w0 n) os g off dk hg, putRow_set enc _ g off dk i u hi, putRow_grow enc (Sort.ahead w0 n) os g off _ hg]
theorem SW.sets {enc : Nat → Value} {w0 W : World} {g off : Nat} {dk : Array Nat} (h : SW enc w0 g off dk W) (hg : g < w0.heap.size) (k : Nat) (xs : List Nat) (hi : k + xs.length ≤ dk.size) : SW enc w0 g off (Lib.lay dk k xs) (W.setCells g (off + k) (xs.map enc)) := by
  obtain ⟨n, os, rfl⟩ := h
  refine ⟨n, os, ?_⟩
  unfold sortWorld
  rw [setCells_grow os g _ _ _ (by simpa using hg), Lib.putRow_setCells enc _ g off xs dk k hi]
theorem sortNone {P : Program} {ρ : Ren} (L : SlLaysF.n6 P ρ) (p : Option Addr) (cap : Nat) (fv : Value) (w : World) : Calls P (ρ.f 6) #[.slice p 0 cap, fv] w fun e w' => e = .returned (.tuple #[]) ∧ w' = w := AnyF.slices_SortFunc_none (P := P) (ρ := ρ) { L with } p cap fv w
theorem kept_map {kp : Nat → Bool} {d : Array Nat} {m : Nat} : Lib.keptUpTo kp d m = ((List.range m).filter kp).map (d[·]!) := rfl
/-- sorted rows, repetitions struck -/
theorem compact_sd {con : Nat → List Int} {n : Nat} {d : Array Nat} (hp : PermIn 0 n (Array.range n) d) (hs : SortedIn (ltOf fun i j => cmpL (con i) (con j)) 0 n d) :
    d.size = n ∧ (Lib.keptUpTo (kpE (fun i j => con i == con j) d) d d.size).map con = sdL ((List.range n).map con) ∧ (Lib.keptUpTo (kpE (fun i j => con i == con j) d) d d.size).Nodup ∧ ∀ i ∈ Lib.keptUpTo (kpE (fun i j => con i == con j) d) d d.size, i < n := by
  obtain ⟨h1, _, h3⟩ := hp
  have hsz : d.size = n := by rw [h1, Array.size_range]
  have h4 : d.toList.Perm (List.range n) := by
    have e1 : (d.extract 0 n).toList = d.toList := by rw [← hsz]; simp
    have e2 : ((Array.range n).extract 0 n).toList = List.range n := by
      have : (Array.range n).extract 0 n = Array.range n := by
        have h := Array.extract_size (xs := Array.range n)
        rwa [Array.size_range] at h
      rw [this, Array.toList_range]
    rwa [e1, e2] at h3
  have hdl : d.toList = (List.range d.size).map (d[·]!) := (Lib.range_map_get d).symm
  have hat : ∀ j, j < n → d[j]! ∈ d.toList := fun j hj => by rw [hdl]; exact List.mem_map.2 ⟨j, List.mem_range.2 (by omega), rfl⟩
  have hle : ∀ i j, i < j → j < n → ltL (con d[j]!) (con d[i]!) = false := fun i j hij hj => hs i j (Nat.zero_le _) hij hj
  have hmem : ∀ i, i ∈ Lib.keptUpTo (kpE (fun i j => con i == con j) d) d d.size → i ∈ d.toList := by
    intro i hi
    rw [kept_map] at hi
    obtain ⟨j, hj, rfl⟩ := List.mem_map.1 hi
    exact hat j (by have := List.mem_range.1 (List.mem_filter.1 hj).1; omega)
  refine ⟨hsz, ?_, ?_, ?_⟩
  · refine rise_eq _ _ ?_ (sdL_rise _) fun z => ?_
    · rw [kept_map, List.map_map, List.pairwise_map]
      refine List.Pairwise.imp_of_mem (R := fun a b => a < b) ?_ (List.pairwise_lt_range.filter _)
      intro a b ha hb hab
      obtain ⟨hb1, hb2⟩ := List.mem_filter.1 hb
      have hbn := List.mem_range.1 hb1
      simp only [kpE, Bool.or_eq_true, beq_iff_eq, Bool.not_eq_true', beq_eq_false_iff_ne] at hb2
      have hne : con d[b]! ≠ con d[b - 1]! := by
        rcases hb2 with h | h
        · omega
        · exact h
      have h1 : ltL (con d[b - 1]!) (con d[b]!) = true := by
        rcases ltL_n (hle (b - 1) b (by omega) (by omega)) with h | h
        · exact absurd h.symm hne
        · exact h
      by_cases e : a = b - 1
      · subst e; exact h1
      · rcases ltL_n (hle a (b - 1) (by omega) (by omega)) with h | h
        · show ltL (con d[a]!) (con d[b]!) = true
          rw [h]; exact h1
        · exact ltL_trans h h1
    · rw [mem_sdL]
      constructor
      · intro hz
        obtain ⟨i, hi, rfl⟩ := List.mem_map.1 hz
        exact List.mem_map.2 ⟨i, (h4.mem_iff).1 (hmem i hi), rfl⟩
      · intro hz
        obtain ⟨i, hi, rfl⟩ := List.mem_map.1 hz
        have hi2 := (h4.mem_iff).2 hi
        rw [hdl] at hi2
        obtain ⟨j, hj, rfl⟩ := List.mem_map.1 hi2
        have key : ∀ j, j < d.size → ∃ k, k < d.size ∧ kpE (fun i j => con i == con j) d k = true ∧ con d[k]! = con d[j]! := by
          intro j
          induction j with
          | zero => intro h; exact ⟨0, h, rfl, rfl⟩
          | succ j ih =>
            intro h
            by_cases e : con d[j + 1]! = con d[j]!
            · obtain ⟨k, k1, k2, k3⟩ := ih (by omega)
              exact ⟨k, k1, k2, by rw [k3, e]⟩
            · refine ⟨j + 1, h, ?_, rfl⟩
              simp [kpE, e]
        obtain ⟨k, k1, k2, k3⟩ := key j (List.mem_range.1 hj)
        rw [kept_map, List.map_map]
        exact List.mem_map.2 ⟨k, List.mem_filter.2 ⟨List.mem_range.2 k1, k2⟩, k3⟩
  · have hsub : (Lib.keptUpTo (kpE (fun i j => con i == con j) d) d d.size).Sublist d.toList := by
      rw [hdl, kept_map]
      exact List.filter_sublist.map _
    exact (h4.nodup_iff.2 List.nodup_range).sublist hsub
  · intro i hi
    exact List.mem_range.1 (h4.mem_iff.1 (hmem i hi))
end Go.T
