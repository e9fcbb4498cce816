/- Lemmas for FnExactOrderOf; no condition. -/

import Derived.Test.YtjcaompblpglcaaBN
import Derived.Shelf.SlSortCmp.NoneTotal
import Derived.Lib.SlKept
import Derived.Shelf.SlSortFuncK.RowK2
set_option linter.unusedVariables false
namespace Go.T
open Go Go.RowKit Go.Proofs Go.Shelf Go.Sort
theorem Xch {w w' : World} (hb : Go.RowKit.Below w.heap.size w w') (hd : w.drawn ≤ w'.drawn) : ∃ q os', w' = grow (w.drewN q) os' := by
 refine ⟨w'.drawn - w.drawn, w'.heap.extract w.heap.size w'.heap.size, ?_⟩
 obtain ⟨h1, h2, h3, h4, h5⟩ := hb
 obtain ⟨heap, tape, drawn, os, output⟩ := w
 obtain ⟨heap', tape', drawn', os', output'⟩ := w'
 simp only at h1 h2 h3 h4 h5 hd
 subst h1 h2 h3
 simp only [grow, World.drewN, World.mk.injEq, and_true, true_and]
 refine ⟨?_, by omega⟩
 apply Array.ext_getElem?
 intro i
 rw [Array.getElem?_append]
 split
 ·rename_i h; exact h5 i h
 ·rename_i h
  rw [Array.getElem?_extract]
  split
  ·rw [show heap.size + (i - heap.size) = i by omega]
  ·exact Array.getElem?_eq_none (by omega)
theorem Qoc {P : Program} {f : FuncId} {args : List AV} {z : Value} (hm : Qaa P f args (.lit z)) (hz : nf z = true) {w : World} {vals : List Value} (hr : Qcy w (fun b => b < w.heap.size) args vals []) :
  Calls P f vals.toArray w fun e w' => e = .returned z ∧ ∃ q os', w' = grow (w.drewN q) os' := by
 refine (hm.2 w _ vals hr (fun _ h => h)).mono ?_
 rintro e w' ⟨v, fp, rfl, hb, hd, hr, _⟩
 simp only [rep] at hr
 exact ⟨by rw [hr.2.eq hz], Xch hb hd⟩
def Qim : List Int → List Int → Int
 | [], [] => 0
 | [], _ :: _ => -1
 | _ :: _, [] => 1
 | x :: a, y :: b => if x < y then -1 else if x > y then 1 else Qim a b
def ltL (a b : List Int) : Bool := decide (Qim a b < 0)
theorem Qru : ∀ a b, Qim b a = -Qim a b
 | [], [] => rfl
 | [], _ :: _ => rfl
 | _ :: _, [] => rfl
 | x :: a, y :: b => by
  simp only [Qim]
  rcases Int.lt_trichotomy x y with h | h | h
  ·rw [if_neg (show ¬ y < x by omega), if_pos (show y > x by omega), if_pos h]; rfl
  ·subst h
   have h0 : ¬ x < x := by omega
   simp only [gt_iff_lt, h0, if_false]
   exact Qru a b
  ·rw [if_pos h, if_neg (show ¬ x < y by omega), if_pos (show x > y by omega)]
theorem Qsq : ∀ a b, Qim a b = 0 → a = b
 | [], [], _ => rfl
 | [], _ :: _, h => by simp [Qim] at h
 | _ :: _, [], h => by simp [Qim] at h
 | x :: a, y :: b, h => by
  simp only [Qim] at h
  split at h
  ·cases h
  ·split at h
   ·cases h
   ·rw [Qsq a b h, show x = y by omega]
theorem Qsf : ∀ a, Qim a a = 0
 | [] => rfl
 | x :: a => by simp [Qim, Qsf a]
theorem Qq2 : ∀ a b c, Qim a b < 0 → Qim b c ≤ 0 → Qim a c < 0
 | [], [], _, h, _ => by simp [Qim] at h
 | [], _ :: _, [], _, h => by simp [Qim] at h
 | [], _ :: _, _ :: _, _, _ => by simp [Qim]
 | _ :: _, [], _, h, _ => by simp [Qim] at h
 | x :: a, y :: b, [], _, h => by simp [Qim] at h
 | x :: a, y :: b, z :: c, h1, h2 => by
  simp only [Qim] at h1 h2 ⊢
  have ih := Qq2 a b c
  split at h1
  ·split at h2
   ·rw [if_pos (by omega)]; omega
   ·split at h2
    ·omega
    ·rw [if_pos (by omega)]; omega
  ·split at h1
   ·omega
   ·split at h2
    ·rw [if_pos (by omega)]; omega
    ·split at h2
     ·omega
     ·rw [if_neg (by omega), if_neg (by omega)]; exact ih h1 h2
theorem Qnp (a : List Int) : ltL a a = false := by simp [ltL, Qsf]
theorem Qgy {a b c : List Int} (h1 : ltL a b = true) (h2 : ltL b c = true) : ltL a c = true := by
 simp only [ltL, decide_eq_true_eq] at *
 exact Qq2 a b c h1 (by omega)
theorem Qxs {a b : List Int} (h : ltL a b = false) : b = a ∨ ltL b a = true := by
 simp only [ltL, decide_eq_false_iff_not, decide_eq_true_eq] at *
 have := Qru a b
 by_cases h0 : Qim b a = 0
 ·exact .inl (Qsq _ _ h0)
 ·right; omega
theorem Xcu {a b c : List Int} (h1 : ltL a b = false) (h2 : ltL b c = false) : ltL a c = false := by
 rcases Qxs h1 with rfl | h1'
 ·exact h2
 ·rcases Qxs h2 with rfl | h2'
  ·exact h1
  ·have := Qgy h2' h1'
   cases h : ltL a c
   ·rfl
   ·have := Qgy this h
    rw [Qnp] at this; cases this
theorem swoL {α : Type} (con : α → List Int) : SWO (ltOf fun x y => Qim (con x) (con y)) where
 irrefl x := Qnp (con x)
 trans x y z h1 h2 := Qgy (a := con x) (b := con y) (c := con z) h1 h2
 ntrans x y z h1 h2 := Xcu (a := con x) (b := con y) (c := con z) h1 h2
theorem Qu2 : ∀ (a b : List (List Int)), a.Pairwise (fun x y => ltL x y = true) → b.Pairwise (fun x y => ltL x y = true) → (∀ x, x ∈ a ↔ x ∈ b) → a = b
 | [], [], _, _, _ => rfl
 | [], y :: b, _, _, h => by have := (h y).2 List.mem_cons_self; cases this
 | x :: a, [], _, _, h => by have := (h x).1 List.mem_cons_self; cases this
 | x :: a, y :: b, ha, hb, h => by
  rw [List.pairwise_cons] at ha hb
  have hxy : x = y := by
   rcases List.mem_cons.1 ((h x).1 List.mem_cons_self) with rfl | h1
   ·rfl
   ·rcases List.mem_cons.1 ((h y).2 List.mem_cons_self) with rfl | h2
    ·rfl
    ·have := Qgy (ha.1 y h2) (hb.1 x h1)
     rw [Qnp] at this; cases this
  subst hxy
  rw [Qu2 a b ha.2 hb.2 fun z => ?_]
  constructor
  ·intro hz
   rcases List.mem_cons.1 ((h z).1 (List.mem_cons_of_mem _ hz)) with rfl | h1
   ·have := ha.1 z hz; rw [Qnp] at this; cases this
   ·exact h1
  ·intro hz
   rcases List.mem_cons.1 ((h z).2 (List.mem_cons_of_mem _ hz)) with rfl | h1
   ·have := hb.1 z hz; rw [Qnp] at this; cases this
   ·exact h1
def Qlr (x : List Int) : List (List Int) → List (List Int)
 | [] => [x]
 | y :: l => if ltL x y then x :: y :: l else if x = y then y :: l else y :: Qlr x l
def sdL (l : List (List Int)) : List (List Int) := l.foldr Qlr []
theorem Qo4 {x z : List Int} : ∀ {l : List (List Int)}, z ∈ Qlr x l ↔ z = x ∨ z ∈ l
 | [] => by simp [Qlr]
 | y :: l => by
  unfold Qlr
  split
  ·simp
  ·split
   ·rename_i h; subst h; simp
   ·simp only [List.mem_cons, Qo4 (l := l)]
    constructor
    ·rintro (h | h | h) <;> simp [h]
    ·rintro (h | h | h) <;> simp [h]
theorem Qpo {x : List Int} : ∀ {l : List (List Int)}, l.Pairwise (fun x y => ltL x y = true) → (Qlr x l).Pairwise (fun x y => ltL x y = true)
  | [], _ => by simp [Qlr]
  | y :: l, h => by
    unfold Qlr
    rw [List.pairwise_cons] at h
    split
    · rename_i hx
      rw [List.pairwise_cons, List.pairwise_cons]
      exact ⟨fun z hz => by
        rcases List.mem_cons.1 hz with rfl | hz
        · exact hx
        · exact Qgy hx (h.1 z hz), h⟩
    · rename_i hx
      split
      · exact List.pairwise_cons.2 h
      · rename_i hne
        rw [List.pairwise_cons]
        refine ⟨fun z hz => ?_, Qpo h.2⟩
        rcases Qo4.1 hz with rfl | hz
        · rcases Qxs (by simpa using hx : ltL z y = false) with e | h2
          · exact absurd e.symm hne
          · exact h2
        · exact h.1 z hz
theorem Qqz : ∀ l, (sdL l).Pairwise (fun x y => ltL x y = true)
 | [] => List.Pairwise.nil
 | x :: l => Qpo (Qqz l)
theorem Qqh {z : List Int} : ∀ {l : List (List Int)}, z ∈ sdL l ↔ z ∈ l
 | [] => by simp [sdL]
 | x :: l => by
  show z ∈ Qlr x (sdL l) ↔ _
  rw [Qo4, Qqh (l := l), List.mem_cons]
end Go.T
namespace Go.T
open Go Go.RowKit Go.Proofs Go.Shelf Go.Sort
abbrev nilV : Value := .slice none 0 0
def Qsc (vals : List Value) (i : Nat) : Value := vals.getD i nilV
def Qyo (ls : List (List Int)) (i : Nat) : List Int := ls.getD i []
def Qhl (x : List Int) : List (List AV) := x.map fun n => [AV.lit (.int .i64 n)]
theorem Qzm (x : List Int) : Qit (Qhl x) = Qhl x := by
 rw [Qkz]
 unfold Qhl
 rw [List.map_map]
 exact List.map_congr_left fun n _ => rfl
theorem Qss {w : World} {S : Nat → Prop} {T : Nat} : ∀ (ls : List (List Int)) (vals : List Value) (fp : List Nat), Qbi w S 1 (ls.map fun x => [AV.own T 1 (Qhl x)]) vals fp →
  vals.length = ls.length ∧ ∃ fs : List (List Nat), fs.length = ls.length ∧ fp = fs.flatten ∧ ∀ i, i < ls.length → rep w S (.own T 1 (Qhl (Qyo ls i))) (Qsc vals i) (fs.getD i []) ∧ (Qsc vals i).oneCell' = true
 | [], vals, fp, h => by
  simp only [List.map_nil, Qbi] at h
  obtain ⟨rfl, rfl⟩ := h
  exact ⟨rfl, [], rfl, rfl, fun i hi => absurd hi (Nat.not_lt_zero _)⟩
 | x :: ls, vals, fp, h => by
  simp only [List.map_cons, Qbi, Qcy] at h
  obtain ⟨us, us', f1, f2, rfl, rfl, hl, h1, ⟨u, us2, g1, g2, rfl, rfl, hu, rfl, rfl⟩, h2⟩ := h
  obtain ⟨e1, fs, e2, rfl, e3⟩ := Qss ls us' f2 h2
  refine ⟨by simp [e1], g1 :: fs, by simp [e2], by simp, fun i hi => ?_⟩
  cases i with
  | zero => exact ⟨hu, h1 u (by simp)⟩
  | succ i => exact e3 i (by simpa using hi)
theorem Quu {w : World} {S : Nat → Prop} {T : Nat} {con : Nat → List Int} {enc : Nat → Value} {f : Nat → List Nat} (h1 : ∀ i, (enc i).oneCell' = true) : ∀ (K : List Nat), (∀ i ∈ K, rep w S (.own T 1 (Qhl (con i))) (enc i) (f i)) →
  Qbi w S 1 ((K.map con).map fun x => [AV.own T 1 (Qhl x)]) (K.map enc) ((K.map f).flatten)
 | [], _ => by simp [Qbi]
 | k :: K, h => by
  simp only [List.map_cons, Qbi, Qcy, List.flatten_cons]
  exact ⟨[enc k], _, f k, _, rfl, rfl, rfl, by simpa using h1 k, ⟨enc k, [], f k, [], rfl, by simp, h k List.mem_cons_self, rfl, rfl⟩, Quu h1 K fun i hi => h i (List.mem_cons_of_mem _ hi)⟩
theorem Qw1 {fs : List (List Nat)} (hn : fs.flatten.Nodup) : ∀ {K : List Nat}, K.Nodup → (K.map fun i => fs.getD i []).flatten.Nodup := by
 have hd : ∀ i j b, b ∈ fs.getD i [] → b ∈ fs.getD j [] → i = j := by
  intro i j b hi hj
  rw [List.Nodup, List.pairwise_flatten] at hn
  rw [List.getD_eq_getElem?_getD] at hi hj
  by_cases h1 : i < fs.length
  ·by_cases h2 : j < fs.length
   ·rw [List.getElem?_eq_getElem h1] at hi
    rw [List.getElem?_eq_getElem h2] at hj
    rcases Nat.lt_trichotomy i j with h | h | h
    ·have := (List.pairwise_iff_getElem.1 hn.2) i j h1 h2 h
     exact absurd rfl (this b hi b hj)
    ·exact h
    ·have := (List.pairwise_iff_getElem.1 hn.2) j i h2 h1 h
     exact absurd rfl (this b hj b hi)
   ·rw [List.getElem?_eq_none (by omega)] at hj; cases hj
  ·rw [List.getElem?_eq_none (by omega)] at hi; cases hi
 have h1 : ∀ i, (fs.getD i []).Nodup := by
  intro i
  rw [List.getD_eq_getElem?_getD]
  by_cases h1 : i < fs.length
  ·rw [List.getElem?_eq_getElem h1]
   exact (List.pairwise_flatten.1 hn).1 _ (List.getElem_mem h1)
  ·rw [List.getElem?_eq_none (by omega)]; exact List.nodup_nil
 intro K
 induction K with
 | nil => intro _; simp
 | cons k K ih =>
  intro hK
  rw [List.nodup_cons] at hK
  simp only [List.map_cons, List.flatten_cons]
  rw [List.nodup_append]
  refine ⟨h1 k, ih hK.2, fun a ha b hb e => ?_⟩
  subst e
  rw [List.mem_flatten] at hb
  obtain ⟨l, hl, hb⟩ := hb
  obtain ⟨i, hi, rfl⟩ := List.mem_map.1 hl
  exact hK.1 (hd k i a ha hb ▸ hi)
theorem Qfa {fs : List (List Nat)} {i b : Nat} (h : b ∈ fs.getD i []) : b ∈ fs.flatten := by
 rw [List.getD_eq_getElem?_getD] at h
 by_cases h1 : i < fs.length
 ·rw [List.getElem?_eq_getElem h1] at h
  exact List.mem_flatten.2 ⟨_, List.getElem_mem h1, h⟩
 ·rw [List.getElem?_eq_none (by omega)] at h; cases h
theorem Qtb {w : World} {g : Nat} {cur : Array Value} {e : TypeId} {vals : List Value} {n : Nat} (hn : vals.length = n) (hb : w.heap[g]? = some (.cells cur e (0, 0))) (ht : cur.toList.take n = vals) : Holds (Qsc vals) w g 0 (Array.range n) := by
 intro j hj
 have hj' : j < n := by simpa using hj
 refine ⟨?_, by simp [World.frozen?, hb]⟩
 have h1 : (cur.toList.take n)[j]? = vals[j]? := by rw [ht]
 rw [List.getElem?_take_of_lt hj'] at h1
 simp only [World.cell?, hb, Nat.zero_add]
 simp only [Option.isSome_none, Bool.false_eq_true, if_false]
 rw [← Array.getElem?_toList, h1]
 have : (Array.range n)[j]! = j := by rw [getElem!_pos _ _ (by simpa using hj')]; simp
 rw [this, Qsc, List.getD_eq_getElem?_getD, List.getElem?_eq_getElem (by omega)]; rfl
theorem Xac : ∀ (n : Nat) (K : List Nat), K.Nodup → (∀ i ∈ K, i < n) → K.length ≤ n
  | 0, [], _, _ => by simp
  | 0, k :: K, _, h => absurd (h k List.mem_cons_self) (Nat.not_lt_zero _)
  | n + 1, K, hn, h => by
    have h1 := Xac n (K.erase n) (hn.erase n) (fun i hi => by
      have h2 := h i (List.mem_of_mem_erase hi)
      have h3 : i ≠ n := fun e => by subst e; exact (List.Nodup.not_mem_erase hn) hi
      omega)
    have := List.length_erase (a := n) (l := K)
    split at this <;> omega
theorem Qt7 {enc : Nat → Value} {w : World} {g n : Nat} {os : Array Obj} {cur : Array Value} {e : TypeId} {fr : Nat × Nat} {d : Array Nat} (hb : w.heap[g]? = some (.cells cur e fr)) (hg : g < w.heap.size) :
  (sortWorld enc w g 0 n d os).heap[g]? = some (.cells (putCells enc 0 d cur) e fr) := by
 unfold sortWorld
 rw [heap_grow_old _ _ (by simpa using hg)]
 simp [putRow, mapBlock, Sort.ahead, Array.getElem?_modify, hb, onCells]
theorem Qn3 {enc : Nat → Value} {cur : Array Value} {K r : List Nat} (h : K.length ≤ cur.size) : (putCells enc 0 (K ++ r).toArray cur).toList.take K.length = K.map enc := by
 apply List.ext_getElem?
 intro j
 by_cases hj : j < K.length
 ·rw [List.getElem?_take_of_lt hj, Array.getElem?_toList]
  simp [putCells, hj, show j < cur.size by omega, show j < K.length + r.length by omega, List.getElem_append]
 ·rw [List.getElem?_take_eq_none (by omega), List.getElem?_eq_none (by simp; omega)]
def Qrz (P : Program) (f : FuncId) : Prop :=
 (∀ (A : Option Addr) (cap : Nat) (w : World), Calls P f #[.slice A 0 cap] w fun e w' => e = .returned (.slice A 0 cap) ∧ w' = w) ∧
 ∀ (enc : Nat → Value) (con : Nat → List Int) (g cap n : Nat) (w : World), (∀ i, (enc i).oneCell' = true) → Holds enc w g 0 (Array.range n) → g < w.heap.size → 0 < n → n < 4611686018427387904 → n ≤ cap → enc n = nilV →
  (∀ i, (con i).length < 1099511627776) → (∀ (dk : Array Nat) (W : World), SW enc w g 0 dk W → dk.size = n → ∀ i, rep W (fun b => b < W.heap.size) (.ro 1 (Qhl (con i))) (enc i) []) →
  Calls P f #[.slice (some ⟨g, 0, none⟩) n cap] w fun e w' => ∃ K : List Nat, e = .returned (.slice (some ⟨g, 0, none⟩) K.length cap) ∧ K.map con = sdL ((List.range n).map con) ∧ K.Nodup ∧ (∀ i ∈ K, i < n) ∧ SW enc w g 0 (K ++ List.replicate (n - K.length) n).toArray w'
noncomputable def lstL (p : List (List Int)) : Option (List (List Int)) := if p.length < 4611686018427387904 ∧ ∀ x ∈ p, x.length < 1099511627776 then some (sdL p) else none
theorem Qwt (ls : List (List Int)) : (List.range ls.length).map (Qyo ls) = ls := by
 apply List.ext_getElem?
 intro i
 by_cases h : i < ls.length
 ·simp [Qyo, h]
 ·simp [h]
theorem Qsb {P : Program} {f : FuncId} {T : Nat} {T2 : Nat} (hE : Enters P f) (hc : Qrz P f) (ls : List (List Int)) (hz : ls.length < 4611686018427387904) (hzz : ∀ x ∈ ls, x.length < 1099511627776) :
  Qd3 P f [⟨T, 1, ls.map fun x => [AV.own T2 1 (Qhl x)]⟩] [.sl 0 0 (List.length (ls.map fun x => [AV.own T2 1 (Qhl x)]))] [false] [⟨T, 1, ls.map fun x => [AV.own T2 1 (Qhl x)]⟩] (.own T 1 ((sdL ls).map fun x => [AV.own T2 1 (Qhl x)])) := by
 refine ⟨hE, ?_⟩
 intro w S hd fp vals hr hnone hdis hS hSb hargs
 obtain ⟨_, ⟨vs, fp', hown, hrep, hfp⟩, hnd⟩ := hr 0 _ rfl
 simp only at hown hrep
 obtain ⟨hvl, fs, hfl, rfl, hel⟩ := Qss ls vs fp' hrep
 simp only [Qa7] at hargs
 obtain ⟨u, us', f1, f2, rfl, hf, hu, rfl, rfl⟩ := hargs
 obtain ⟨rfl, _⟩ := List.append_eq_nil_iff.1 hf.symm
 simp only [repR] at hu
 obtain ⟨_, _, hu⟩ := hu
 obtain ⟨_, ⟨A, cap, rfl, hcap, hA0, hA⟩, _⟩ := hu (hd 0) (ls.map fun x => [AV.own T2 1 (Qhl x)]).length 1 rfl
 have e3 : (List.length (ls.map fun x => [AV.own T2 1 (Qhl x)]) : Nat) = ls.length := List.length_map _
 rw [e3] at hown hcap hA
 have hfp0 : ∀ i b, b ∈ fp i → i = 0 := by
  intro i b hb
  cases i with
  | zero => rfl
  | succ i => rw [hnone (i + 1) (by simp)] at hb; cases hb
 by_cases hn : ls.length = 0
 ·have hls : ls = [] := List.eq_nil_of_length_eq_zero hn
  subst hls
  refine Calls.mono (hc.1 A cap w) ?_
  rintro e w' ⟨rfl, rfl⟩
  have hA0' : A = none ∧ cap = 0 ∨ ∃ b, A = some ⟨b, 0, none⟩ ∧ ∃ cur, w'.heap[b]? = some (.cells cur T (0, 0)) ∧ cur.size = cap * 1 ∧ cap ≤ maxLen := by
   obtain ⟨m, hm⟩ := hA0 rfl
   rcases hown.2 with ⟨h0, _⟩ | ⟨g, cap2, cur, h0, hb0, hg, r1, r2, r3, r4⟩
   ·rw [h0] at hm; cases hm; exact .inl ⟨rfl, rfl⟩
   ·rw [h0] at hm; cases hm
    exact .inr ⟨g, rfl, cur, hg, r3, r2⟩
  have hob : (hd 0).ownBlock = (Value.slice A 0 cap).ownBlock := by
   obtain ⟨m, hm⟩ := hA0 rfl
   rw [hm]; cases A <;> rfl
  refine ⟨_, fun _ => [], (Value.slice A 0 cap).ownBlock.toList, rfl, rfl, Tp.refl _, rfl, Nat.le_refl _, fun k _ _ => rfl, ?_, fun _ _ => rfl, by simp, ?_, ?_, ?_, by simp, by simp⟩
  ·intro i R' hR' hk
   cases i with
   | zero => cases hk
   | succ i => simp at hR'
  ·simp only [repR, rep]
   refine ⟨[], [], ⟨rfl, ?_⟩, by simp [sdL, Qbi], by simp⟩
   rcases hA0' with ⟨rfl, rfl⟩ | ⟨b, rfl, cur, h1, h2, h3⟩
   ·exact .inl ⟨rfl, rfl⟩
   ·exact .inr ⟨b, cap, cur, rfl, Nat.zero_le _, h1, Nat.zero_le _, h3, h2, by simp [sdL]⟩
  ·cases A <;> simp [Value.ownBlock]
  ·intro b hb
   rw [← hob] at hb
   have hm : b ∈ fp 0 := by rw [hfp]; exact List.mem_append_left _ hb
   exact ⟨.inl ⟨0, hm⟩, Qgz hown b hb⟩
 ·rcases hown.2 with ⟨_, h0⟩ | ⟨g, cap2, cur, h0, hbase, hg, r1, r2, r3, r4⟩
  ·exact absurd h0 hn
  ·obtain ⟨b, m, c, hh, rfl⟩ := hA (by omega)
   rw [h0] at hh
   cases hh
   obtain ⟨m2, hm2⟩ := hA0 rfl
   rw [h0] at hm2
   cases hm2
   simp only [Nat.zero_mul, Nat.mul_one] at *
   have hH := Qtb hvl hg r4
   have hgl : g < w.heap.size := (Array.getElem?_eq_some_iff.1 hg).1
   have hgf : g ∉ fs.flatten := by
    rw [hfp, h0] at hnd
    simp only [Value.ownBlock, Option.toList, List.cons_append, List.nil_append, List.nodup_cons] at hnd
    exact hnd.1
   have hfn : fs.flatten.Nodup := by
    rw [hfp, h0] at hnd
    simp only [Value.ownBlock, Option.toList, List.cons_append, List.nil_append, List.nodup_cons] at hnd
    exact hnd.2
   have hflt : ∀ b ∈ fs.flatten, b < w.heap.size := Qmx 1 _ _ _ hrep
   have hone : ∀ i, (Qsc vs i).oneCell' = true := fun i => by
    by_cases hi : i < ls.length
    ·exact (hel i hi).2
    ·rw [Qsc, List.getD_eq_getElem?_getD, List.getElem?_eq_none (by omega)]; rfl
   have hblk : ∀ (dk : Array Nat) (W : World), SW (Qsc vs) w g 0 dk W → ∀ b, b ≠ g → b < w.heap.size → W.heap[b]? = w.heap[b]? := by
    rintro dk W ⟨q, os, rfl⟩ b hb hl
    unfold sortWorld
    rw [heap_grow_old _ _ (by rw [Go.Sort.size_putRow]; exact hl)]
    show (w.heap.modify g _)[b]? = _
    rw [Array.getElem?_modify, if_neg (fun e => hb e.symm)]
   have hown2 : ∀ (dk : Array Nat) (W : World), SW (Qsc vs) w g 0 dk W → ∀ i, i < ls.length → rep W NS (.own T2 1 (Qhl (Qyo ls i))) (Qsc vs i) (fs.getD i []) := fun dk W hW i hi =>
    Qb2 _ _ _ (hel i hi).1 (fun _ h => h) (fun _ h => h.elim) (fun b hb => hblk dk W hW b (fun e => hgf (e ▸ Qfa hb)) (hflt b (Qfa hb)))
   have hro : ∀ (dk : Array Nat) (W : World), SW (Qsc vs) w g 0 dk W → dk.size = ls.length → ∀ i, rep W (fun b => b < W.heap.size) (.ro 1 (Qhl (Qyo ls i))) (Qsc vs i) [] := by
    intro dk W hW _ i
    by_cases hi : i < ls.length
    ·have := Qt8 (S2 := fun b => b < W.heap.size) _ _ _ (hown2 dk W hW i hi) (fun _ h => h.elim) (fun b hb => Qj0 _ _ _ (hown2 dk W hW i hi) b hb)
     simpa only [frz, Qzm] using this
    ·rw [Qsc, Qyo, List.getD_eq_getElem?_getD, List.getElem?_eq_none (by omega), List.getD_eq_getElem?_getD, List.getElem?_eq_none (by omega)]
     simp only [Option.getD_none, Qhl, List.map_nil, rep]
     exact ⟨trivial, none, 0, rfl, Nat.le_refl _, .inl trivial⟩
   have hlen : ∀ i, (Qyo ls i).length < 1099511627776 := fun i => by
    by_cases hi : i < ls.length
    ·rw [Qyo, List.getD_eq_getElem?_getD, List.getElem?_eq_getElem hi]; exact hzz _ (List.getElem_mem hi)
    ·rw [Qyo, List.getD_eq_getElem?_getD, List.getElem?_eq_none (by omega)]; simp
   have hnil : Qsc vs ls.length = nilV := by rw [Qsc, List.getD_eq_getElem?_getD, List.getElem?_eq_none (by omega)]; rfl
   have := hc.2 (Qsc vs) (Qyo ls) g cap ls.length w hone hH hgl (by omega) hz r1 hnil hlen hro
   rw [e3]
   refine Calls.mono this ?_
   rintro e w' ⟨K, rfl, hK1, hK2, hK3, hSW⟩
   rw [Qwt] at hK1
   have hKl : K.length ≤ ls.length := Xac _ _ hK2 hK3
   have hf0 : fp 0 = g :: fs.flatten := by rw [hfp, h0]; rfl
   obtain ⟨q, os, rfl⟩ := id hSW
   have hsz' : w.heap.size ≤ (sortWorld (Qsc vs) w g 0 q (K ++ List.replicate (ls.length - K.length) ls.length).toArray os).heap.size := hSW.le
   have hKf : ∀ b ∈ (K.map fun i => fs.getD i []).flatten, b ∈ fs.flatten := fun b hb => by
    obtain ⟨l, hl, hb⟩ := List.mem_flatten.1 hb
    obtain ⟨i, _, rfl⟩ := List.mem_map.1 hl
    exact Qfa hb
   refine ⟨_, fun _ => [], g :: (K.map fun i => fs.getD i []).flatten, rfl, rfl, ⟨rfl, Nat.le_add_right _ _⟩, rfl, hsz', fun k hk hn2 => hblk _ _ hSW k (fun e => hn2 0 (by rw [hf0, e]; exact List.mem_cons_self)) hk, ?_, fun _ _ => rfl, by simp, ?_, ?_, ?_, by simp, by simp⟩
   ·intro i R' hR' hk
    cases i with
    | zero => cases hk
    | succ i => simp at hR'
   ·simp only [repR, rep]
    refine ⟨K.map (Qsc vs), (K.map fun i => fs.getD i []).flatten, ?_, ?_, rfl⟩
    ·have e5 : ((sdL ls).map fun x => [AV.own T2 1 (Qhl x)]).length = K.length := by rw [List.length_map, ← hK1, List.length_map]
     rw [e5]
     refine ⟨by simp, .inr ⟨g, cap, _, rfl, Nat.zero_le _, Qt7 hg hgl, by omega, r2, by simp [putCells, r3], ?_⟩⟩
     rw [Nat.mul_one]
     exact Qn3 (by omega)
    ·rw [← hK1]
     exact Quu hone K fun i hi => hown2 _ _ hSW i (hK3 i hi)
   ·rw [List.nodup_cons]
    exact ⟨fun h => hgf (hKf g h), Qw1 hfn hK2⟩
   ·intro b hb
    have : b ∈ fp 0 := by
     rw [hf0]
     rcases List.mem_cons.1 hb with rfl | hb
     ·exact List.mem_cons_self
     ·exact List.mem_cons_of_mem _ (hKf b hb)
    refine ⟨.inl ⟨0, this⟩, Nat.lt_of_lt_of_le ?_ hsz'⟩
    rw [hf0] at this
    rcases List.mem_cons.1 this with rfl | h
    ·exact hgl
    ·exact hflt b h
def kpE (eqf : Nat → Nat → Bool) (d : Array Nat) (j : Nat) : Bool := j == 0 || !(eqf d[j]! d[j - 1]!)
theorem SW.set {enc : Nat → Value} {w0 W : World} {g off : Nat} {dk : Array Nat} (h : SW enc w0 g off dk W) (hg : g < w0.heap.size) (i u : Nat) (hi : i < dk.size) : SW enc w0 g off (dk.setIfInBounds i u) (W.setCell ⟨g, off + i, none⟩ (enc u)) := by
 obtain ⟨n, os, rfl⟩ := h
 refine ⟨n, os, ?_⟩
 unfold sortWorld
 rw [← putRow_grow enc (Sort.ahead w0 n) os g off dk hg, putRow_set enc _ g off dk i u hi, putRow_grow enc (Sort.ahead w0 n) os g off _ hg]
theorem SW.sets {enc : Nat → Value} {w0 W : World} {g off : Nat} {dk : Array Nat} (h : SW enc w0 g off dk W) (hg : g < w0.heap.size) (k : Nat) (xs : List Nat) (hi : k + xs.length ≤ dk.size) : SW enc w0 g off (Lib.lay dk k xs) (W.setCells g (off + k) (xs.map enc)) := by
 obtain ⟨n, os, rfl⟩ := h
 refine ⟨n, os, ?_⟩
 unfold sortWorld
 rw [setCells_grow os g _ _ _ (by simpa using hg), Lib.putRow_setCells enc _ g off xs dk k hi]
theorem Qyt {P : Program} {ρ : Ren} (L : SlLaysF.n6 P ρ) (p : Option Addr) (cap : Nat) (fv : Value) (w : World) : Calls P (ρ.f 6) #[.slice p 0 cap, fv] w fun e w' => e = .returned (.tuple #[]) ∧ w' = w := AnyF.slices_SortFunc_none (P := P) (ρ := ρ) { L with } p cap fv w
theorem Qn0 {kp : Nat → Bool} {d : Array Nat} {m : Nat} : Lib.keptUpTo kp d m = ((List.range m).filter kp).map (d[·]!) := rfl
theorem Qvp {con : Nat → List Int} {n : Nat} {d : Array Nat} (hp : PermIn 0 n (Array.range n) d) (hs : SortedIn (ltOf fun i j => Qim (con i) (con j)) 0 n d) :
  d.size = n ∧ (Lib.keptUpTo (kpE (fun i j => con i == con j) d) d d.size).map con = sdL ((List.range n).map con) ∧ (Lib.keptUpTo (kpE (fun i j => con i == con j) d) d d.size).Nodup ∧ ∀ i ∈ Lib.keptUpTo (kpE (fun i j => con i == con j) d) d d.size, i < n := by
 obtain ⟨h1, _, h3⟩ := hp
 have hsz : d.size = n := by rw [h1, Array.size_range]
 have h4 : d.toList.Perm (List.range n) := by
  have e1 : (d.extract 0 n).toList = d.toList := by rw [← hsz]; simp
  have e2 : ((Array.range n).extract 0 n).toList = List.range n := by
   have : (Array.range n).extract 0 n = Array.range n := by
    have h := Array.extract_size (xs := Array.range n)
    rwa [Array.size_range] at h
   rw [this, Array.toList_range]
  rwa [e1, e2] at h3
 have hdl : d.toList = (List.range d.size).map (d[·]!) := (Lib.range_map_get d).symm
 have hat : ∀ j, j < n → d[j]! ∈ d.toList := fun j hj => by rw [hdl]; exact List.mem_map.2 ⟨j, List.mem_range.2 (by omega), rfl⟩
 have hle : ∀ i j, i < j → j < n → ltL (con d[j]!) (con d[i]!) = false := fun i j hij hj => hs i j (Nat.zero_le _) hij hj
 have hmem : ∀ i, i ∈ Lib.keptUpTo (kpE (fun i j => con i == con j) d) d d.size → i ∈ d.toList := by
  intro i hi
  rw [Qn0] at hi
  obtain ⟨j, hj, rfl⟩ := List.mem_map.1 hi
  exact hat j (by have := List.mem_range.1 (List.mem_filter.1 hj).1; omega)
 refine ⟨hsz, ?_, ?_, ?_⟩
 ·refine Qu2 _ _ ?_ (Qqz _) fun z => ?_
  ·rw [Qn0, List.map_map, List.pairwise_map]
   refine List.Pairwise.imp_of_mem (R := fun a b => a < b) ?_ (List.pairwise_lt_range.filter _)
   intro a b ha hb hab
   obtain ⟨hb1, hb2⟩ := List.mem_filter.1 hb
   have hbn := List.mem_range.1 hb1
   simp only [kpE, Bool.or_eq_true, beq_iff_eq, Bool.not_eq_true', beq_eq_false_iff_ne] at hb2
   have hne : con d[b]! ≠ con d[b - 1]! := by
    rcases hb2 with h | h
    ·omega
    ·exact h
   have h1 : ltL (con d[b - 1]!) (con d[b]!) = true := by
    rcases Qxs (hle (b - 1) b (by omega) (by omega)) with h | h
    ·exact absurd h.symm hne
    ·exact h
   by_cases e : a = b - 1
   ·subst e; exact h1
   ·rcases Qxs (hle a (b - 1) (by omega) (by omega)) with h | h
    ·show ltL (con d[a]!) (con d[b]!) = true
     rw [h]; exact h1
    ·exact Qgy h h1
  ·rw [Qqh]
   constructor
   ·intro hz
    obtain ⟨i, hi, rfl⟩ := List.mem_map.1 hz
    exact List.mem_map.2 ⟨i, (h4.mem_iff).1 (hmem i hi), rfl⟩
   ·intro hz
    obtain ⟨i, hi, rfl⟩ := List.mem_map.1 hz
    have hi2 := (h4.mem_iff).2 hi
    rw [hdl] at hi2
    obtain ⟨j, hj, rfl⟩ := List.mem_map.1 hi2
    have key : ∀ j, j < d.size → ∃ k, k < d.size ∧ kpE (fun i j => con i == con j) d k = true ∧ con d[k]! = con d[j]! := by
     intro j
     induction j with
     | zero => intro h; exact ⟨0, h, rfl, rfl⟩
     | succ j ih =>
      intro h
      by_cases e : con d[j + 1]! = con d[j]!
      ·obtain ⟨k, k1, k2, k3⟩ := ih (by omega)
       exact ⟨k, k1, k2, by rw [k3, e]⟩
      ·refine ⟨j + 1, h, ?_, rfl⟩
       simp [kpE, e]
    obtain ⟨k, k1, k2, k3⟩ := key j (List.mem_range.1 hj)
    rw [Qn0, List.map_map]
    exact List.mem_map.2 ⟨k, List.mem_filter.2 ⟨List.mem_range.2 k1, k2⟩, k3⟩
 ·have hsub : (Lib.keptUpTo (kpE (fun i j => con i == con j) d) d d.size).Sublist d.toList := by
   rw [hdl, Qn0]
   exact List.filter_sublist.map _
  exact (h4.nodup_iff.2 List.nodup_range).sublist hsub
 ·intro i hi
  exact List.mem_range.1 (h4.mem_iff.1 (hmem i hi))
end Go.T
set_option linter.unusedVariables false
namespace Go.T
open Go
theorem Qgo {n : Int} (h : -9223372036854775808 ≤ n ∧ n < 9223372036854775808) : w64 n = n := by
 show IntKind.i64.wrap n = n
 rw [IntKind.wrap_i64]; omega
theorem Qcx {k : Nat} (h : k < 4611686018427387904) : w64 ((k : Int) + 1) = ((k + 1 : Nat) : Int) := by rw [Qgo (by omega)]; omega
section
variable {α β : Type}
theorem Qdm {l : List α} {k : Nat} (h : k < l.length) : rd l (k : Int) = some l[k] := by simp [rd, h]
theorem Qur {l : List α} {k : Nat} : rd l (k : Int) = l[k]? := by simp [rd]
theorem Xdt {k : Nat} {v : Vector α k} {i : Nat} (h : i < k) : rdv v (i : Int) = some v[i] := by simp [rdv, h]
theorem Xao {k : Nat} {v : Vector α k} {i : Int} (h0 : 0 ≤ i) (h : i.toNat < k) : rdv v i = some v[i.toNat] := by simp [rdv, h0, h]
theorem Qf2 {a b : List α} (h : a.length + b.length < 1099511627776) : app a b = some (a ++ b) := by simp [app, h]
theorem mk_ok {z : α} {n : Nat} (h : n < 1099511627776) : mk z (n : Int) = some (List.replicate n z) := by
 unfold mk; rw [if_pos (by omega)]; rfl
theorem Qmq {l : List α} {k : Nat} (h : k ≤ l.length) : slc l 0 (k : Int) = some (l.take k) := by
 unfold slc; rw [if_pos (by omega)]; simp [List.take_of_length_le]
theorem Qr0 {l : List α} {k : Nat} (h : k ≤ l.length) : slc l (k : Int) (l.length : Int) = some (l.drop k) := by
 unfold slc; rw [if_pos (by omega)]; simp [List.take_of_length_le]
theorem Qlm {a b : List α} (h : b.length = a.length) : Qji a b = some () := by simp [Qji, h]
theorem ltD {a b : Nat} : (decide ((a : Int) < (b : Int))) = decide (a < b) := by
 by_cases h : a < b
 ·rw [decide_eq_true (by omega), decide_eq_true h]
 ·rw [decide_eq_false (by omega), decide_eq_false h]
end
theorem Qdg {n : Nat} (h : n < 1099511627776) : n < FU := by rw [FU_eq]; omega
section
variable {α : Type} {f g : Nat → α} {n : Nat}
end
theorem PS : (∀ {a b : Nat}, decide ((a : Int) < (b : Int)) = decide (a < b)) ∧ (∀ (h : Decidable True), @decide True h = true) ∧ (∀ (h : Decidable False), @decide False h = false)
  ∧ (∀ {β : Type} (h : Decidable True) (x y : β), @ite β True h x y = x) ∧ (∀ {β : Type} (h : Decidable False) (x y : β), @ite β False h x y = y) ∧ ((false = true) = False) ∧ ((true = false) = False)
  ∧ (∀ {α β : Type} (a : α) (f : α → Option β), (some a).bind f = f a) ∧ ((!true) = false) ∧ ((!false) = true) ∧ (∀ n : Nat, ((n : Int)).toNat = n) ∧ (∀ {α : Type} [BEq α] [LawfulBEq α] (a : α), (a == a) = true) ∧ (∀ {α : Type} [BEq α] [LawfulBEq α] (a : α), (a != a) = false) :=
 ⟨ltD, fun h => decide_true h, fun h => decide_false h, fun h x y => if_pos trivial, fun h x y => if_neg id, Bool.false_eq_true, Bool.true_eq_false, fun a f => rfl, rfl, rfl, Int.toNat_natCast, fun a => beq_self_eq_true a, fun a => bne_self_eq_false a⟩
end Go.T
set_option linter.unusedVariables false
namespace Go.T
open Go
section
variable {α : Type}
theorem eqL {p : List α} {e : α → α → Option Bool} {F : Nat → Int → Option Bool}
  (hF : ∀ n v, F (n + 1) v = if (decide (v < (p.length : Int))) = true then Option.bind (rd p v) fun x => Option.bind (rd p v) fun y => Option.bind (e x y) fun r => if (!r) = true then some false else F n (w64 (v + 1)) else some true)
  (hp : p.length < 1099511627776) (he : ∀ x ∈ p, e x x = some true) : F FU 0 = some true := by
 have key : ∀ (n k : Nat), k ≤ p.length → p.length < n + k → F n k = some true := by
  intro n
  induction n with
  | zero => intro k h1 h2; omega
  | succ n ih =>
   intro k h1 h2
   rw [hF]
   by_cases hk : k < p.length
   ·simp only [PS, hk, Qdm hk, Qcx (k := k) (by omega), ih (k + 1) hk (by omega), he _ (List.getElem_mem hk)]
   ·simp [hk]
 exact key FU 0 (by omega) (by have := Qdg hp; omega)
theorem eqLs [BEq α] [LawfulBEq α] {p : List α} {F : Nat → Int → Option Bool}
  (hF : ∀ n v, F (n + 1) v = if (decide (v < (p.length : Int))) = true then Option.bind (rd p v) fun x => Option.bind (rd p v) fun y => if (x != y) = true then some false else F n (w64 (v + 1)) else some true)
  (hp : p.length < 1099511627776) : F FU 0 = some true :=
 eqL (e := fun x y => some (x == y)) (fun n v => by rw [hF]; rfl) hp (fun x _ => by simp)
theorem toL {p : List α} {t : α → Option α} {F : Nat → List α → Int → Option (List α)}
    (hF : ∀ n a v, F (n + 1) a v = if (decide (v < (p.length : Int))) = true then Option.bind (rd p v) fun x => Option.bind (t x) fun r => Option.bind (rd a v) fun _ => F n (a.set (Int.toNat v) r) (w64 (v + 1)) else some a)
    (hp : p.length < 1099511627776) (ht : ∀ x ∈ p, t x = some x) (z : α) : (Option.bind (mk z (p.length : Int)) fun l => F FU l 0) = some p := by
  have key : ∀ (n k : Nat) (a : List α), k ≤ p.length → p.length < n + k → a.length = p.length → a.take k = p.take k → F n a k = some p := by
    intro n
    induction n with
    | zero => intro k a h1 h2; omega
    | succ n ih =>
      intro k a h1 h2 h3 h4
      rw [hF]
      by_cases hk : k < p.length
      · have hk' : k < a.length := by omega
        have := ih (k + 1) (a.set k p[k]) hk (by omega) (by simp [h3]) (by
          rw [List.take_add_one, List.take_add_one, List.take_set_of_le (Nat.le_refl k), h4]; simp [hk, hk'])
        simp only [PS, hk, Qdm hk, Qdm hk', ht _ (List.getElem_mem hk), Qcx (k := k) (by omega), this]
      · have : k = p.length := by omega
        subst this
        rw [List.take_length, ← h3, List.take_length] at h4
        simp [h4]
  rw [mk_ok hp, Option.bind_some]
  exact key FU 0 _ (by omega) (by have := Qdg hp; omega) (by simp) (by simp)
inductive Qti (held : α → Int → Int → Prop) : List α → Int → Int → Prop
 | nil (v : Int) : Qti held [] v v
 | cons {y : α} {l : List α} {v v1 v2 : Int} : held y v v1 → 0 ≤ v1 → Qti held l v1 v2 → Qti held (y :: l) v v2
theorem Xd6 {F : Nat → List α → Int → Int → Option (Int × List α)} {H : α → Int → Int → Prop} {ok : α → Prop} {b : Int} (hb : 0 ≤ b) {B : Nat}
    (hE : ∀ n a v k, k = (a.length : Int) → F (n + 1) a v k = some (v, a))
    (hS : ∀ n (a : List α) v k (hk : k < a.length), ok a[k] → 0 ≤ v → v + b < 4611686018427387904 → ∃ v' y, F (n + 1) a v k = F n (a.set k y) v' (w64 ((k : Int) + 1)) ∧ H y v v' ∧ v ≤ v' ∧ v' ≤ v + b)
    (hB : (B : Int) < 1099511627776) : ∀ (a : List α) (v : Int), a.length ≤ B → (∀ x ∈ a, ok x) → 0 ≤ v → v + b * B < 4611686018427387904 → ∃ v' a', F FU a v 0 = some (v', a') ∧ a'.length = a.length ∧ Qti H a' v v' ∧ v ≤ v' ∧ v' ≤ v + b * B := by
  have key : ∀ (n k : Nat) (a : List α) (v : Int), k ≤ a.length → a.length < n + k → a.length < 1099511627776 → (∀ x ∈ a.drop k, ok x) → 0 ≤ v → v + b * ((a.length : Int) - k) < 4611686018427387904 →
      ∃ v' l, F n a v k = some (v', a.take k ++ l) ∧ l.length = a.length - k ∧ Qti H l v v' ∧ v ≤ v' ∧ v' ≤ v + b * ((a.length : Int) - k) := by
    intro n
    induction n with
    | zero => intro k a v h1 h2; omega
    | succ n ih =>
      intro k a v h1 h2 h3 h4 h5 h6
      by_cases hk : k < a.length
      · have hd : a.drop k = a[k] :: a.drop (k + 1) := List.drop_eq_getElem_cons hk
        have e1 : b * ((a.length : Int) - k) = b + b * ((a.length : Int) - ((k + 1 : Nat) : Int)) := by
          rw [show (a.length : Int) - k = 1 + ((a.length : Int) - ((k + 1 : Nat) : Int)) by omega, Int.mul_add, Int.mul_one]
        have e2 : 0 ≤ b * ((a.length : Int) - ((k + 1 : Nat) : Int)) := Int.mul_nonneg hb (by omega)
        obtain ⟨v1, y, f1, f2, f3, f4⟩ := hS n a v k hk (h4 _ (by rw [hd]; exact List.mem_cons_self)) h5 (by omega)
        obtain ⟨v2, l, g1, g2, g3, g4, g5⟩ := ih (k + 1) (a.set k y) v1 (by rw [List.length_set]; omega) (by rw [List.length_set]; omega) (by rw [List.length_set]; exact h3) (fun x hx => h4 x (by
          rw [List.drop_set_of_lt (by omega)] at hx
          rw [hd]; exact List.mem_cons_of_mem _ hx)) (by omega) (by rw [List.length_set]; omega)
        rw [List.length_set] at g2 g5
        refine ⟨v2, y :: l, ?_, by simp; omega, .cons f2 (by omega) g3, by omega, by omega⟩
        rw [f1, Qcx (k := k) (by omega), g1, List.take_add_one, List.take_set_of_le (Nat.le_refl k)]
        simp [hk]
      · have : k = a.length := by omega
        subst this
        refine ⟨v, [], ?_, by simp, .nil v, by omega, by simp⟩
        rw [hE _ _ _ _ rfl]; simp
  intro a v ha hok h0 hv
  have e1 : b * (a.length : Int) ≤ b * B := Int.mul_le_mul_of_nonneg_left (by omega) hb
  obtain ⟨v', l, f1, f2, f3, f4, f5⟩ := key FU 0 a v (by omega) (by have := Qdg (n := a.length) (by omega); omega) (by omega) (by simpa using hok) h0 (by simpa using (show v + b * (a.length : Int) < _ by omega))
  refine ⟨v', l, by simpa using f1, by simpa using f2, f3, f4, ?_⟩
  have : v' ≤ v + b * (a.length : Int) := by simpa using f5
  omega
theorem heldL {H : α → Int → Int → Prop} {p : List α} {F : Nat → Int → Int → Option Int}
  (hE : ∀ n v k, k = (p.length : Int) → F (n + 1) v k = some v)
  (hS : ∀ n v v' k (hk : k < p.length), H p[k] v v' → 0 ≤ v' → F (n + 1) v k = F n v' (w64 ((k : Int) + 1)))
  (hp : p.length < 1099511627776) {v v' : Int} (hc : Qti H p v v') : F FU v 0 = some v' := by
 have key : ∀ (n k : Nat) (l : List α) (v v' : Int), k ≤ p.length → p.length < n + k → p.drop k = l → Qti H l v v' → F n v k = some v' := by
  intro n
  induction n with
  | zero => intro k l v v' h1 h2; omega
  | succ n ih =>
   intro k l v v' h1 h2 h3 h4
   cases h4 with
   | nil => 
    have : k = p.length := by
     have := congrArg List.length h3
     simp at this; omega
    exact hE n v k (by omega)
   | @cons y l _ v1 _ e1 e2 e3 =>
    have hk : k < p.length := by
     have := congrArg List.length h3
     simp at this; omega
    rw [List.drop_eq_getElem_cons hk] at h3
    injection h3 with h3 h3'
    subst h3
    rw [hS n v v1 k hk e1 e2, Qcx (k := k) (by omega)]
    exact ih (k + 1) l v1 v' hk (by omega) h3' e3
 exact key FU 0 p v v' (by omega) (by have := Qdg hp; omega) (by simp) hc
def Num (num : Int → α) (nxt : Int → Int) (y : α) (v v' : Int) : Prop := y = num v ∧ 0 ≤ v ∧ v' = nxt v ∧ v' < 4611686018427387904
theorem findL {p : List α} {t : α → Option Bool} {q : α → Bool} {F : Nat → Int → Option Int}
  (hF : ∀ n v, F (n + 1) v = if (decide (v < (p.length : Int))) = true then Option.bind (rd p v) fun x => Option.bind (t x) fun r => if r = true then some v else F n (w64 (v + 1)) else some (-1))
  (hp : p.length < 1099511627776) (ht : ∀ x ∈ p, t x = some (q x)) : ∃ r : Int, F FU 0 = some r ∧ decide (r ≥ 0) = p.any q := by
 have key : ∀ (n k : Nat), k ≤ p.length → p.length < n + k → ∃ r : Int, F n k = some r ∧ decide (r ≥ 0) = (p.drop k).any q := by
  intro n
  induction n with
  | zero => intro k h1 h2; omega
  | succ n ih =>
   intro k h1 h2
   rw [hF]
   by_cases hk : k < p.length
   ·rw [List.drop_eq_getElem_cons hk, List.any_cons]
    obtain ⟨r, e1, e2⟩ := ih (k + 1) hk (by omega)
    simp only [PS, hk, Qdm hk, ht _ (List.getElem_mem hk), Qcx (k := k) (by omega), e1]
    cases q p[k]
    ·exact ⟨r, by simp, by simpa using e2⟩
    ·exact ⟨k, by simp, by simp⟩
   ·have : k = p.length := by omega
    subst this
    exact ⟨-1, by simp, by simp⟩
 simpa using key FU 0 (by omega) (by have := Qdg hp; omega)
end
end Go.T
