/- Lemmas for FnExactAddPairs; no condition. -/

import Derived.Test.YtihgcgccajikpaaTB
import Derived.Test.YtihgcgccajikpaaTA0
import Derived.Maps.AppendAt
set_option linter.unusedVariables false
namespace Go.T
open Go Go.RowKit

/-- a row that the call owns -/
structure Root where
  T : Nat
  sz : Nat
  xs : List (List AV)
  deriving Inhabited

structure St where
  sl : List (Nat × AV)
  rt : List (Nat × Option Root)
  us : List Nat

def St.get (s : St) (t : Nat) : AV := (s.sl.lookup t).getD .dead
def St.root (s : St) (i : Nat) : Option Root := (s.rt.lookup i).getD none
def St.put (s : St) (d : Nat) (v : AV) : St := { s with sl := (d, v) :: s.sl }
def St.add (s : St) (i : Nat) (R : Root) : St := { s with rt := (i, some R) :: s.rt, us := i :: s.us }
def St.setR (s : St) (i : Nat) (R : Root) : St := { s with rt := (i, some R) :: s.rt }
def St.kill (s : St) (i : Nat) : St := { s with rt := (i, none) :: s.rt }

theorem lookup_cons_same {β : Type} (i : Nat) (x : β) (l : List (Nat × β)) : ((i, x) :: l).lookup i = some x := by simp [List.lookup]
theorem lookup_cons_ne {β : Type} {i j : Nat} (h : j ≠ i) (x : β) (l : List (Nat × β)) : ((i, x) :: l).lookup j = l.lookup j := by
  have : (j == i) = false := by simpa using h
  simp [List.lookup, this]
theorem St.get_put_same (s : St) (d : Nat) (v : AV) : (s.put d v).get d = v := by simp [St.get, St.put]
theorem St.get_put_ne (s : St) {d t : Nat} (h : t ≠ d) (v : AV) : (s.put d v).get t = s.get t := by simp only [St.get, St.put, lookup_cons_ne h]
theorem St.root_put (s : St) (d : Nat) (v : AV) (i : Nat) : (s.put d v).root i = s.root i := rfl
theorem St.root_add_same (s : St) (i : Nat) (R : Root) : (s.add i R).root i = some R := by simp [St.root, St.add]
theorem St.root_add_ne (s : St) {i j : Nat} (h : j ≠ i) (R : Root) : (s.add i R).root j = s.root j := by simp only [St.root, St.add, lookup_cons_ne h]
theorem St.root_setR_same (s : St) (i : Nat) (R : Root) : (s.setR i R).root i = some R := by simp [St.root, St.setR]
theorem St.root_setR_ne (s : St) {i j : Nat} (h : j ≠ i) (R : Root) : (s.setR i R).root j = s.root j := by simp only [St.root, St.setR, lookup_cons_ne h]
theorem St.root_kill_same (s : St) (i : Nat) : (s.kill i).root i = none := by simp [St.root, St.kill]
theorem St.root_kill_ne (s : St) {i j : Nat} (h : j ≠ i) : (s.kill i).root j = s.root j := by simp only [St.root, St.kill, lookup_cons_ne h]

/-- the colour of what lay in memory and may be read by nobody here -/
def JJ : Nat := 1000000007
/-- the tape is as it was; draws may have been made -/
def Tp (w0 w : World) : Prop := w.tape = w0.tape ∧ w0.drawn ≤ w.drawn
theorem Tp.refl (w : World) : Tp w w := ⟨rfl, Nat.le_refl _⟩
theorem Tp.trans {a b c : World} (h : Tp a b) (k : Tp b c) : Tp a c := ⟨k.1.trans h.1, Nat.le_trans h.2 k.2⟩
theorem Tp.drew {w : World} : Tp w w.drew := ⟨rfl, Nat.le_succ _⟩
structure Env where
  P : Program
  w0 : World
  n : Nat
  In : Nat → Prop
  Jk : Nat → Prop
  fx : List (Nat × Value)

def tab (s : St) (hd : Nat → Value) : Tab := fun i => (s.root i).map fun R => (hd i, R.xs.length, R.sz)
def free (χ : Nat → Option Nat) (w : World) : Nat → Prop := fun b => χ b = none ∧ b < w.heap.size

def RootRep (w : World) (S U : Nat → Prop) (ρ : Tab) (R : Root) (h : Value) (fp : List Nat) : Prop :=
  0 < R.sz ∧ ∃ vs fp', w.ownsRow 0 R.T R.sz h R.xs.length vs ∧ repRLL w S U ρ R.sz R.xs vs fp' ∧ fp = h.ownBlock.toList ++ fp'

structure Rel0 (E : Env) (s : St) (a : Act) (w : World) (χ : Nat → Option Nat) (hd : Nat → Value) : Prop where
  defers : a.defers = []
  size : a.tmps.size = E.n
  os : w.os = E.w0.os
  tape : Tp E.w0 w
  output : w.output = E.w0.output
  hsz : E.w0.heap.size ≤ w.heap.size
  frame : ∀ k, k < E.w0.heap.size → ¬ E.In k → w.heap[k]? = E.w0.heap[k]?
  fx : ∀ p, p ∈ E.fx → p.1 ∈ s.us ∧ hd p.1 = p.2
  jj : JJ ∈ s.us
  rj : s.root JJ = none
  jk : ∀ b, E.Jk b → χ b = some JJ
  col : ∀ b r, χ b = some r → (r ≠ JJ → E.w0.heap.size ≤ b ∨ E.In b) ∧ b < w.heap.size
  rts : ∀ i R, s.root i = some R → i ∈ s.us ∧ ∃ fp, RootRep w (free χ w) (· ∈ s.us) (tab s hd) R (hd i) fp ∧ fp.Nodup ∧ ∀ b ∈ fp, χ b = some i
  slots : ∀ t, repR w (free χ w) (· ∈ s.us) (tab s hd) (s.get t) (a.tmps.getD t undef) []

theorem fx_add {E : Env} {s : St} {hd : Nat → Value} {id : Nat} {R : Root} {v0 : Value} (h : ∀ p, p ∈ E.fx → p.1 ∈ s.us ∧ hd p.1 = p.2) (hid : id ∉ s.us) : ∀ p, p ∈ E.fx → p.1 ∈ (s.add id R).us ∧ (fun j => if j = id then v0 else hd j) p.1 = p.2 := by
  intro p hv
  obtain ⟨h1, h2⟩ := h p hv
  exact ⟨List.mem_cons_of_mem _ h1, by
    have : ¬ (p.1 = id) := by intro e; exact hid (e ▸ h1)
    simp only [this, if_false]; exact h2⟩
def Rel (E : Env) (s : St) (a : Act) (w : World) : Prop := ∃ χ hd, Rel0 E s a w χ hd

theorem RootRep.mono {w w2 : World} {S S2 U U2 : Nat → Prop} {ρ ρ2 : Tab} {R : Root} {h : Value} {fp : List Nat} (k : RootRep w S U ρ R h fp) (hs : ∀ b, S b → S2 b) (hS : ∀ b, S b → w2.heap[b]? = w.heap[b]?) (hf : ∀ b ∈ fp, w2.heap[b]? = w.heap[b]?)
    (hU : ∀ i, U i → U2 i) (hρ : ∀ i, U i → ∀ x, ρ2 i = some x → ρ i = some x) : RootRep w2 S2 U2 ρ2 R h fp := by
  obtain ⟨hz, vs, fp', ho, hr, rfl⟩ := k
  exact ⟨hz, vs, fp', ownsRow_frame ho (fun b hb => hf b (by simp [hb])), repRLL_mono hs hS hU hρ _ _ _ hr (fun b hb => hf b (by simp [hb])), rfl⟩

theorem RootRep.lt {w : World} {S U : Nat → Prop} {ρ : Tab} {R : Root} {h : Value} {fp : List Nat} (k : RootRep w S U ρ R h fp) : ∀ b ∈ fp, b < w.heap.size := by
  obtain ⟨hz, vs, fp', ho, hr, rfl⟩ := k
  intro b hb
  rcases List.mem_append.1 hb with hb | hb
  · exact ownsRow_lt ho b hb
  · exact repRLL_lt _ _ _ hr b hb

/-- only the frame's slots, or the count of draws, have changed -/
theorem Rel0.world {E : Env} {s : St} {a : Act} {w w2 : World} {χ : Nat → Option Nat} {hd : Nat → Value} (h : Rel0 E s a w χ hd) (hh : w2.heap = w.heap) (ho : w2.os = w.os) (ht : Tp w w2) (hu : w2.output = w.output) : Rel0 E s a w2 χ hd := by
  have hS : ∀ b, free χ w b → free χ w2 b := fun b hb => ⟨hb.1, by rw [hh]; exact hb.2⟩
  have hb : ∀ b : Nat, w2.heap[b]? = w.heap[b]? := fun b => by rw [hh]
  refine ⟨h.defers, h.size, ho.trans h.os, h.tape.trans ht, hu.trans h.output, by rw [hh]; exact h.hsz, fun k h1 h2 => (hb k).trans (h.frame k h1 h2), h.fx, h.jj, h.rj, h.jk, fun b r hr => by rw [hh]; exact h.col b r hr, ?_, ?_⟩
  · intro i R hR
    obtain ⟨h1, fp, h2, h3, h4⟩ := h.rts i R hR
    exact ⟨h1, fp, h2.mono hS (fun b _ => hb b) (fun b _ => hb b) (fun _ x => x) (fun _ _ _ x => x), h3, h4⟩
  · intro t
    exact repR_mono _ _ _ (h.slots t) hS (fun b _ => hb b) (fun b _ => hb b) (fun _ x => x) (fun _ _ _ x => x)

theorem getD_set_same (xs : Array Value) (d : Nat) (v : Value) (h : d < xs.size) : (xs.setIfInBounds d v).getD d undef = v := by
  simp [Array.getD_eq_getD_getElem?, h]
theorem getD_set_ne (xs : Array Value) {d t : Nat} (v : Value) (h : t ≠ d) : (xs.setIfInBounds d v).getD t undef = xs.getD t undef := by
  simp only [Array.getD_eq_getD_getElem?]
  rw [Array.getElem?_setIfInBounds_ne (by omega)]

theorem Rel0.put {E : Env} {s : St} {a : Act} {w : World} {χ : Nat → Option Nat} {hd : Nat → Value} (h : Rel0 E s a w χ hd) {d : Nat} (hd' : d < E.n) {r : AV} {v : Value} (hr : repR w (free χ w) (· ∈ s.us) (tab s hd) r v []) :
    Rel0 E (s.put d r) (a.put (some d) v) w χ hd := by
  refine ⟨h.defers, by simp [Act.put, h.size], h.os, h.tape, h.output, h.hsz, h.frame, h.fx, h.jj, h.rj, h.jk, h.col, h.rts, ?_⟩
  intro t
  by_cases ht : t = d
  · subst ht
    rw [St.get_put_same]
    show repR w _ _ _ r ((a.tmps.setIfInBounds t v).getD t undef) []
    rw [getD_set_same _ _ _ (by rw [h.size]; exact hd')]
    exact hr
  · rw [St.get_put_ne s ht]
    show repR w _ _ _ _ ((a.tmps.setIfInBounds d v).getD t undef) []
    rw [getD_set_ne _ _ ht]
    exact h.slots t

theorem repR_dead {w : World} {S U : Nat → Prop} {ρ : Tab} (v : Value) : repR w S U ρ .dead v [] := by simp only [repR, rep]
theorem repR_lit {w : World} {S U : Nat → Prop} {ρ : Tab} (v : Value) : repR w S U ρ (.lit v) v [] := by simp only [repR, rep]; exact ⟨trivial, .refl v⟩

/-- a new block, with a row in it that the call owns from now on -/
theorem Rel0.alloc {E : Env} {s : St} {a : Act} {w : World} {χ : Nat → Option Nat} {hd : Nat → Value} (h : Rel0 E s a w χ hd) {i : Nat} (hi : i ∉ s.us) {R : Root} {cs : Array Value} {n : Nat} (hz : 0 < R.sz) (hn : R.xs.length ≤ n) (hm : n ≤ maxLen)
    (hsz : cs.size = n * R.sz) (hr : repRLL w (free χ w) (· ∈ s.us) (tab s hd) R.sz R.xs (cs.toList.take (R.xs.length * R.sz)) []) :
    Rel0 E (s.add i R) a (w.alloc (.cells cs R.T)) (fun b => if b = w.heap.size then some i else χ b) (fun j => if j = i then .slice (some ⟨w.heap.size, 0, none⟩) R.xs.length n else hd j) := by
  have hold : ∀ b : Nat, b < w.heap.size → (w.alloc (.cells cs R.T)).heap[b]? = w.heap[b]? := fun b hb => heap_alloc_old w _ b hb
  have hS : ∀ b, free χ w b → free (fun b => if b = w.heap.size then some i else χ b) (w.alloc (.cells cs R.T)) b := by
    intro b hb
    have : b ≠ w.heap.size := by have := hb.2; omega
    exact ⟨by simp [this, hb.1], by have := hb.2; simp; omega⟩
  have hSh : ∀ b, free χ w b → (w.alloc (.cells cs R.T)).heap[b]? = w.heap[b]? := fun b hb => hold b hb.2
  have hU : ∀ j, j ∈ s.us → j ∈ (s.add i R).us := fun j hj => List.mem_cons_of_mem _ hj
  have hρ : ∀ j, j ∈ s.us → ∀ x, tab (s.add i R) (fun j => if j = i then .slice (some ⟨w.heap.size, 0, none⟩) R.xs.length n else hd j) j = some x → tab s hd j = some x := by
    intro j hj x hx
    have hne : j ≠ i := fun e => hi (e ▸ hj)
    simpa [tab, St.root_add_ne s hne, hne] using hx
  refine ⟨h.defers, h.size, h.os, h.tape, h.output, by have := h.hsz; simp; omega, fun k h1 h2 => (hold k (by have := h.hsz; omega)).trans (h.frame k h1 h2), fx_add h.fx hi, hU _ h.jj, by rw [St.root_add_ne s (by rintro rfl; exact hi h.jj)]; exact h.rj, fun b hb => by
    have h1 := h.jk b hb
    have h2 := (h.col b _ h1).2
    rw [if_neg (by omega)]; exact h1, ?_, ?_, ?_⟩
  · intro b r hr
    split at hr
    · rename_i hb
      subst hb
      exact ⟨fun _ => .inl h.hsz, by simp⟩
    · have := h.col b r hr
      exact ⟨this.1, by have := this.2; simp; omega⟩
  · intro j Q hQ
    by_cases hj : j = i
    · subst hj
      rw [St.root_add_same] at hQ
      cases hQ
      refine ⟨List.mem_cons_self, [w.heap.size], ⟨hz, cs.toList.take (R.xs.length * R.sz), [], ⟨?_, .inr ⟨w.heap.size, n, cs, by simp, Nat.zero_le _, heap_alloc_new w _, hn, hm, hsz, rfl⟩⟩, ?_, by simp [Value.ownBlock]⟩, by simp, by simp⟩
      · rw [List.length_take, Array.length_toList, hsz, Nat.min_eq_left]
        exact Nat.mul_le_mul_right _ hn
      · exact repRLL_mono hS hSh hU hρ _ _ _ hr (by simp)
    · rw [St.root_add_ne s hj] at hQ
      obtain ⟨h1, fp, h2, h3, h4⟩ := h.rts j Q hQ
      refine ⟨List.mem_cons_of_mem _ h1, fp, ?_, h3, ?_⟩
      · simp only [hj, if_false]
        exact h2.mono hS hSh (fun b hb => hold b (h2.lt b hb)) hU hρ
      · intro b hb
        have := h2.lt b hb
        have hne : b ≠ w.heap.size := by omega
        simp [hne, h4 b hb]
  · intro t
    exact repR_mono _ _ _ (h.slots t) hS hSh (by simp) hU hρ

/-- a root is given up: its blocks are free -/
theorem Rel0.kill {E : Env} {s : St} {a : Act} {w : World} {χ : Nat → Option Nat} {hd : Nat → Value} (h : Rel0 E s a w χ hd) (i : Nat) (hiJ : i ≠ JJ) : Rel0 E (s.kill i) a w (fun b => if χ b = some i then none else χ b) hd := by
  have hS : ∀ b, free χ w b → free (fun b => if χ b = some i then none else χ b) w b := fun b hb => ⟨by simp [hb.1], hb.2⟩
  have hρ : ∀ j, j ∈ s.us → ∀ x, tab (s.kill i) hd j = some x → tab s hd j = some x := by
    intro j _ x hx
    by_cases hj : j = i
    · subst hj; simp [tab, St.root_kill_same] at hx
    · simpa [tab, St.root_kill_ne s hj] using hx
  refine ⟨h.defers, h.size, h.os, h.tape, h.output, h.hsz, h.frame, h.fx, h.jj, by
    by_cases hj : JJ = i
    · rw [hj]; exact St.root_kill_same s i
    · rw [St.root_kill_ne s hj]; exact h.rj, fun b hb => by
    have h1 := h.jk b hb
    rw [if_neg (by rw [h1]; exact fun e => hiJ (by cases e; rfl))]; exact h1, ?_, ?_, ?_⟩
  · intro b r hr
    split at hr
    · cases hr
    · exact h.col b r hr
  · intro j Q hQ
    by_cases hj : j = i
    · subst hj; rw [St.root_kill_same] at hQ; cases hQ
    · rw [St.root_kill_ne s hj] at hQ
      obtain ⟨h1, fp, h2, h3, h4⟩ := h.rts j Q hQ
      refine ⟨h1, fp, h2.mono hS (fun _ _ => rfl) (fun _ _ => rfl) (fun _ x => x) hρ, h3, fun b hb => ?_⟩
      have := h4 b hb
      simp [this, hj]
  · intro t
    exact repR_mono _ _ _ (h.slots t) hS (fun _ _ => rfl) (by simp) (fun _ x => x) hρ

theorem sub_nodup {l1 l2 l3 : List Nat} (h : (l1 ++ l2 ++ l3).Nodup) : (l1 ++ l3).Nodup := by
  refine List.Nodup.sublist ?_ h
  rw [List.append_assoc]
  exact List.Sublist.append (List.Sublist.refl _) (List.sublist_append_right _ _)

/-- one cell of a root is written -/
theorem Rel0.store {E : Env} {s : St} {a : Act} {w : World} {χ : Nat → Option Nat} {hd : Nat → Value} (h : Rel0 E s a w χ hd) {i : Nat} {R : Root} (hR : s.root i = some R) {e o : Nat} {x : List AV} (he : R.xs[e]? = some x) (ho : o < x.length)
    {c : AV} {u : Value} (hc : repR w (free χ w) (· ∈ s.us) (tab s hd) c u []) (h1 : u.oneCell' = true) :
    ∃ b m cap, hd i = .slice (some ⟨b, 0, none⟩) m cap ∧ (∃ v0, w.cell? ⟨b, e * R.sz + o, none⟩ = some v0) ∧ w.frozen? ⟨b, e * R.sz + o, none⟩ = false ∧
      ∃ χ', Rel0 E (s.setR i ⟨R.T, R.sz, R.xs.set e (x.set o c)⟩) a (w.setCell ⟨b, e * R.sz + o, none⟩ u) χ' hd := by
  obtain ⟨hus, fp, ⟨hz, vs, fp', hown, hrep, rfl⟩, hnd, hcol⟩ := h.rts i R hR
  have helt : e < R.xs.length := (List.getElem?_eq_some_iff.1 he).1
  rcases hown.2 with ⟨_, hn⟩ | ⟨b, cap, cur, hhd, _, hheap, hnc, hcm, hcs, htake⟩
  · omega
  obtain ⟨v1, us, v2, f1, fe, f2, rfl, rfl, hl1, hlus, h1c, k1, kx, k2⟩ := repRLL_at hrep he
  obtain ⟨x1, u0, x2, g1, gc, g2, rfl, rfl, hlx, m1, mc, m2⟩ := repRL_at kx (List.getElem?_eq_getElem ho)
  have hpos : e * R.sz + o < R.xs.length * R.sz := by
    have hxl : x.length = R.sz := by
      have := repRL_length _ _ _ kx
      rw [hlus] at this; omega
    calc e * R.sz + o < e * R.sz + R.sz := by omega
      _ = (e + 1) * R.sz := by rw [Nat.add_mul, Nat.one_mul]
      _ ≤ R.xs.length * R.sz := Nat.mul_le_mul_right _ helt
  have hown' := hown
  rw [hhd] at hown'
  have hcell := hown'.cellAt (e * R.sz + o) hpos
  have hidx : (v1 ++ (x1 ++ u0 :: x2) ++ v2)[e * R.sz + o]? = some u0 := by
    rw [List.append_assoc, List.getElem?_append_right (by omega), show e * R.sz + o - v1.length = o by omega, List.append_assoc, List.getElem?_append_right (by omega), show o - x1.length = 0 by omega]
    rfl
  rw [hidx] at hcell
  obtain ⟨hst, hgr⟩ := hown'.stored (e * R.sz + o) u
  have hset : (v1 ++ (x1 ++ u0 :: x2) ++ v2).set (e * R.sz + o) u = v1 ++ (x1 ++ u :: x2) ++ v2 := by
    rw [List.append_assoc, List.set_append_right _ _ (by omega), show e * R.sz + o - v1.length = o by omega, List.append_assoc, List.set_append_right _ _ (by omega), show o - x1.length = 0 by omega]
    simp
  rw [hset] at hst
  have hij : i ≠ JJ := fun e => by rw [e, h.rj] at hR; cases hR
  refine ⟨b, R.xs.length, cap, hhd, ⟨u0, hcell⟩, hown'.frozenAt _, ?_⟩
  -- the blocks
  have hbi : χ b = some i := hcol b (by simp [hhd, Value.ownBlock])
  have hother : ∀ k : Nat, k ≠ b → (w.setCell ⟨b, e * R.sz + o, none⟩ u).heap[k]? = w.heap[k]? := fun k hk => heap_setCell_other w ⟨b, e * R.sz + o, none⟩ k u hk
  have hsize : (w.setCell ⟨b, e * R.sz + o, none⟩ u).heap.size = w.heap.size := by simp [World.setCell]
  have hblt : b < w.heap.size := (h.col b i hbi).2
  let fpn : List Nat := (hd i).ownBlock.toList ++ (f1 ++ (g1 ++ g2) ++ f2)
  let χ' : Nat → Option Nat := fun k => if χ k = some i then (if k ∈ fpn then some i else none) else χ k
  have hS : ∀ k, free χ w k → free χ' (w.setCell ⟨b, e * R.sz + o, none⟩ u) k := by
    intro k hk
    refine ⟨?_, by rw [hsize]; exact hk.2⟩
    simp [χ', hk.1]
  have hSh : ∀ k, free χ w k → (w.setCell ⟨b, e * R.sz + o, none⟩ u).heap[k]? = w.heap[k]? := fun k hk => hother k (fun e => by rw [e, free, hbi] at hk; simp at hk)
  have htab : tab (s.setR i ⟨R.T, R.sz, R.xs.set e (x.set o c)⟩) hd = tab s hd := by
    funext j
    by_cases hj : j = i
    · subst hj; simp [tab, St.root_setR_same, hR]
    · simp [tab, St.root_setR_ne s hj]
  have hρ : ∀ j, j ∈ s.us → ∀ y, tab (s.setR i ⟨R.T, R.sz, R.xs.set e (x.set o c)⟩) hd j = some y → tab s hd j = some y := fun j _ y hy => by rwa [htab] at hy
  -- the blocks of the root lie apart from its first one
  have hnb : ∀ k ∈ f1 ++ (g1 ++ gc ++ g2) ++ f2, k ≠ b := by
    intro k hk e
    subst e
    simp only [hhd, Value.ownBlock, Option.toList_some, List.singleton_append, List.nodup_cons] at hnd
    exact hnd.1 hk
  refine ⟨χ', ⟨h.defers, h.size, h.os, h.tape, h.output, by rw [hsize]; exact h.hsz, ?_, h.fx, h.jj, by rw [St.root_setR_ne s (Ne.symm hij)]; exact h.rj, fun k hk => by
    have h1 := h.jk k hk
    show (if χ k = some i then _ else _) = _
    rw [if_neg (by rw [h1]; exact fun e => hij (by cases e; rfl))]; exact h1, ?_, ?_, ?_⟩⟩
  · intro k hk1 hk2
    refine (hother k (fun e => ?_)).trans (h.frame k hk1 hk2)
    subst e
    rcases (h.col k i hbi).1 hij with hh | hh
    · omega
    · exact hk2 hh
  · intro k r hr
    rw [hsize]
    have : χ k = some r := by
      simp only [χ'] at hr
      split at hr
      · rename_i hh
        split at hr
        · cases hr; exact hh
        · cases hr
      · exact hr
    exact h.col k r this
  · intro j Q hQ
    by_cases hj : j = i
    · subst hj
      rw [St.root_setR_same] at hQ
      cases hQ
      refine ⟨hus, fpn, ⟨hz, v1 ++ (x1 ++ u :: x2) ++ v2, f1 ++ (g1 ++ g2) ++ f2, by rw [List.length_set, hhd]; exact hst, ?_, rfl⟩, ?_, ?_⟩
      · have hnbm : ∀ k ∈ f1 ++ (g1 ++ gc ++ g2) ++ f2, (w.setCell ⟨b, e * R.sz + o, none⟩ u).heap[k]? = w.heap[k]? := fun k hk => hother k (hnb k hk)
        have hc' := repR_mono (w2 := w.setCell ⟨b, e * R.sz + o, none⟩ u) (S2 := free χ' (w.setCell ⟨b, e * R.sz + o, none⟩ u)) (U2 := (· ∈ s.us)) (ρ2 := tab (s.setR j ⟨R.T, R.sz, R.xs.set e (x.set o c)⟩) hd) c u [] hc hS hSh (by simp) (fun _ y => y) hρ
        have m1' := repRL_mono (w2 := w.setCell ⟨b, e * R.sz + o, none⟩ u) (S2 := free χ' (w.setCell ⟨b, e * R.sz + o, none⟩ u)) (U2 := (· ∈ s.us)) (ρ2 := tab (s.setR j ⟨R.T, R.sz, R.xs.set e (x.set o c)⟩) hd) _ _ _ m1 hS hSh (fun k hk => hnbm k (by simp [hk])) (fun _ y => y) hρ
        have m2' := repRL_mono (w2 := w.setCell ⟨b, e * R.sz + o, none⟩ u) (S2 := free χ' (w.setCell ⟨b, e * R.sz + o, none⟩ u)) (U2 := (· ∈ s.us)) (ρ2 := tab (s.setR j ⟨R.T, R.sz, R.xs.set e (x.set o c)⟩) hd) _ _ _ m2 hS hSh (fun k hk => hnbm k (by simp [hk])) (fun _ y => y) hρ
        have k1' := repRLL_mono (w2 := w.setCell ⟨b, e * R.sz + o, none⟩ u) (S2 := free χ' (w.setCell ⟨b, e * R.sz + o, none⟩ u)) (U2 := (· ∈ s.us)) (ρ2 := tab (s.setR j ⟨R.T, R.sz, R.xs.set e (x.set o c)⟩) hd) hS hSh (fun _ y => y) hρ _ _ _ k1 (fun k hk => hnbm k (by simp [hk]))
        have k2' := repRLL_mono (w2 := w.setCell ⟨b, e * R.sz + o, none⟩ u) (S2 := free χ' (w.setCell ⟨b, e * R.sz + o, none⟩ u)) (U2 := (· ∈ s.us)) (ρ2 := tab (s.setR j ⟨R.T, R.sz, R.xs.set e (x.set o c)⟩) hd) hS hSh (fun _ y => y) hρ _ _ _ k2 (fun k hk => hnbm k (by simp [hk]))
        have hrow := repRL_set ho m1' hc' m2'
        rw [show g1 ++ [] ++ g2 = g1 ++ g2 by simp] at hrow
        refine repRLL_set helt k1' ?_ ?_ hrow k2'
        · simpa using hlus
        · intro y hy
          rcases List.mem_append.1 hy with hy | hy
          · exact h1c y (by simp [hy])
          · rcases List.mem_cons.1 hy with rfl | hy
            · exact h1
            · exact h1c y (by simp [hy])
      · have hh : ((hd j).ownBlock.toList ++ f1 ++ g1 ++ gc ++ (g2 ++ f2)).Nodup := by simpa [List.append_assoc] using hnd
        have := sub_nodup hh
        simpa [fpn, List.append_assoc] using this
      · intro k hk
        have hk0 : χ k = some j := by
          refine hcol k ?_
          simp only [fpn, List.mem_append] at hk ⊢
          rcases hk with hk | (hk | hk | hk) | hk
          · exact .inl hk
          · exact .inr (.inl (.inl hk))
          · exact .inr (.inl (.inr (.inl (.inl hk))))
          · exact .inr (.inl (.inr (.inr hk)))
          · exact .inr (.inr hk)
        simp [χ', hk0, hk]
    · rw [St.root_setR_ne s hj] at hQ
      obtain ⟨q1, fq, q2, q3, q4⟩ := h.rts j Q hQ
      have hne : ∀ k ∈ fq, k ≠ b := fun k hk e => by
        have := q4 k hk
        rw [e, hbi] at this
        exact hj (by cases this; rfl)
      refine ⟨q1, fq, q2.mono hS hSh (fun k hk => hother k (hne k hk)) (fun _ y => y) hρ, q3, fun k hk => ?_⟩
      have := q4 k hk
      simp [χ', this, hj]
  · intro t
    exact repR_mono _ _ _ (h.slots t) hS hSh (by simp) (fun _ y => y) hρ
end Go.T
