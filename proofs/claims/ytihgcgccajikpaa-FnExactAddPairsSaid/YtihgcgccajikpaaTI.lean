/- Lemmas for FnExactAddPairs; no condition. -/

import Derived.Test.YtihgcgccajikpaaTH
set_option linter.unusedVariables false
namespace Go.T
open Go Go.RowKit

def OpTo (E : Env) (o : Oper) (s s' : St) : Prop := ∀ a w, Rel E s a w → ∀ (K : Act → World → Prop) (Q : Exit → Act → World → Prop), (∀ a' w', Rel E s' a' w' → K a' w') → o.wp E.P a w K Q

def St.putO (s : St) : Option Nat → AV → St
  | some d, v => s.put d v
  | none, _ => s
def okD (n : Nat) : Option Nat → Bool
  | some d => decide (d < n)
  | none => true
theorem Rel0.putO {E : Env} {s : St} {a : Act} {w : World} {χ : Nat → Option Nat} {hd : Nat → Value} (h : Rel0 E s a w χ hd) {d : Option Nat} (hd' : okD E.n d = true) {r : AV} {v : Value} (hr : repR w (free χ w) (· ∈ s.us) (tab s hd) r v []) :
    Rel0 E (s.putO d r) (a.put d v) w χ hd := by
  cases d with
  | none => exact h
  | some d => exact h.put (by simpa [okD] using hd') hr

theorem upon_val {P : Program} {o : Oper} {a : Act} {w w' : World} {v : Value} {K : Act → World → Prop} {Q : Exit → Act → World → Prop} (h : (execOp a.eval o).run P w = .ok (.value v) w') (hk : K (a.put o.dst v) w') : o.wp P a w K Q := by
  unfold Oper.wp
  rw [h]
  exact hk

theorem opTo_val {E : Env} {Θ : Tys} (hΘ : TOK E.P Θ) {o : Oper} {s : St} {r : AV} (hd : okD E.n o.dst = true) (he : evVal Θ s o.op = some r) : OpTo E o s (s.putO o.dst r) := by
  rintro a w ⟨χ, hd', h⟩ K Q hk
  obtain ⟨v, hr, hv⟩ := evVal_sound hΘ h he
  exact upon_val hr (hk _ _ ⟨χ, hd', h.putO hd hv⟩)

/- ------------------------------------------------ new memory -/
def chunks (sz : Nat) : Nat → List AV → List (List AV)
  | 0, _ => []
  | n + 1, cs => cs.take sz :: chunks sz n (cs.drop sz)
theorem chunks_length (sz : Nat) : ∀ n cs, (chunks sz n cs).length = n
  | 0, _ => rfl
  | n + 1, cs => by simp [chunks, chunks_length sz n]
theorem repRLL_chunks {w : World} {S U : Nat → Prop} {ρ : Tab} {sz : Nat} : ∀ (n : Nat) (cs : List AV) (vs : List Value), cs.length = n * sz → repRL w S U ρ cs vs [] → (∀ u ∈ vs, u.oneCell' = true) → repRLL w S U ρ sz (chunks sz n cs) vs []
  | 0, cs, vs, hl, hr, _ => by
    have : cs = [] := List.eq_nil_of_length_eq_zero (by simpa using hl)
    subst this
    simp only [repRL] at hr
    simp only [chunks, repRLL]
    exact hr
  | n + 1, cs, vs, hl, hr, h1 => by
    have hlv := repRL_length _ _ _ hr
    obtain ⟨h2, h3⟩ := repRL_cut hr sz
    simp only [chunks, repRLL]
    rw [Nat.add_mul, Nat.one_mul] at hl
    refine ⟨vs.take sz, vs.drop sz, [], [], by rw [List.take_append_drop], rfl, by rw [List.length_take]; omega, fun u hu => h1 u (List.mem_of_mem_take hu), h2, ?_⟩
    exact repRLL_chunks n _ _ (by rw [List.length_drop]; omega) h3 (fun u hu => h1 u (List.mem_of_mem_drop hu))

theorem repRLL_rep {w : World} {S U : Nat → Prop} {ρ : Tab} {z : List Value} (hz : 0 < z.length) (h1 : ∀ u ∈ z, u.oneCell' = true) : ∀ (n : Nat) (L : List Value), L.length = n * z.length → (∀ k, k < n * z.length → L[k]? = z[k % z.length]?) → repRLL w S U ρ z.length (List.replicate n (litL z)) L []
  | 0, L, hl, _ => by
    have : L = [] := List.eq_nil_of_length_eq_zero (by simpa using hl)
    subst this
    simp only [List.replicate_zero, repRLL]
    exact ⟨trivial, trivial⟩
  | n + 1, L, hl, hk => by
    rw [Nat.add_mul, Nat.one_mul] at hl
    have e : L.take z.length = z := by
      apply List.ext_getElem?
      intro i
      rw [List.getElem?_take]
      split
      · rename_i hi
        rw [hk i (by rw [Nat.add_mul, Nat.one_mul]; omega), Nat.mod_eq_of_lt hi]
      · rw [List.getElem?_eq_none (by omega)]
    simp only [List.replicate_succ, repRLL]
    refine ⟨z, L.drop z.length, [], [], by conv => lhs; rw [← List.take_append_drop z.length L, e], rfl, rfl, h1, repRL_lits z, ?_⟩
    refine repRLL_rep hz h1 n _ (by rw [List.length_drop]; omega) (fun k hkk => ?_)
    rw [List.getElem?_drop, hk _ (by rw [Nat.add_mul, Nat.one_mul]; omega), Nat.add_mod_left]

theorem madeCells_at (z : Array Value) (m : Nat) (hz : 0 < z.size) (k : Nat) (hk : k < m) : (madeCells z m).toList[k]? = z.toList[k % z.toList.length]? := by
  have h1 : k % z.size < z.size := Nat.mod_lt _ hz
  simp only [madeCells, Array.toList_map, List.getElem?_map, Array.length_toList]
  simp [hk, h1]

def zOK (ti : TI) : Bool := decide (0 < ti.sz) && decide (ti.zero.length = ti.sz) && ti.zero.all (fun v => v.oneCell' && nf v)
theorem zOK_iff {ti : TI} (h : zOK ti = true) : 0 < ti.sz ∧ ti.zero.length = ti.sz ∧ ∀ u ∈ ti.zero, u.oneCell' = true := by
  simp only [zOK, Bool.and_eq_true, decide_eq_true_eq, List.all_eq_true] at h
  exact ⟨h.1.1, h.1.2, fun u hu => (h.2 u hu).1⟩
theorem zOK_nf {ti : TI} (h : zOK ti = true) : ∀ u ∈ ti.zero, nf u = true := by
  simp only [zOK, Bool.and_eq_true, decide_eq_true_eq, List.all_eq_true] at h
  exact fun u hu => (h.2 u hu).2

def evNew (Θ : Tys) (s : St) (op : Op) (id : Nat) : Option (Root × AV) :=
  match op with
  | .alloc t => match Θ.lookup t with
    | some ti => if zOK ti then some (⟨t, ti.sz, [litL ti.zero]⟩, .ptr id 0 0) else none
    | none => none
  | .box t x => if (cellsOf (opnd s x)).all (okCell s) then (if 0 < (cellsOf (opnd s x)).length then some (⟨t, (cellsOf (opnd s x)).length, [cellsOf (opnd s x)]⟩, .ptr id 0 0) else none) else none
  | .makeSlice t l c => match Θ.lookup t, opnd s l, opnd s c with
    | some ⟨_, _, .slice el, _⟩, .lit (.int _ n), .lit (.int _ m) => match Θ.lookup el with
      | some te => if zOK te then (if n = m then (if 0 ≤ n then (if n * te.bytes ≤ 140737488355328 then (if n ≤ 140737488355328 then some (⟨el, te.sz, List.replicate n.toNat (litL te.zero)⟩, .sl id 0 n.toNat) else none) else none) else none) else none) else none
      | none => none
    | _, _, _ => none
  | .buildSlice t n ps => match Θ.lookup t with
    | some ⟨_, _, .slice el, _⟩ => match Θ.lookup el with
      | some te => if zOK te then (if n * te.sz ≤ 16777216 then (match evFill s (fun i => some (i * te.sz, te.sz)) (litL (List.replicate n te.zero).flatten) (evParts s ps) with
          | some cs => if cs.all (okCell s) then (if cs.length = n * te.sz then some (⟨el, te.sz, chunks te.sz n cs⟩, .sl id 0 n) else none) else none
          | none => none) else none) else none
      | none => none
    | _ => none
  | _ => none

theorem slNew {s : St} {id n : Nat} {R : Root} {hd : Nat → Value} {w : World} {S U : Nat → Prop} {b cap : Nat} (hU : U id) (hn : n = R.xs.length) (hc : n ≤ cap) : repR w S U (tab (s.add id R) (fun j => if j = id then .slice (some ⟨b, 0, none⟩) R.xs.length cap else hd j)) (.sl id 0 n) (.slice (some ⟨b, 0, none⟩) n cap) [] := by
  simp only [repR]
  refine ⟨trivial, hU, ?_⟩
  intro h' n' sz hh
  simp [tab, St.root_add_same] at hh
  obtain ⟨rfl, rfl, rfl⟩ := hh
  subst hn
  exact ⟨by omega, ⟨_, _, rfl, hc, fun _ => ⟨_, rfl⟩, fun _ => ⟨b, _, _, rfl, by simp⟩⟩, (by show R.xs.length ≤ 0 + cap; omega)⟩
theorem ptrNew {s : St} {id : Nat} {R : Root} {hd : Nat → Value} {w : World} {S U : Nat → Prop} {b n cap : Nat} (hU : U id) (hn : 0 < R.xs.length) : repR w S U (tab (s.add id R) (fun j => if j = id then .slice (some ⟨b, 0, none⟩) n cap else hd j)) (.ptr id 0 0) (.pointer (some ⟨b, 0, none⟩)) [] := by
  simp only [repR]
  refine ⟨trivial, hU, ?_⟩
  intro h' n' sz hh
  simp [tab, St.root_add_same] at hh
  obtain ⟨rfl, rfl, rfl⟩ := hh
  exact ⟨hn, b, _, _, rfl, by simp⟩

theorem opTo_new {E : Env} {Θ : Tys} (hΘ : TOK E.P Θ) {o : Oper} {s : St} {R : Root} {r : AV} (id : Nat) (hid : id ∉ s.us) (hd : okD E.n o.dst = true) (he : evNew Θ s o.op id = some (R, r)) : OpTo E o s ((s.add id R).putO o.dst r) := by
  rintro a w ⟨χ, hd', h⟩ K Q hk
  obtain ⟨dst, op, type, pos, after, guard⟩ := o
  simp only at he hd hk
  have hus : id ∈ (s.add id R).us := List.mem_cons_self
  unfold evNew at he
  split at he
  · rename_i t
    split at he
    case h_2 => cases he
    rename_i ti hti
    split at he
    case isFalse => cases he
    rename_i hz
    cases he
    obtain ⟨z0, z1, z2⟩ := zOK_iff hz
    obtain ⟨z, hzr, hzc⟩ := run_zeroValue (P := E.P) (w := w) (hΘ.get hti)
    have hsz : z.cells.size = ti.sz := by rw [← Array.length_toList, hzc, z1]
    have hrel := h.alloc hid (R := ⟨t, ti.sz, [litL ti.zero]⟩) (cs := z.cells) (n := 1) z0 (by simp) (by simp [maxLen]) (by simp [hsz]) (by
      have : z.cells.toList.take (([litL ti.zero] : List (List AV)).length * ti.sz) = ti.zero := by rw [hzc]; exact List.take_of_length_le (by simp [z1])
      rw [this]
      have hz' := repRLL_rep (w := w) (S := free χ w) (U := (· ∈ s.us)) (ρ := tab s hd') (z := ti.zero) (by omega) z2 1 ti.zero (by simp) (fun k hk => by rw [Nat.one_mul] at hk; rw [Nat.mod_eq_of_lt hk])
      rw [z1] at hz'
      exact hz')
    refine upon_val (v := .pointer (some ⟨w.heap.size, 0, none⟩)) (w' := w.alloc (.cells z.cells t)) ?_ (hk _ _ ⟨_, _, hrel.putO hd (ptrNew hus (by simp))⟩)
    simp only [execOp, Instr.alloc, Sem.run_bind, hzr, Result.andThen_ok]
    rfl
  · rename_i t x
    split at he
    case isFalse => cases he
    rename_i hok
    split at he
    case isFalse => cases he
    rename_i hpos
    cases he
    have hc := cellsOf_rep (opnd_rep h x) hok
    have hl := repRL_length _ _ _ hc
    have h1c := okCells_one _ _ _ hc hok
    have hrel := h.alloc hid (R := ⟨t, (cellsOf (opnd s x)).length, [cellsOf (opnd s x)]⟩) (cs := (a.eval x).cells) (n := 1) hpos (by simp) (by simp [maxLen]) (by simp [← hl]) (by
      have : (a.eval x).cells.toList.take (([cellsOf (opnd s x)] : List (List AV)).length * (cellsOf (opnd s x)).length) = (a.eval x).cells.toList := List.take_of_length_le (by simp [← hl])
      rw [this]
      simp only [repRLL]
      exact ⟨_, [], [], [], by simp, rfl, hl, h1c, hc, rfl, rfl⟩)
    refine upon_val (v := .pointer (some ⟨w.heap.size, 0, none⟩)) (w' := w.alloc (.cells (a.eval x).cells t)) ?_ (hk _ _ ⟨_, _, hrel.putO hd (ptrNew hus (by simp))⟩)
    simp only [execOp, Instr.box, Sem.run_bind]
    rfl
  · rename_i t l c
    split at he
    case h_2 => cases he
    rename_i sz_ by_ el ze k1 n k2 m hti hl hc
    split at he
    case h_2 => cases he
    rename_i te hte
    split at he
    case isFalse => cases he
    rename_i hz
    split at he
    case isFalse => cases he
    rename_i hnm
    subst hnm
    split at he
    case isFalse => cases he
    rename_i h0
    split at he
    case isFalse => cases he
    rename_i hb
    split at he
    case isFalse => cases he
    rename_i hb2
    cases he
    obtain ⟨z0, z1, z2⟩ := zOK_iff hz
    obtain ⟨i, z, hi, his, hib, hiz, hzc⟩ := tiOf_info (hΘ.get hte)
    have hxl := lit_inv (hl ▸ opnd_rep h l)
    have hxc := lit_inv (hc ▸ opnd_rep h c)
    have hsz : z.cells.size = te.sz := by rw [← Array.length_toList, hzc, z1]
    have hrun := run_make (P := E.P) w t el i z (tiOf_und (hΘ.get hti)) hi hiz k1 k2 n n h0 (Int.le_refl _) (by rw [hib]; rw [Int.mul_comm]; omega) (by omega)
    rw [his] at hrun
    have hrel := h.alloc hid (R := ⟨el, te.sz, List.replicate n.toNat (litL te.zero)⟩) (cs := madeCells z.cells (n.toNat * te.sz)) (n := n.toNat) z0 (by simp) (by simp [maxLen]; omega) (size_madeCells _ _) (by
      have : (madeCells z.cells (n.toNat * te.sz)).toList.take ((List.replicate n.toNat (litL te.zero)).length * te.sz) = (madeCells z.cells (n.toNat * te.sz)).toList := List.take_of_length_le (by rw [Array.length_toList, size_madeCells]; simp)
      rw [this]
      have := repRLL_rep (w := w) (S := free χ w) (U := (· ∈ s.us)) (ρ := tab s hd') (z := te.zero) (by omega) z2 n.toNat (madeCells z.cells (n.toNat * te.sz)).toList (by rw [Array.length_toList, size_madeCells, z1]) (fun k hk => by
        rw [z1] at hk
        rw [madeCells_at _ _ (by omega) _ hk, hzc])
      rwa [z1] at this)
    refine upon_val (v := .slice (some ⟨w.heap.size, 0, none⟩) n.toNat n.toNat) (w' := w.alloc (.cells (madeCells z.cells (n.toNat * te.sz)) el)) ?_ (hk _ _ ⟨_, _, hrel.putO hd (by
      simp only [List.length_replicate]
      have := slNew (s := s) (id := id) (n := n.toNat) (R := ⟨el, te.sz, List.replicate n.toNat (litL te.zero)⟩) (hd := hd') (w := w.alloc (.cells (madeCells z.cells (n.toNat * te.sz)) el)) (S := free (fun b => if b = w.heap.size then some id else χ b) (w.alloc (.cells (madeCells z.cells (n.toNat * te.sz)) el))) (U := (· ∈ (s.add id ⟨el, te.sz, List.replicate n.toNat (litL te.zero)⟩).us)) (b := w.heap.size) (cap := n.toNat) hus (by simp) (Nat.le_refl _)
      simpa only [List.length_replicate] using this)⟩)
    simp only [execOp, hxl, hxc, Sem.run_bind, hrun, Result.andThen_ok, Sem.run_pure]
  · rename_i t n ps
    split at he
    case h_2 => cases he
    rename_i sz_ by_ el ze hti
    split at he
    case h_2 => cases he
    rename_i te hte
    split at he
    case isFalse => cases he
    rename_i hz
    split at he
    case isFalse => cases he
    rename_i hb
    split at he
    case h_2 => cases he
    rename_i cs hcs
    split at he
    case isFalse => cases he
    rename_i hok
    split at he
    case isFalse => cases he
    rename_i hlen
    cases he
    obtain ⟨z0, z1, z2⟩ := zOK_iff hz
    obtain ⟨z, hzr, hzc⟩ := run_zeroValue (P := E.P) (w := w) (hΘ.get hte)
    have hsz : z.cells.size = te.sz := by rw [← Array.length_toList, hzc, z1]
    have hflat : (madeCells z.cells (n * te.sz)).toList = (List.replicate n te.zero).flatten := by
      apply List.ext_getElem?
      intro k
      by_cases hkk : k < n * te.sz
      · rw [madeCells_at _ _ (by omega) _ hkk, hzc, z1]
        have : ∀ (n k : Nat), k < n * te.sz → (List.replicate n te.zero).flatten[k]? = te.zero[k % te.sz]? := by
          intro n
          induction n with
          | zero => intro k hk; simp at hk
          | succ n ih =>
            intro k hk
            rw [List.replicate_succ, List.flatten_cons]
            by_cases hkz : k < te.sz
            · rw [List.getElem?_append_left (by omega), Nat.mod_eq_of_lt hkz]
            · rw [List.getElem?_append_right (by omega), z1, ih _ (by rw [Nat.add_mul, Nat.one_mul] at hk; omega)]
              conv => rhs; rw [show k = te.sz + (k - te.sz) by omega, Nat.add_mod_left]
        rw [this n k hkk]
      · rw [List.getElem?_eq_none (by rw [Array.length_toList, size_madeCells]; omega), List.getElem?_eq_none (by simp [z1]; omega)]
    obtain ⟨arr, hf, hr⟩ := fill_sound (w := w) (S := free χ w) (U := (· ∈ s.us)) (hd := hd') _ _ _ (madeCells z.cells (n * te.sz)) cs (evParts_rep h ps) (by rw [hflat]; exact repRL_lits _) hcs
    have hal := repRL_length _ _ _ hr
    rw [Array.length_toList] at hal
    have hrel := h.alloc hid (R := ⟨el, te.sz, chunks te.sz n cs⟩) (cs := arr) (n := n) z0 (by simp [chunks_length]) (by simp [maxLen]; have := Nat.le_mul_of_pos_right n z0; omega) (by show arr.size = n * te.sz; omega) (by
      have : arr.toList.take ((chunks te.sz n cs).length * te.sz) = arr.toList := List.take_of_length_le (by rw [Array.length_toList, chunks_length]; omega)
      rw [this]
      exact repRLL_chunks n cs _ hlen hr (okCells_one _ _ _ hr hok))
    refine upon_val (v := .slice (some ⟨w.heap.size, 0, none⟩) n n) (w' := w.alloc (.cells arr el)) ?_ (hk _ _ ⟨_, _, hrel.putO hd (by
      have := slNew (s := s) (id := id) (n := n) (R := ⟨el, te.sz, chunks te.sz n cs⟩) (hd := hd') (w := w.alloc (.cells arr el)) (S := free (fun b => if b = w.heap.size then some id else χ b) (w.alloc (.cells arr el))) (U := (· ∈ (s.add id ⟨el, te.sz, chunks te.sz n cs⟩).us)) (b := w.heap.size) (cap := n) hus (by simp [chunks_length]) (Nat.le_refl _)
      simpa only [chunks_length] using this)⟩)
    have hu := run_underlying (P := E.P) (w := w) (tiOf_und (hΘ.get hti))
    have hmade : (Array.range (n * te.sz)).map (fun x => z.cells[x % z.cells.size]!) = madeCells z.cells (n * te.sz) := rfl
    simp only [execOp, Instr.buildSlice, Sem.run_bind, hu, Result.andThen_ok, run_sizeOf (hΘ.get hte)]
    have hnb : ¬ (n * te.sz > 2 ^ 24) := by omega
    rw [if_neg hnb]
    by_cases hn0 : n * te.sz = 0
    · have hn1 : n = 0 := by
        rcases Nat.mul_eq_zero.1 hn0 with h | h
        · exact h
        · omega
      subst hn1
      simp only [Nat.zero_mul, if_true, Sem.run_bind, Sem.run_pure, Result.andThen_ok]
      have e0 : madeCells z.cells (0 * te.sz) = (Array.range 0).map (fun x => (#[] : Array Value)[x % (#[] : Array Value).size]!) := by simp [madeCells]
      rw [e0] at hf
      rw [hf]
      rfl
    · simp only [hn0, if_false, Sem.run_bind, hzr, Result.andThen_ok, Sem.run_pure, hmade, hf]
      rfl
  · cases he
end Go.T
