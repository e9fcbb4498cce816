/- Lemmas for FnExactAddPairs; no condition. -/

import Derived.Test.YtihgcgccajikpaaSC
import Derived.Test.YtihgcgccajikpaaTT
set_option linter.unusedVariables false
namespace Go.T
open Go Go.RowKit Go.Proofs Go.Shelf Go.Sort

/- ------------------------------------------------ a row of flat structs, sorted by a function -/
section
variable {α : Type}
theorem len_flatten {enc : α → List Value} {k : Nat} (hk : ∀ x, (enc x).length = k) : ∀ zs : List α, (zs.map enc).flatten.length = zs.length * k
  | [] => by simp
  | z :: zs => by
    have := len_flatten hk zs
    rw [List.map_cons, List.flatten_cons, List.length_append, this, hk, List.length_cons, Nat.add_mul, Nat.one_mul, Nat.add_comm]
theorem get_flatten [Inhabited α] {enc : α → List Value} {k : Nat} (hk : ∀ x, (enc x).length = k) : ∀ (zs : List α) (t : Nat), t < zs.length * k → (zs.map enc).flatten[t]? = some ((enc zs[t / k]!)[t % k]!)
  | [], t, h => by simp at h
  | z :: zs, t, h => by
    have hk0 : 0 < k := by
      rcases Nat.eq_zero_or_pos k with h0 | h0
      · subst h0; simp at h
      · exact h0
    rw [List.map_cons, List.flatten_cons]
    by_cases ht : t < k
    · rw [List.getElem?_append_left (by rw [hk]; exact ht), Nat.div_eq_of_lt ht, Nat.mod_eq_of_lt ht]
      have : t < (enc z).length := by rw [hk]; exact ht
      simp [this]
    · rw [List.getElem?_append_right (by rw [hk]; omega), hk]
      have h2 : t - k < zs.length * k := by
        rw [List.length_cons, Nat.add_mul, Nat.one_mul] at h
        omega
      rw [get_flatten hk zs (t - k) h2]
      have e1 : t / k = (t - k) / k + 1 := by
        conv => lhs; rw [show t = (t - k) + k by omega]
        rw [Nat.add_div_right _ hk0]
      have e2 : t % k = (t - k) % k := by
        conv => lhs; rw [show t = (t - k) + k by omega]
        rw [Nat.add_mod_right]
      rw [e1, e2]
      simp
theorem flatK_list [Inhabited α] {enc : α → List Value} {k : Nat} (hk : ∀ x, (enc x).length = k) (zs : List α) : (flatK enc k zs.toArray).toList = (zs.map enc).flatten := by
  apply List.ext_getElem?
  intro t
  by_cases h : t < zs.length * k
  · rw [get_flatten hk zs t h]; simp [flatK, h]
  · rw [List.getElem?_eq_none (by simp [flatK]; omega), List.getElem?_eq_none (by rw [len_flatten hk]; omega)]
theorem repL_litsE {w : World} {S : Nat → Prop} : ∀ (ls vs : List Value) (f : List Nat), (∀ v ∈ ls, nf v = true) → repL w S (litL ls) vs f → vs = ls ∧ f = []
  | [], vs, f, _, h => by simpa [litL, repL] using h
  | l :: ls, vs, f, hn, h => by
    simp only [litL, List.map_cons, repL] at h
    obtain ⟨u, us, f1, f2, rfl, rfl, h1, h2⟩ := h
    simp only [rep] at h1
    obtain ⟨rfl, rfl⟩ := repL_litsE ls us f2 (fun v hv => hn v (List.mem_cons_of_mem _ hv)) h2
    exact ⟨by rw [h1.2.eq (hn l List.mem_cons_self)], by rw [h1.1]; rfl⟩
theorem repLL_litsE {w : World} {S : Nat → Prop} {k : Nat} {enc : α → List Value} (hn : ∀ x, ∀ v ∈ enc x, nf v = true) : ∀ (zs : List α) (vs : List Value) (f : List Nat), repLL w S k (zs.map fun x => litL (enc x)) vs f → vs = (zs.map enc).flatten ∧ f = []
  | [], vs, f, h => by simpa [repLL] using h
  | z :: zs, vs, f, h => by
    simp only [List.map_cons, repLL] at h
    obtain ⟨us, us', f1, f2, rfl, rfl, _, _, h1, h2⟩ := h
    obtain ⟨rfl, rfl⟩ := repL_litsE _ _ _ (hn z) h1
    obtain ⟨rfl, rfl⟩ := repLL_litsE hn zs _ _ h2
    exact ⟨by simp, rfl⟩
theorem repLL_litsM {w : World} {S : Nat → Prop} {k : Nat} {enc : α → List Value} (hk : ∀ x, (enc x).length = k) (h1 : ∀ x, ∀ v ∈ enc x, v.oneCell' = true) (zs : List α) : repLL w S k (zs.map fun x => litL (enc x)) (zs.map enc).flatten [] := by
  have := repLL_lits (w := w) (S := S) (sz := k) (zs.map enc) (fun r hr => by obtain ⟨x, _, rfl⟩ := List.mem_map.1 hr; exact hk x) (fun r hr => by obtain ⟨x, _, rfl⟩ := List.mem_map.1 hr; exact h1 x)
  rwa [List.map_map] at this
theorem holds_of_blockV {w : World} {g : Nat} {cur : Array Value} {e : TypeId} {F : Array Value} (hb : w.heap[g]? = some (.cells cur e (0, 0))) (ht : cur.toList.take F.size = F.toList) : Holds id w g 0 F := by
  intro j hj
  refine ⟨?_, by simp [World.frozen?, hb]⟩
  have h1 : (cur.toList.take F.size)[j]? = F.toList[j]? := by rw [ht]
  rw [List.getElem?_take_of_lt hj] at h1
  simp only [World.cell?, hb, Nat.zero_add]
  simp only [Option.isSome_none, Bool.false_eq_true, if_false]
  rw [← Array.getElem?_toList, h1]
  simp [hj]
theorem heap_sortedV {w : World} {g n : Nat} {os : Array Obj} {cur : Array Value} {e : TypeId} {fr : Nat × Nat} (F : Array Value) (hb : w.heap[g]? = some (.cells cur e fr)) :
    (Go.Sort.grow (putRow id (Sort.ahead w n) g 0 F) os).heap[g]? = some (.cells (putCells id 0 F cur) e fr) := by
  have hg : g < w.heap.size := (Array.getElem?_eq_some_iff.1 hb).1
  rw [heap_grow_old _ _ (by simpa using hg)]
  simp [putRow, mapBlock, Sort.ahead, Array.getElem?_modify, hb, onCells]
theorem grownBy_sortedV {w : World} {g n : Nat} {os : Array Obj} (F : Array Value) : w.grownBy (Go.Sort.grow (putRow id (Sort.ahead w n) g 0 F) os) (some g) := by
  refine ⟨rfl, rfl, rfl, by simp, fun k hk hne => ?_⟩
  rw [heap_grow_old _ _ (by simpa using hk)]
  have : g ≠ k := fun e => hne (by rw [e])
  simp [putRow, mapBlock, Sort.ahead, Array.getElem?_modify, this]
theorem take_putCellsV (cur F : Array Value) (h : F.size ≤ cur.size) : (putCells id 0 F cur).toList.take F.size = F.toList := by
  apply List.ext_getElem?
  intro j
  by_cases hj : j < F.size
  · rw [List.getElem?_take_of_lt hj, Array.getElem?_toList]
    simp [putCells, hj, show j < cur.size by omega]
  · rw [List.getElem?_take_eq_none (by omega), List.getElem?_eq_none (by simp; omega)]

noncomputable def cfO (f : α → α → Option Int) (x y : α) : Int := (f x y).getD 0
/-- what the sort asks of the function that orders: it tells of any two; 'less' is an order, and two of which neither is less are one -/
def OrdO (f : α → α → Option Int) : Prop := (∀ x y, (f x y).isSome = true) ∧ SWO (ltOf (cfO f)) ∧ ∀ x y, ltOf (cfO f) x y = false → ltOf (cfO f) y x = false → x = y
open Classical in
noncomputable def srtK (f : α → α → Option Int) (p : List α) : Option (Unit × List α) :=
  if p.length < 4611686018427387904 ∧ OrdO f then some ((), p.mergeSort fun x y => !(ltOf (cfO f)) y x) else none
theorem srtKE {f : α → α → Option Int} {p : List α} {r : Unit × List α} (h : srtK f p = some r) : (p.length < 4611686018427387904 ∧ OrdO f) ∧ r = ((), p.mergeSort fun x y => !(ltOf (cfO f)) y x) := by
  unfold srtK at h
  split at h
  · rename_i h0; cases h; exact ⟨h0, rfl⟩
  · cases h
theorem OrdO.get {f : α → α → Option Int} (h : OrdO f) (x y : α) : f x y = some (cfO f x y) := by
  have := h.1 x y
  obtain ⟨v, hv⟩ := Option.isSome_iff_exists.1 this
  simp [cfO, hv]
set_option maxHeartbeats 1000000 in
theorem meetsR_sortK [Inhabited α] {P : Program} {ρ : Ren} (Ly : SlLaysF0.n6 P ρ) (hE : Enters P (ρ.f 6)) (T k : Nat) (aE : ∀ w, (isAgg (ρ.t 24)).run P w = .ok true w) (zE : ∀ w, (Go.sizeOf (ρ.t 24)).run P w = .ok k w)
    (enc : α → List Value) (hk : ∀ x, (enc x).length = k) (h1 : ∀ x, ∀ v ∈ enc x, v.oneCell' = true) (hn : ∀ x, ∀ v ∈ enc x, nf v = true) (g0 : Nat) (hg0 : Enters P g0) (f : α → α → Option Int)
    (hf : ∀ x y r, f x y = some r → Meets P g0 [.agg (litL (enc x)), .agg (litL (enc y))] (.lit (.int .i64 r))) (zs : List α) (hz : zs.length < 4611686018427387904) (hO : OrdO f) :
    MeetsR P (ρ.f 6) [⟨T, k, zs.map fun x => litL (enc x)⟩] [.sl 0 0 (List.length (zs.map fun x => litL (enc x))), .fn g0 []] [true] [⟨T, k, (zs.mergeSort fun x y => !(ltOf (cfO f)) y x).map fun x => litL (enc x)⟩] (.tup []) := by
  refine ⟨hE, ?_⟩
  intro w S hd fp vals hr hnone hdis hS hSb hargs
  obtain ⟨_, ⟨vs, fp', hown, hrep, hfp⟩, hnd⟩ := hr 0 _ rfl
  obtain ⟨rfl, rfl⟩ := repLL_litsE hn zs vs fp' hrep
  rw [List.append_nil] at hfp
  simp only [repRL] at hargs
  obtain ⟨u, us', f1, f2, rfl, hf', hu, u2, us2, f3, f4, rfl, hf2, hu2, rfl, rfl⟩ := hargs
  simp only [repR] at hu hu2
  obtain ⟨vsf, rfl, hvf⟩ := hu2
  simp only [repRL] at hvf
  obtain ⟨rfl, rfl⟩ := hvf
  obtain ⟨_, _, hu⟩ := hu
  have e3 : (List.length (zs.map fun x => litL (enc x))) = zs.length := by simp
  obtain ⟨_, ⟨A, cap, rfl, hcap, hA0, hA⟩, _⟩ := hu (hd 0) (zs.map fun x => litL (enc x)).length k rfl
  obtain ⟨ss, hss⟩ : ∃ ss, ss = zs.mergeSort fun x y => !(ltOf (cfO f)) y x := ⟨_, rfl⟩
  have hsl : ss.length = zs.length := by rw [hss]; exact List.length_mergeSort _
  have hfp0 : ∀ i b, b ∈ fp i → i = 0 := by
    intro i b hb
    cases i with
    | zero => rfl
    | succ i => rw [hnone (i + 1) (by simp)] at hb; cases hb
  have hfpl : ∀ i b, b ∈ fp i → b < w.heap.size := by
    intro i b hb
    have := hfp0 i b hb
    subst this
    rw [hfp] at hb
    rcases hown.2 with ⟨h0, _⟩ | ⟨g, cap2, cur, h0, _, hg, _⟩
    · rw [h0] at hb; simp [Value.ownBlock] at hb
    · rw [h0] at hb
      simp [Value.ownBlock] at hb
      subst hb
      exact (Array.getElem?_eq_some_iff.1 hg).1
  rw [← hss]
  cases hzz : zs with
  | nil =>
    subst hzz
    have hs0 : ss = [] := List.length_eq_zero_iff.1 (by rw [hsl]; rfl)
    subst hs0
    have := AnyF.slices_SortFunc_none Ly A cap (.func (.func g0) #[] #[]) w
    refine Calls.mono this ?_
    rintro e w' ⟨rfl, rfl⟩
    refine ⟨_, fp, [], rfl, rfl, Tp.refl _, rfl, Nat.le_refl _, fun k _ _ => rfl, ?_, ?_, fun i b hb => .inl ⟨i, hb⟩, by simp [repR, repRL], List.nodup_nil, by simp, hdis, fun i b hb => ⟨by simp, hfpl i b hb⟩⟩
    · intro i R' hR' hk
      cases i with
      | zero =>
        cases hR'
        exact ⟨⟨_, _, by simpa using hown, by simpa using hrep, by simpa using hfp⟩, hnd⟩
      | succ i => simp at hR'
    · intro i hi
      cases i with
      | zero => simp at hi
      | succ i => exact hnone (i + 1) (by simp)
  | cons z0 zt =>
    rcases hown.2 with ⟨_, h0⟩ | ⟨g, cap2, cur, h0, hbase, hg, r1, r2, r3, r4⟩
    · rw [e3, hzz] at h0; simp at h0
    · obtain ⟨b, m, c, hh, rfl⟩ := hA (by rw [e3, hzz]; simp)
      rw [h0] at hh
      cases hh
      obtain ⟨m2, hm2⟩ := hA0 rfl
      rw [h0] at hm2
      injection hm2 with x1 x2 x3
      subst x3
      simp only [Nat.zero_mul] at *
      rw [e3] at r1 r4
      have hH : HoldsK enc k w g 0 zs.toArray := holds_of_blockV hg (by rw [flatK_list hk, size_flatK, List.size_toArray]; exact r4)
      have hgl : g < w.heap.size := (Array.getElem?_eq_some_iff.1 hg).1
      have hcmp : CmpLays P g0 #[] enc k (cfO f) g 0 zs.toArray.size w := fun m os dk hs x y => by
        have hm := hf x y _ (hO.get x y)
        have := meets_calls hm rfl (w := sortWorldK enc k w g 0 m dk os) (vals := [.agg (enc x).toArray, .agg (enc y).toArray]) (by
          simp only [repL, rep]
          exact ⟨_, _, [], [], rfl, rfl, ⟨_, rfl, repL_lits _⟩, _, [], [], [], rfl, rfl, ⟨_, rfl, repL_lits _⟩, rfl, rfl⟩)
        simpa using this
      have := AnyQ.slices_SortFunc_total Ly k aE zE enc hk h1 (cfO f) hO.2.1 g0 #[] g 0 cap2 zs.toArray w hg0 hcmp hH hgl (by simpa using hz) hO.2.2
      rw [← hzz, e3]
      rw [List.size_toArray] at this
      rw [← hss] at this
      refine Calls.mono this ?_
      rintro e w' ⟨rfl, n, os, rfl⟩
      obtain ⟨q1, q2, q3, q4, q5⟩ := grownBy_sortedV (w := w) (g := g) (n := n) (os := os) (flatK enc k ss.toArray)
      have hf0 : fp 0 = [g] := by rw [hfp, h0]; rfl
      refine ⟨_, fp, [], rfl, q1, ⟨q2, Nat.le_add_right _ _⟩, q3, q4, fun k hk hn => q5 k hk (fun e => hn 0 (by rw [hf0]; cases e; simp)), ?_, ?_, fun i b hb => .inl ⟨i, hb⟩, by simp [repR, repRL], List.nodup_nil, by simp, hdis, fun i b hb => ⟨by simp, Nat.lt_of_lt_of_le (hfpl i b hb) q4⟩⟩
      · intro i R' hR' hki
        cases i with
        | zero =>
          cases hR'
          refine ⟨⟨(ss.map enc).flatten, [], ?_, repLL_litsM hk h1 _, by simpa using hfp⟩, hnd⟩
          rw [List.length_map, hsl, h0, e3]
          refine ⟨by rw [len_flatten hk, hsl], .inr ⟨g, _, _, rfl, Nat.zero_le _, heap_sortedV _ hg, r1, r2, by simp [putCells, r3], ?_⟩⟩
          have := take_putCellsV cur (flatK enc k ss.toArray) (by rw [size_flatK, List.size_toArray, hsl, r3]; exact Nat.mul_le_mul_right k r1)
          rw [flatK_list hk, size_flatK, List.size_toArray, hsl] at this
          exact this
        | succ i => simp at hR'
      · intro i hi
        cases i with
        | zero => simp at hi
        | succ i => exact hnone (i + 1) (by simp)
end
/- ------------------------------------------------ append onto nothing of a row that is made there -/
theorem run_append_make {P : Program} (w : World) (t tx ty e : TypeId) (i : TypeInfo) (z : Value) (ht : P.underlying t = some (.slice e)) (hx : P.underlying tx = some (.int .i64)) (hi : P.info? e = some i) (hz : i.zero = some z) (hb : i.bytes ≤ 64) (hs : 0 < i.size) (n : Nat) (h0 : 0 < n) (h1 : n ≤ 1099511627776) :
    (Builtin.append_ #[t, tx] ty #[.slice none 0 0, .int .i64 n]).run P w =
      .ok (.slice (some ⟨w.heap.size, 0, none⟩) n (grownCap w n 0 e)) (w.drew.alloc (.cells (Builtin.zeroCells z.cells n ++ Builtin.zeroCells z.cells (grownCap w n 0 e - n)) e)) := by
  have hfit : Builtin.nextslicecap n 0 * i.bytes ≤ 281474976710656 := growslice_fits h0 (by
    have : n * i.bytes ≤ 1099511627776 * 64 := Nat.mul_le_mul h1 hb
    omega)
  have hw : IntKind.i64.wrap (n : Int) = (n : Int) := by rw [IntKind.wrap_i64]; omega
  have h48' : ¬ (281474976710656 < Builtin.nextslicecap n 0 * i.bytes) := by omega
  have hm : ((n : Int) * (i.bytes : Int)) ≤ 70368744177664 := by
    have : n * i.bytes ≤ 1099511627776 * 64 := Nat.mul_le_mul h1 hb
    have h2 : ((n * i.bytes : Nat) : Int) ≤ 70368744177664 := by omega
    rwa [Int.natCast_mul] at h2
  have a1 : ¬ ((n : Int) < 0) := by omega
  have a2 : ¬ ((281474976710656 : Int) < (n : Int) * (i.bytes : Int)) := by omega
  have a3 : n * i.size ≠ 0 := by have := Nat.mul_pos h0 hs; omega
  have a4 : ¬ ((9223372036854775807 : Int) < (n : Int)) := by omega
  have a5 : n ≠ 0 := by omega
  simp [Builtin.append_, run_underlying ht, run_underlying hx, sizeOf, typeInfo, zeroValue, hi, hz, asInt, asIntOf, hw, a1, a2, a4, a5, h48', Question.forced, newRow, grownCap, Builtin.firstCells]
  intro h; exact absurd h a3
theorem append_make_cut {P : Program} (w : World) {t tx e : TypeId} {ti te : TI} (ht : tiOf P t = some ti) (hu : ti.und = .slice e) {tj : TI} (hx : tiOf P tx = some tj) (hj : tj.und = .int .i64) (he : tiOf P e = some te) (hz : te.zero.length = te.sz) (hb : te.bytes ≤ 64) (hs : 0 < te.sz) (n : Nat) (h0 : 0 < n) (h1 : n ≤ 1099511627776) :
    ∃ cap w1, (∀ ty, (Builtin.append_ #[t, tx] ty #[.slice none 0 0, .int .i64 n]).run P w = .ok (.slice (some ⟨w.heap.size, 0, none⟩) n cap) w1) ∧ n ≤ cap ∧ w1.ownsRow w.heap.size e te.sz (.slice (some ⟨w.heap.size, 0, none⟩) 0 cap) 0 [] ∧ w.grownBy w1 none ∧ w.drawn ≤ w1.drawn := by
  obtain ⟨i, z, i1, i2, i3, i4, i5⟩ := tiOf_info he
  have hge := grownCap_ge w n 0 e
  refine ⟨grownCap w n 0 e, _, fun ty => run_append_make w t tx ty e i z (by rw [tiOf_und ht, hu]) (by rw [tiOf_und hx, hj]) i1 i4 (by omega) (by omega) n h0 h1, hge, ⟨by simp, .inr ⟨w.heap.size, _, _, rfl, Nat.le_refl _, heap_alloc_new w.drew _, Nat.zero_le _, grownCap_le_maxLen w n 0 e (by simp only [maxLen]; omega), ?_, by simp⟩⟩, ⟨rfl, rfl, rfl, by simp, fun k hk _ => heap_alloc_old w.drew _ hk⟩, ?_⟩
  · have hzs : z.cells.size = te.sz := by rw [← hz, ← i5, Array.length_toList]
    simp only [Array.size_append, size_zeroCells, hzs, ← Nat.add_mul]
    congr 1
    omega
  · show w.drawn ≤ w.drawn + 1
    omega
theorem wpList_append_make {P : Program} (w : World) {ops : Array Oper} {rest : List Oper} {o : Oper} {a : Act} {Q : Exit → Act → World → Prop}
    (hg : o.guard = none) (s x : Operand) (t tx : TypeId) (hop : o.op = Op.call { callee := Callee.builtin Builtin.append, args := #[s, x], argTypes := #[t, tx] })
    (n : Nat) (v : Value) (w1 : World) (hs : a.eval s = .slice none 0 0) (hx : a.eval x = .int .i64 n) (ha : ∀ ty, (Builtin.append_ #[t, tx] ty #[.slice none 0 0, .int .i64 n]).run P w = .ok v w1) (hgo : wpList P ops Q rest (a.put o.dst v) w1) :
    wpList P ops Q (o :: rest) a w := by
  refine wpList_plain hg fun K hK' => ?_
  unfold Oper.wp
  simp [execOp, hop, resolve, invoke, builtin, hs, hx, ha, Result.andThen]
  exact hK' _ _ hgo
noncomputable def growK {α : Type} (n : Int) : Option (List α) := if 0 ≤ n ∧ n ≤ 1099511627776 then some [] else none
theorem growKE {α : Type} {n : Int} {r : List α} (h : growK n = some r) : (0 ≤ n ∧ n ≤ 1099511627776) ∧ r = [] := by
  unfold growK at h
  split at h
  · rename_i h0; cases h; exact ⟨h0, rfl⟩
  · cases h
theorem meets_grow {P : Program} {f : FuncId} {T k : Nat} (hE : Enters P f) (h : ∀ (n : Nat) (w : World), n ≤ 1099511627776 → Calls P f #[.slice none 0 0, .int .i64 n] w fun e w' => ∃ v, e = .returned v ∧ w'.ownsRow w.heap.size T k v 0 [] ∧ w.grownBy w' none ∧ w.drawn ≤ w'.drawn) (n : Int) (h0 : 0 ≤ n ∧ n ≤ 1099511627776) :
    Meets P f [.lit (.slice none 0 0), .lit (.int .i64 n)] (.own T k []) := by
  refine ⟨hE, fun w S vals hr hS => ?_⟩
  simp only [repL, rep] at hr
  obtain ⟨u, us, f1, f2, rfl, _, ⟨_, e1⟩, u2, us2, f3, f4, rfl, _, ⟨_, e2⟩, rfl, _⟩ := hr
  have e1 := e1.eq rfl
  have e2 := e2.eq rfl
  subst e1 e2
  obtain ⟨m, rfl⟩ : ∃ m : Nat, n = (m : Int) := ⟨n.toNat, by omega⟩
  refine (h m w (by omega)).mono ?_
  rintro e w' ⟨v, rfl, ho, hg, hd⟩
  refine ⟨v, v.ownBlock.toList, rfl, ⟨hg.os, hg.tape, hg.output, hg.size, fun k hk => hg.block k hk (by simp)⟩, hd, ?_, ?_, ?_⟩
  · simp only [rep]
    refine ⟨[], [], ?_, by simp [repLL], by simp⟩
    refine ⟨ho.1, ?_⟩
    rcases ho.2 with h | ⟨g, cap, cur, a1, a2, a3⟩
    · exact .inl h
    · exact .inr ⟨g, cap, cur, a1, Nat.zero_le _, a3⟩
  · cases v.ownBlock <;> simp
  · intro b hb
    rcases ho.2 with ⟨h, _⟩ | ⟨g, cap, cur, a1, a2, a3⟩
    · rw [h] at hb; simp [Value.ownBlock] at hb
    · rw [a1] at hb
      simp [Value.ownBlock] at hb
      omega
end Go.T
