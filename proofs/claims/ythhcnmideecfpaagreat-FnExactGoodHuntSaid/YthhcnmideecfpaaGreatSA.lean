/- Lemmas for FnExactGoodHunt; no condition. -/

import Derived.Test.YthhcnmideecfpaaGreatTV
import Derived.Sort.OwnSortedInts
import Derived.Shelf.SortM.Plain
import Derived.Shelf.SortM.SortNone
set_option linter.unusedVariables false
namespace Go.T
open Go Go.RowKit Go.Proofs Go.Shelf Go.Sort

/-- rows of one integer each -/
def intR (zs : List Int) : List (List AV) := zs.map fun x => [.lit (.int .i64 x)]
theorem repLL_ints {w : World} {S : Nat → Prop} : ∀ (zs : List Int) (vs : List Value) (f : List Nat), repLL w S 1 (intR zs) vs f → vs = zs.map (Value.int .i64) ∧ f = []
  | [], vs, f, h => by simpa [intR, repLL] using h
  | z :: zs, vs, f, h => by
    have e : intR (z :: zs) = [.lit (.int .i64 z)] :: intR zs := rfl
    rw [e] at h
    simp only [repLL, repL, rep] at h
    obtain ⟨us, us', f1, f2, rfl, rfl, hl, h1, h2, h3⟩ := h
    obtain ⟨rfl, rfl⟩ := repLL_ints zs us' f2 h3
    obtain ⟨u, us2, g1, g2, rfl, rfl, ⟨rfl, rfl⟩, rfl, rfl⟩ := h2
    exact ⟨rfl, rfl⟩
theorem repLL_intsM {w : World} {S : Nat → Prop} : ∀ (zs : List Int), repLL w S 1 (intR zs) (zs.map (Value.int .i64)) []
  | [] => by simp [intR, repLL]
  | z :: zs => by
    have e : intR (z :: zs) = [.lit (.int .i64 z)] :: intR zs := rfl
    rw [e]
    simp only [repLL, repL, rep, List.map_cons]
    exact ⟨[Value.int .i64 z], _, [], [], rfl, rfl, rfl, by simp [Value.oneCell'], ⟨_, [], [], [], rfl, rfl, ⟨rfl, rfl⟩, rfl, rfl⟩, repLL_intsM zs⟩
theorem intR_len (zs : List Int) : (intR zs).length = zs.length := by simp [intR]
/-- the library's sort on a row of integers -/
theorem meetsR_sortI {P : Program} {ρ : Ren} (Ly : SlLaysM.n5 P ρ) (hE : Enters P (ρ.f 5)) (T : Nat) (zs : List Int) (hz : zs.length < 4611686018427387904) :
    MeetsR P (ρ.f 5) [⟨T, 1, intR zs⟩] [.sl 0 0 (List.length (intR zs))] [true] [⟨T, 1, intR (zs.mergeSort fun x y => decide (x ≤ y))⟩] (.tup []) := by
  refine ⟨hE, ?_⟩
  intro w S hd fp vals hr hnone hdis hS hSb hargs
  obtain ⟨_, ⟨vs, fp', hown, hrep, hfp⟩, hnd⟩ := hr 0 _ rfl
  obtain ⟨rfl, rfl⟩ := repLL_ints zs vs fp' hrep
  rw [List.append_nil] at hfp
  simp only [repRL] at hargs
  obtain ⟨u, us', f1, f2, rfl, hf, hu, rfl, rfl⟩ := hargs
  obtain ⟨rfl, _⟩ := List.append_eq_nil_iff.1 hf.symm
  simp only [repR] at hu
  obtain ⟨_, _, hu⟩ := hu
  obtain ⟨_, ⟨A, cap, rfl, hcap, hA0, hA⟩, _⟩ := hu (hd 0) (intR zs).length 1 rfl
  have hsl : (zs.mergeSort fun x y => decide (x ≤ y)).length = zs.length := List.length_mergeSort _
  have hfp0 : ∀ i b, b ∈ fp i → i = 0 := by
    intro i b hb
    cases i with
    | zero => rfl
    | succ i => rw [hnone (i + 1) (by simp)] at hb; cases hb
  have hfpl : ∀ i b, b ∈ fp i → b < w.heap.size := by
    intro i b hb
    have := hfp0 i b hb
    subst this
    rw [hfp] at hb
    rcases hown.2 with ⟨h0, _⟩ | ⟨g, cap2, cur, h0, _, hg, _⟩
    · rw [h0] at hb; simp [Value.ownBlock] at hb
    · rw [h0] at hb
      simp [Value.ownBlock] at hb
      subst hb
      exact (Array.getElem?_eq_some_iff.1 hg).1
  have e3 : ((List.length (intR zs)) : Nat) = zs.length := intR_len zs
  cases hzz : zs with
  | nil =>
    subst hzz
    have := AnyM.slices_Sort_int_none Ly A cap w
    refine Calls.mono this ?_
    rintro e w' ⟨rfl, rfl⟩
    refine ⟨_, fp, [], rfl, rfl, Tp.refl _, rfl, Nat.le_refl _, fun k _ _ => rfl, ?_, ?_, fun i b hb => .inl ⟨i, hb⟩, by simp [repR, repRL], List.nodup_nil, by simp, hdis, fun i b hb => ⟨by simp, hfpl i b hb⟩⟩
    · intro i R' hR' hk
      cases i with
      | zero =>
        cases hR'
        exact ⟨⟨_, _, by simpa [intR] using hown, by simpa [intR] using hrep, by simpa using hfp⟩, hnd⟩
      | succ i => simp at hR'
    · intro i hi
      cases i with
      | zero => simp at hi
      | succ i => exact hnone (i + 1) (by simp)
  | cons z0 zt =>
    rcases hown.2 with ⟨_, h0⟩ | ⟨g, cap2, cur, h0, hbase, hg, r1, r2, r3, r4⟩
    · rw [intR_len, hzz] at h0; simp at h0
    · obtain ⟨b, m, c, hh, rfl⟩ := hA (by rw [intR_len, hzz]; simp)
      rw [h0] at hh
      cases hh
      obtain ⟨m2, hm2⟩ := hA0 rfl
      rw [h0] at hm2
      cases hm2
      simp only [Nat.zero_mul] at *
      rw [e3] at r1 r4
      have hH : Holds (Value.int .i64) w g 0 zs.toArray := holds_of_blockI hg (by simpa using r4)
      have hgl : g < w.heap.size := (Array.getElem?_eq_some_iff.1 hg).1
      have := AnyM.slices_Sort_int Ly g 0 cap zs w hH hgl hz
      rw [← hzz, e3]
      refine Calls.mono this ?_
      rintro e w' ⟨rfl, n, os, rfl⟩
      obtain ⟨q1, q2, q3, q4, q5⟩ := grownBy_sortedI (w := w) (g := g) (n := n) (os := os) (zs.mergeSort fun x y => decide (x ≤ y)).toArray
      have hf0 : fp 0 = [g] := by rw [hfp, h0]; rfl
      refine ⟨_, fp, [], rfl, q1, ⟨q2, Nat.le_add_right _ _⟩, q3, q4, fun k hk hn => q5 k hk (fun e => hn 0 (by rw [hf0]; cases e; simp)), ?_, ?_, fun i b hb => .inl ⟨i, hb⟩, by simp [repR, repRL], List.nodup_nil, by simp, hdis, fun i b hb => ⟨by simp, Nat.lt_of_lt_of_le (hfpl i b hb) q4⟩⟩
      · intro i R' hR' hk
        cases i with
        | zero =>
          cases hR'
          refine ⟨⟨(zs.mergeSort fun x y => decide (x ≤ y)).map (Value.int .i64), [], ?_, repLL_intsM _, by simpa using hfp⟩, hnd⟩
          have := ownsRow_sortedI (base := 0) (n := n) (os := os) (ts := zs.mergeSort fun x y => decide (x ≤ y)) (ss := zs) hsl (Nat.zero_le _) hg r1 r2 r3
          have e5 : (intR (zs.mergeSort fun x y => decide (x ≤ y))).length = zs.length := by rw [intR_len, hsl]
          simp only [e5]
          rw [h0, e3]
          exact this
        | succ i => simp at hR'
      · intro i hi
        cases i with
        | zero => simp at hi
        | succ i => exact hnone (i + 1) (by simp)
noncomputable def srtL (p : List Int) : Option (Unit × List Int) := if p.length < 4611686018427387904 then some ((), p.mergeSort fun x y => decide (x ≤ y)) else none
theorem srtE {p : List Int} {r : Unit × List Int} (h : srtL p = some r) : p.length < 4611686018427387904 ∧ r = ((), p.mergeSort fun x y => decide (x ≤ y)) := by
  unfold srtL at h
  split at h
  · rename_i h0; cases h; exact ⟨h0, rfl⟩
  · cases h
end Go.T
