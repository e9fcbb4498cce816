/- Lemmas for FnExactAddPairs; no condition. -/

import Derived.Test.YtihgcgccajikpaaTJ
import Derived.Shelf.Abstract
import Derived.Deep.LoopGhost
set_option linter.unusedVariables false
namespace Go.T
open Go Go.RowKit Go.Proofs

/- ------------------------------------------------ what a call takes and gives -/
def Meets (P : Program) (f : FuncId) (args : List AV) (res : AV) : Prop :=
  Enters P f ∧ ∀ (w : World) (S : Nat → Prop) (vals : List Value), repL w S args vals [] → (∀ b, S b → b < w.heap.size) →
    Calls P f vals.toArray w (fun e w' => ∃ v fp, e = .returned v ∧ Below w.heap.size w w' ∧ w.drawn ≤ w'.drawn ∧ rep w' (fun b => (S b ∨ w.heap.size ≤ b) ∧ b < w'.heap.size ∧ b ∉ fp) res v fp ∧ fp.Nodup ∧ ∀ b ∈ fp, w.heap.size ≤ b)

mutual
def out (s : St) : AV → Option AV
  | .lit v => some (.lit v)
  | .ro sz xs => some (.ro sz xs)
  | .rop cs o => some (.rop cs o)
  | .sl i off len => match s.root i with
    | some R => if treeLL ((R.xs.drop off).take len) then some (.ro R.sz (frzLL ((R.xs.drop off).take len))) else none
    | none => none
  | .ptr i e o => match s.root i with
    | some R => match R.xs[e]? with
      | some x => if treeL x then some (.rop (frzL x) o) else none
      | none => none
    | none => none
  | .agg cs => match outL s cs with
    | some ds => some (.agg ds)
    | none => none
  | .fn g cs => match outL s cs with
    | some ds => some (.fn g ds)
    | none => none
  | _ => none
def outL (s : St) : List AV → Option (List AV)
  | [] => some []
  | c :: cs => match out s c, outL s cs with
    | some d, some ds => some (d :: ds)
    | _, _ => none
end

theorem repLL_split {w : World} {S : Nat → Prop} {sz : Nat} : ∀ (xs ys : List (List AV)) (vs : List Value) (f : List Nat), repLL w S sz (xs ++ ys) vs f → ∃ v1 v2 f1 f2, vs = v1 ++ v2 ∧ f = f1 ++ f2 ∧ v1.length = xs.length * sz ∧ repLL w S sz xs v1 f1 ∧ repLL w S sz ys v2 f2
  | [], ys, vs, f, h => ⟨[], vs, [], f, rfl, rfl, by simp, by simp [repLL], h⟩
  | x :: xs, ys, vs, f, h => by
    simp only [List.cons_append, repLL] at h
    obtain ⟨u1, u2, f1, f2, rfl, rfl, hl, h1c, h1, h2⟩ := h
    obtain ⟨v1, v2, g1, g2, rfl, rfl, hl2, k1, k2⟩ := repLL_split xs ys u2 f2 h2
    refine ⟨u1 ++ v1, v2, f1 ++ g1, g2, by simp, by simp, by simp [hl, hl2, Nat.add_mul, Nat.add_comm], ?_, k2⟩
    simp only [repLL]
    exact ⟨u1, v1, f1, g1, rfl, rfl, hl, h1c, h1, k1⟩

/-- the rows of a window of a root -/
theorem win_rep {E : Env} {s : St} {a : Act} {w : World} {χ : Nat → Option Nat} {hd : Nat → Value} (h : Rel0 E s a w χ hd) {i off len : Nat} {R : Root} (hR : s.root i = some R) {u : Value} (hle : off + len ≤ R.xs.length) (hu : SubHd (hd i) R.sz off len u) :
    ∃ A cap vs f, u = .slice A len cap ∧ len ≤ cap ∧ repRLL w (free χ w) (· ∈ s.us) (tab s hd) R.sz ((R.xs.drop off).take len) vs f ∧ (∀ b ∈ f, χ b = some i) ∧ (0 < len → ∃ b, A = some ⟨b, off * R.sz, none⟩ ∧ At w b (off * R.sz) vs ∧ χ b = some i) := by
  obtain ⟨A, cap, rfl, hcap, _, hA⟩ := hu
  obtain ⟨_, fp, ⟨hz, vs, fp', hown, hrep, rfl⟩, _, hcol⟩ := h.rts i R hR
  have e1 : R.xs = R.xs.take off ++ ((R.xs.drop off).take len ++ (R.xs.drop off).drop len) := by rw [List.take_append_drop, List.take_append_drop]
  have hrep' := hrep
  rw [e1] at hrep'
  obtain ⟨v1, v2, f1, f2, rfl, rfl, hl1, k1, k2⟩ := repRLL_split _ _ _ _ hrep'
  obtain ⟨v3, v4, f3, f4, rfl, rfl, hl3, k3, k4⟩ := repRLL_split _ _ _ _ k2
  refine ⟨A, cap, v3, f3, rfl, hcap, k3, fun b hb => hcol b (by simp [hb]), fun hp => ?_⟩
  obtain ⟨b, m, c, hh, rfl⟩ := hA hp
  refine ⟨b, rfl, ?_, hcol b (by rw [hh]; simp [Value.ownBlock])⟩
  intro j v hj
  have hat := ownsRow_at hown (b := b) (by rw [hh]; rfl)
  have hjl : j < v3.length := (List.getElem?_eq_some_iff.1 hj).1
  rw [List.length_take, Nat.min_eq_left (by omega)] at hl1
  have := hat (off * R.sz + j) v (by rw [List.getElem?_append_right (by omega), show off * R.sz + j - v1.length = j by omega, List.getElem?_append_left hjl]; exact hj)
  simpa using this

theorem free_lt {χ : Nat → Option Nat} {w : World} : ∀ b, free χ w b → b < w.heap.size := fun b h => h.2

mutual
theorem out_sound {E : Env} {s : St} {a : Act} {w : World} {χ : Nat → Option Nat} {hd : Nat → Value} (h : Rel0 E s a w χ hd) : ∀ (x y : AV) (u : Value) (f : List Nat), repR w (free χ w) (· ∈ s.us) (tab s hd) x u f → f = [] → out s x = some y → rep w (fun b => b < w.heap.size) y u []
  | .lit v, y, u, f, hr, hf, he => by simp only [out] at he; cases he; simp only [repR] at hr; subst hf; exact rep_frame _ _ _ hr free_lt (fun _ _ => rfl) (by simp)
  | .ro sz xs, y, u, f, hr, hf, he => by simp only [out] at he; cases he; simp only [repR] at hr; subst hf; exact rep_frame _ _ _ hr free_lt (fun _ _ => rfl) (by simp)
  | .rop cs o, y, u, f, hr, hf, he => by simp only [out] at he; cases he; simp only [repR] at hr; subst hf; exact rep_frame _ _ _ hr free_lt (fun _ _ => rfl) (by simp)
  | .sl i off len, y, u, f, hr, hf, he => by
    simp only [out] at he
    split at he
    case h_2 => cases he
    rename_i R hR
    split at he
    case isFalse => cases he
    rename_i ht
    cases he
    simp only [repR] at hr
    obtain ⟨_, _, hr⟩ := hr
    obtain ⟨hle, hu, _⟩ := hr (hd i) R.xs.length R.sz (by simp [tab, hR])
    obtain ⟨A, cap, vs, g, rfl, hcap, hrr, hg, hA⟩ := win_rep h hR hle hu
    have hlen : ((R.xs.drop off).take len).length = len := by rw [List.length_take, List.length_drop]; omega
    have hz := repLL_frz (S2 := fun b => b < w.heap.size) _ _ _ _ (repLL_of_tree _ _ _ hrr ht) free_lt (fun b hb => (h.col b i (hg b hb)).2)
    simp only [rep]
    refine ⟨trivial, A, cap, by rw [frzLL_length, hlen], by rw [frzLL_length, hlen]; exact hcap, ?_⟩
    by_cases hl : len = 0
    · left; exact frzLL_nil (by rw [hl, List.take_zero])
    · obtain ⟨b, rfl, hat, hcb⟩ := hA (by omega)
      exact .inr ⟨b, _, vs, rfl, (h.col b i hcb).2, hat, hz⟩
  | .ptr i e o, y, u, f, hr, hf, he => by
    simp only [out] at he
    split at he
    case h_2 => cases he
    rename_i R hR
    split at he
    case h_2 => cases he
    rename_i x hx
    split at he
    case isFalse => cases he
    rename_i ht
    cases he
    simp only [repR] at hr
    obtain ⟨_, _, hr⟩ := hr
    obtain ⟨hlt, b, m, c, hh, rfl⟩ := hr (hd i) R.xs.length R.sz (by simp [tab, hR])
    obtain ⟨_, fp, ⟨hz, vs, fp', hown, hrep, rfl⟩, _, hcol⟩ := h.rts i R hR
    obtain ⟨v1, us, v2, f1, fe, f2, rfl, rfl, hl1, hlus, h1c, k1, kx, k2⟩ := repRLL_at hrep hx
    have hat := ownsRow_at hown (b := b) (by rw [hh]; rfl)
    have hz := repL_frz (S2 := fun b => b < w.heap.size) _ _ _ (repL_of_tree _ _ _ kx ht) free_lt (fun b hb => (h.col b i (hcol b (by simp [hb]))).2)
    simp only [rep]
    refine ⟨trivial, b, e * R.sz, us, rfl, (h.col b i (hcol b (by rw [hh]; simp [Value.ownBlock]))).2, ?_, hz⟩
    intro k v hk
    have hkl : k < us.length := (List.getElem?_eq_some_iff.1 hk).1
    have := hat (e * R.sz + k) v (by rw [List.append_assoc, List.getElem?_append_right (by omega), show e * R.sz + k - v1.length = k by omega, List.getElem?_append_left hkl]; exact hk)
    simpa using this
  | .agg cs, y, u, f, hr, hf, he => by
    simp only [out] at he
    split at he
    case h_2 => cases he
    rename_i ds hds
    cases he
    simp only [repR] at hr
    obtain ⟨vs, rfl, hr⟩ := hr
    simp only [rep]
    exact ⟨vs, rfl, outL_sound h cs ds vs f hr hf hds⟩
  | .fn g cs, y, u, f, hr, hf, he => by
    simp only [out] at he
    split at he
    case h_2 => cases he
    rename_i ds hds
    cases he
    simp only [repR] at hr
    obtain ⟨vs, rfl, hr⟩ := hr
    simp only [rep]
    exact ⟨vs, rfl, outL_sound h cs ds vs f hr hf hds⟩
  | .dead, y, u, f, hr, hf, he => by simp [out] at he
  | .own _ _ _, y, u, f, hr, hf, he => by simp [out] at he
  | .tup _, y, u, f, hr, hf, he => by simp [out] at he
theorem outL_sound {E : Env} {s : St} {a : Act} {w : World} {χ : Nat → Option Nat} {hd : Nat → Value} (h : Rel0 E s a w χ hd) : ∀ (xs ys : List AV) (us : List Value) (f : List Nat), repRL w (free χ w) (· ∈ s.us) (tab s hd) xs us f → f = [] → outL s xs = some ys → repL w (fun b => b < w.heap.size) ys us []
  | [], ys, us, f, hr, hf, he => by simp only [outL] at he; cases he; simp only [repRL] at hr; simp only [repL]; exact ⟨hr.1, trivial⟩
  | c :: cs, ys, us, f, hr, hf, he => by
    simp only [outL] at he
    split at he
    case h_2 => cases he
    rename_i d ds h1 h2
    cases he
    simp only [repRL] at hr
    obtain ⟨u, us', f1, f2, rfl, hf', k1, k2⟩ := hr
    rw [hf] at hf'
    obtain ⟨e1, e2⟩ := List.append_eq_nil_iff.1 hf'.symm
    simp only [repL]
    exact ⟨u, us', [], [], rfl, rfl, out_sound h c d u f1 k1 e1 h1, outL_sound h cs ds us' f2 k2 e2 h2⟩
end

/- ------------------------------------------------ a result's rows get names -/
mutual
def rtf : AV → List Nat → AV × List (Nat × Root) × List Nat
  | .own T sz xs, i :: ids => if 0 < sz then (.sl i 0 xs.length, [(i, ⟨T, sz, xs⟩)], ids) else (.dead, [], i :: ids)
  | .own _ _ _, [] => (.dead, [], [])
  | .agg cs, ids => (.agg (rtfL cs ids).1, (rtfL cs ids).2.1, (rtfL cs ids).2.2)
  | .tup cs, ids => (.tup (rtfL cs ids).1, (rtfL cs ids).2.1, (rtfL cs ids).2.2)
  | .fn _ _, ids => (.dead, [], ids)
  | a, ids => (a, [], ids)
def rtfL : List AV → List Nat → List AV × List (Nat × Root) × List Nat
  | [], ids => ([], [], ids)
  | c :: cs, ids => ((rtf c ids).1 :: (rtfL cs (rtf c ids).2.2).1, (rtf c ids).2.1 ++ (rtfL cs (rtf c ids).2.2).2.1, (rtfL cs (rtf c ids).2.2).2.2)
end
def St.addL (s : St) : List (Nat × Root) → St
  | [] => s
  | (i, R) :: r => (s.add i R).addL r
theorem St.addL_append (s : St) : ∀ (l r : List (Nat × Root)), s.addL (l ++ r) = (s.addL l).addL r := by
  intro l
  induction l generalizing s with
  | nil => intro r; rfl
  | cons x l ih => intro r; exact ih _ r
theorem St.addL_get (s : St) (l : List (Nat × Root)) (t : Nat) : (s.addL l).get t = s.get t := by
  induction l generalizing s with
  | nil => rfl
  | cons x l ih => exact ih _

/-- what the naming of a result's rows leaves -/
structure Named (E : Env) (s s' : St) (a : Act) (w : World) (χ χ' : Nat → Option Nat) (hd hd' : Nat → Value) (f : List Nat) : Prop where
  rel : Rel0 E s' a w χ' hd'
  fr : ∀ b, free χ w b ↔ free χ' w b
  other : ∀ b, b ∉ f → χ' b = χ b
  us : ∀ i, i ∈ s.us → i ∈ s'.us
  tb : ∀ i, i ∈ s.us → tab s' hd' i = tab s hd i

theorem Named.refl {E : Env} {s : St} {a : Act} {w : World} {χ : Nat → Option Nat} {hd : Nat → Value} (h : Rel0 E s a w χ hd) : Named E s s a w χ χ hd hd [] := ⟨h, fun _ => Iff.rfl, fun _ _ => rfl, fun _ h => h, fun _ _ => rfl⟩

theorem Named.repR {E : Env} {s s' : St} {a : Act} {w : World} {χ χ' : Nat → Option Nat} {hd hd' : Nat → Value} {f : List Nat} (h : Named E s s' a w χ χ' hd hd' f) {x : AV} {u : Value} {g : List Nat} (hx : repR w (free χ w) (· ∈ s.us) (tab s hd) x u g) : repR w (free χ' w) (· ∈ s'.us) (tab s' hd') x u g :=
  repR_mono _ _ _ hx (fun b hb => (h.fr b).1 hb) (fun _ _ => rfl) (fun _ _ => rfl) h.us (fun i hi x hx => by rwa [h.tb i hi] at hx)

mutual
theorem rtf_sound {E : Env} {a : Act} {w : World} {κ : Nat} : ∀ (x : AV) (u : Value) (f ids : List Nat) (s : St) (χ : Nat → Option Nat) (hd : Nat → Value), Rel0 E s a w χ hd → rep w (free χ w) x u f → f.Nodup → (∀ b ∈ f, χ b = some κ) → (∀ b ∈ f, E.w0.heap.size ≤ b) → (∀ b ∈ f, ¬ E.Jk b) → (∀ R i, s.root i = some R → i ≠ κ) → ids.Nodup → (∀ i ∈ ids, i ∉ s.us ∧ i ≠ κ) →
    ∃ χ' hd', Named E s (s.addL (rtf x ids).2.1) a w χ χ' hd hd' f ∧ repR w (free χ' w) (· ∈ (s.addL (rtf x ids).2.1).us) (tab (s.addL (rtf x ids).2.1) hd') (rtf x ids).1 u [] ∧ (rtf x ids).2.2.Nodup ∧ (∀ i ∈ (rtf x ids).2.2, i ∉ (s.addL (rtf x ids).2.1).us ∧ i ≠ κ) ∧ (∀ R i, (s.addL (rtf x ids).2.1).root i = some R → i ≠ κ)
  | .own T sz xs, u, f, i :: ids, s, χ, hd, h, hr, hn, hc, hw, hJ, hk, hin, hi => by
    by_cases hz : 0 < sz
    · simp only [rtf, hz, if_true, St.addL]
      simp only [rep] at hr
      obtain ⟨vs, f', ho, hr, rfl⟩ := hr
      obtain ⟨hi1, hi2⟩ := hi i List.mem_cons_self
      let ff := u.ownBlock.toList ++ f'
      let χ' : Nat → Option Nat := fun b => if b ∈ ff then some i else χ b
      have hiJ : i ≠ JJ := by rintro rfl; exact hi1 h.jj
      have hfr : ∀ b, free χ w b ↔ free χ' w b := by
        intro b
        have : χ' b = none ↔ χ b = none := by
          simp only [χ']
          split
          · rename_i hm; rw [hc b hm]; simp
          · rfl
        exact ⟨fun hb => ⟨this.2 hb.1, hb.2⟩, fun hb => ⟨this.1 hb.1, hb.2⟩⟩
      have h1 : Rel0 E s a w χ' hd := by
        refine ⟨h.defers, h.size, h.os, h.tape, h.output, h.hsz, h.frame, h.fx, h.jj, h.rj, ?_, ?_, ?_, ?_⟩
        · intro b hb
          have : b ∉ ff := fun hm => hJ b hm hb
          simp only [χ', this, if_false]; exact h.jk b hb
        · intro b r hbr
          simp only [χ'] at hbr
          split at hbr
          · rename_i hm
            exact ⟨fun _ => .inl (hw b hm), (h.col b κ (hc b hm)).2⟩
          · exact h.col b r hbr
        · intro j Q hQ
          obtain ⟨q1, fq, q2, q3, q4⟩ := h.rts j Q hQ
          refine ⟨q1, fq, q2.mono (fun b hb => (hfr b).1 hb) (fun _ _ => rfl) (fun _ _ => rfl) (fun _ y => y) (fun _ _ _ y => y), q3, fun b hb => ?_⟩
          have hbj := q4 b hb
          have : b ∉ ff := fun hm => by have := hc b hm; rw [hbj] at this; cases this; exact hk Q κ hQ rfl
          simp only [χ', this, if_false]; exact hbj
        · intro t
          exact repR_mono _ _ _ (h.slots t) (fun b hb => (hfr b).1 hb) (fun _ _ => rfl) (fun _ _ => rfl) (fun _ y => y) (fun _ _ _ y => y)
      have h2 := h1.addRoot hi1 (R := ⟨T, sz, xs⟩) (v := u) (fp := ff) ⟨hz, vs, f', ho, repRLL_of _ _ _ (repLL_frame _ _ _ _ hr (fun b hb => (hfr b).1 hb) (fun _ _ => rfl) (fun _ _ => rfl)), rfl⟩ hn (fun b hb => by simp only [χ', hb, if_true])
      refine ⟨χ', _, ⟨h2, hfr, fun b hb => by simp only [χ', show b ∉ ff from hb, if_false], fun j hj => List.mem_cons_of_mem _ hj, fun j hj => ?_⟩, ?_, (List.nodup_cons.1 hin).2, ?_, ?_⟩
      · have hne : j ≠ i := fun e => hi1 (e ▸ hj)
        simp [tab, St.root_add_ne s hne, hne]
      · simp only [repR]
        refine ⟨trivial, List.mem_cons_self, ?_⟩
        intro h' n' sz' hh
        simp [tab, St.root_add_same] at hh
        obtain ⟨rfl, rfl, rfl⟩ := hh
        exact ⟨by omega, subHd_self ho, ownsRow_cap ho⟩
      · intro j hj
        obtain ⟨j1, j2⟩ := hi j (List.mem_cons_of_mem _ hj)
        refine ⟨?_, j2⟩
        show j ∉ i :: s.us
        rw [List.mem_cons]
        rintro (rfl | hm)
        · exact (List.nodup_cons.1 hin).1 hj
        · exact j1 hm
      · intro R j hR
        by_cases hj : j = i
        · subst hj; exact hi2
        · rw [St.root_add_ne s hj] at hR; exact hk R j hR
    · simp only [rtf, hz, if_false, St.addL]
      exact ⟨χ, hd, ⟨h, fun _ => Iff.rfl, fun _ _ => rfl, fun _ y => y, fun _ _ => rfl⟩, repR_dead u, hin, hi, hk⟩
  | .own _ _ _, u, f, [], s, χ, hd, h, hr, hn, hc, hw, hJ, hk, hin, hi => by
    simp only [rtf, St.addL]
    exact ⟨χ, hd, ⟨h, fun _ => Iff.rfl, fun _ _ => rfl, fun _ y => y, fun _ _ => rfl⟩, repR_dead u, hin, hi, hk⟩
  | .agg cs, u, f, ids, s, χ, hd, h, hr, hn, hc, hw, hJ, hk, hin, hi => by
    simp only [rtf]
    simp only [rep] at hr
    obtain ⟨vs, rfl, hr⟩ := hr
    obtain ⟨χ', hd', h1, h2, h3, h4, h5⟩ := rtfL_sound cs vs f ids s χ hd h hr hn hc hw hJ hk hin hi
    exact ⟨χ', hd', h1, by simp only [repR]; exact ⟨vs, rfl, h2⟩, h3, h4, h5⟩
  | .tup cs, u, f, ids, s, χ, hd, h, hr, hn, hc, hw, hJ, hk, hin, hi => by
    simp only [rtf]
    simp only [rep] at hr
    obtain ⟨vs, rfl, hr⟩ := hr
    obtain ⟨χ', hd', h1, h2, h3, h4, h5⟩ := rtfL_sound cs vs f ids s χ hd h hr hn hc hw hJ hk hin hi
    exact ⟨χ', hd', h1, by simp only [repR]; exact ⟨vs, rfl, h2⟩, h3, h4, h5⟩
  | .fn _ _, u, f, ids, s, χ, hd, h, hr, hn, hc, hw, hJ, hk, hin, hi => by
    simp only [rtf, St.addL]
    exact ⟨χ, hd, ⟨h, fun _ => Iff.rfl, fun _ _ => rfl, fun _ y => y, fun _ _ => rfl⟩, repR_dead u, hin, hi, hk⟩
  | .dead, u, f, ids, s, χ, hd, h, hr, hn, hc, hw, hJ, hk, hin, hi => by
    simp only [rtf, St.addL]
    exact ⟨χ, hd, ⟨h, fun _ => Iff.rfl, fun _ _ => rfl, fun _ y => y, fun _ _ => rfl⟩, repR_dead u, hin, hi, hk⟩
  | .lit v, u, f, ids, s, χ, hd, h, hr, hn, hc, hw, hJ, hk, hin, hi => by
    simp only [rtf, St.addL]
    have hf : f = [] := by simp only [rep] at hr; exact hr.1
    subst hf
    exact ⟨χ, hd, Named.refl h, repR_of _ _ _ hr, hin, hi, hk⟩
  | .ro sz xs, u, f, ids, s, χ, hd, h, hr, hn, hc, hw, hJ, hk, hin, hi => by
    simp only [rtf, St.addL]
    have hf : f = [] := by simp only [rep] at hr; exact hr.1
    subst hf
    exact ⟨χ, hd, Named.refl h, repR_of _ _ _ hr, hin, hi, hk⟩
  | .rop cs o, u, f, ids, s, χ, hd, h, hr, hn, hc, hw, hJ, hk, hin, hi => by
    simp only [rtf, St.addL]
    have hf : f = [] := by simp only [rep] at hr; exact hr.1
    subst hf
    exact ⟨χ, hd, Named.refl h, repR_of _ _ _ hr, hin, hi, hk⟩
  | .sl _ _ _, u, f, ids, s, χ, hd, h, hr, hn, hc, hw, hJ, hk, hin, hi => by simp only [rep] at hr
  | .ptr _ _ _, u, f, ids, s, χ, hd, h, hr, hn, hc, hw, hJ, hk, hin, hi => by simp only [rep] at hr
theorem rtfL_sound {E : Env} {a : Act} {w : World} {κ : Nat} : ∀ (xs : List AV) (us : List Value) (f ids : List Nat) (s : St) (χ : Nat → Option Nat) (hd : Nat → Value), Rel0 E s a w χ hd → repL w (free χ w) xs us f → f.Nodup → (∀ b ∈ f, χ b = some κ) → (∀ b ∈ f, E.w0.heap.size ≤ b) → (∀ b ∈ f, ¬ E.Jk b) → (∀ R i, s.root i = some R → i ≠ κ) → ids.Nodup → (∀ i ∈ ids, i ∉ s.us ∧ i ≠ κ) →
    ∃ χ' hd', Named E s (s.addL (rtfL xs ids).2.1) a w χ χ' hd hd' f ∧ repRL w (free χ' w) (· ∈ (s.addL (rtfL xs ids).2.1).us) (tab (s.addL (rtfL xs ids).2.1) hd') (rtfL xs ids).1 us [] ∧ (rtfL xs ids).2.2.Nodup ∧ (∀ i ∈ (rtfL xs ids).2.2, i ∉ (s.addL (rtfL xs ids).2.1).us ∧ i ≠ κ) ∧ (∀ R i, (s.addL (rtfL xs ids).2.1).root i = some R → i ≠ κ)
  | [], us, f, ids, s, χ, hd, h, hr, hn, hc, hw, hJ, hk, hin, hi => by
    simp only [repL] at hr
    obtain ⟨rfl, rfl⟩ := hr
    simp only [rtfL, St.addL]
    exact ⟨χ, hd, Named.refl h, by simp [repRL], hin, hi, hk⟩
  | x :: xs, us, f, ids, s, χ, hd, h, hr, hn, hc, hw, hJ, hk, hin, hi => by
    simp only [repL] at hr
    obtain ⟨u, us', f1, f2, rfl, rfl, hr1, hr2⟩ := hr
    rw [List.nodup_append] at hn
    obtain ⟨χ1, hd1, n1, r1, d1, i1, k1⟩ := rtf_sound x u f1 ids s χ hd h hr1 hn.1 (fun b hb => hc b (by simp [hb])) (fun b hb => hw b (by simp [hb])) (fun b hb => hJ b (by simp [hb])) hk hin hi
    have hr2' : repL w (free χ1 w) xs us' f2 := repL_frame _ _ _ hr2 (fun b hb => (n1.fr b).1 hb) (fun _ _ => rfl) (fun _ _ => rfl)
    obtain ⟨χ2, hd2, n2, r2, d2, i2, k2⟩ := rtfL_sound xs us' f2 (rtf x ids).2.2 _ χ1 hd1 n1.rel hr2' hn.2.1 (fun b hb => by rw [n1.other b (fun hb1 => hn.2.2 b hb1 b hb rfl)]; exact hc b (by simp [hb])) (fun b hb => hw b (by simp [hb])) (fun b hb => hJ b (by simp [hb])) k1 d1 i1
    simp only [rtfL, St.addL_append]
    refine ⟨χ2, hd2, ⟨n2.rel, fun b => (n1.fr b).trans (n2.fr b), fun b hb => ?_, fun j hj => n2.us j (n1.us j hj), fun j hj => (n2.tb j (n1.us j hj)).trans (n1.tb j hj)⟩, ?_, d2, i2, k2⟩
    · rw [List.mem_append, not_or] at hb
      rw [n2.other b hb.2, n1.other b hb.1]
    · simp only [repRL]
      exact ⟨u, us', [], [], rfl, rfl, n2.repR r1, r2⟩
end

/-- the call of a function with a contract; what it gives leads to nothing that the caller owns -/
theorem opTo_callF {E : Env} {o : Oper} {s : St} {x : Operand} {f : FuncId} {caps : List AV} {args : Array Operand} {tys : Array TypeId} (ho : o.op = .call ⟨.value x, args, tys⟩) (hx : opnd s x = .fn f caps) (hd : okD E.n o.dst = true) {outs : List AV} (hout : outL s (args.toList.map (opnd s) ++ caps) = some outs) {res : AV} (hm : Meets E.P f outs res) (hro : noRo res = true)
    (ids : List Nat) (hin : ids.Nodup) (hids : ∀ i ∈ ids, i ∉ s.us) : OpTo E o s ((s.addL (rtf res ids).2.1).putO o.dst (rtf res ids).1) := by
  rintro a w ⟨χ, hd', h⟩ K Q hk
  obtain ⟨dst, op, type, pos, after, guard⟩ := o
  simp only at ho hd hk
  subst ho
  obtain ⟨hent, hm⟩ := hm
  have hxr := opnd_rep h x
  rw [hx] at hxr
  simp only [repR] at hxr
  obtain ⟨vs, hxv, hcr⟩ := hxr
  have hargs := outL_sound h _ _ _ _ (repRL_nil_append (opndL_rep h args.toList) hcr) rfl hout
  have hc := hm w (fun b => b < w.heap.size) _ hargs (fun _ h => h)
  have hrun : (execOp a.eval ⟨dst, .call ⟨.value x, args, tys⟩, type, pos, after, guard⟩).run E.P w = .ok (.enter f (args.toList.map a.eval ++ vs).toArray) w := by
    have e1 : (args.toList.map a.eval ++ vs).toArray = args.map a.eval ++ vs.toArray := by
      rw [← Array.toList_map]
      apply Array.ext'
      simp
    simp only [execOp, resolve, hxv, invoke, Deferred.ofValue, Sem.run_bind, Sem.run_pure, Result.andThen_ok]
    simp only [Array.empty_append]
    rw [e1]
    exact hent _ w
  unfold Oper.wp
  rw [hrun]
  show Calls E.P f _ w _
  refine hc.mono ?_
  rintro e w' ⟨v, fp, rfl, hb, hdr, hr, hn, hge⟩
  show K _ _
  -- a colour that nothing has
  obtain ⟨κ, hκ⟩ : ∃ κ : Nat, κ ∉ s.us ∧ κ ∉ ids ∧ κ ≠ JJ := by
    have : ∃ κ : Nat, ∀ x ∈ s.us ++ ids ++ [JJ], x < κ := by
      generalize s.us ++ ids ++ [JJ] = l
      induction l with
      | nil => exact ⟨0, by simp⟩
      | cons y l ih =>
        obtain ⟨κ, hκ⟩ := ih
        refine ⟨max κ (y + 1), ?_⟩
        intro x hx
        rcases List.mem_cons.1 hx with rfl | hx
        · omega
        · have := hκ x hx; omega
    obtain ⟨κ, hκ⟩ := this
    refine ⟨κ, fun hm => ?_, fun hm => ?_, fun hm => ?_⟩
    · have := hκ κ (by simp [hm]); omega
    · have := hκ κ (by simp [hm]); omega
    · have := hκ JJ (by simp); omega
  have hlt := rep_lt _ _ _ hr
  have h1 := h.grow hb hdr (fun b => if b ∈ fp then some κ else none) (fun b r hbr => by
    split at hbr
    · rename_i hm; exact hlt b hm
    · cases hbr)
  have hr2 := rep_noRo (S2 := free (fun b => if b < w.heap.size then χ b else if b ∈ fp then some κ else none) w') _ _ _ hr hro
  obtain ⟨χ2, hd2, n2, r2, _, _, _⟩ := rtf_sound (κ := κ) res v fp ids s _ hd' h1 hr2 hn (fun b hb => by
      have := hge b hb
      rw [if_neg (by omega), if_pos hb]) (fun b hb => by have := hge b hb; have := h.hsz; omega) (fun b hb hj => by
      have h3 := h.jk b hj
      have h4 := (h.col b _ h3).2
      have := hge b hb
      omega) (fun R i hR => fun e => hκ.1 (e ▸ (h.rts i R hR).1)) hin (fun i hi => ⟨hids i hi, fun e => hκ.2.1 (e ▸ hi)⟩)
  exact hk _ _ ⟨χ2, hd2, n2.rel.putO hd r2⟩

theorem opTo_call {E : Env} {o : Oper} {s : St} {f : FuncId} {args : Array Operand} {tys : Array TypeId} (ho : o.op = .call ⟨.value (.func f), args, tys⟩) (hd : okD E.n o.dst = true) {outs : List AV} (hout : outL s (args.toList.map (opnd s)) = some outs) {res : AV} (hm : Meets E.P f outs res) (hro : noRo res = true)
    (ids : List Nat) (hin : ids.Nodup) (hids : ∀ i ∈ ids, i ∉ s.us) : OpTo E o s ((s.addL (rtf res ids).2.1).putO o.dst (rtf res ids).1) :=
  opTo_callF (x := .func f) (caps := []) ho rfl hd (by rw [List.append_nil]; exact hout) hm hro ids hin hids

/- ------------------------------------------------ what a function hands back -/
mutual
def pk (s : St) : AV → Option AV
  | .lit v => some (.lit v)
  | .ro sz xs => some (.ro sz xs)
  | .sl i 0 len => match s.root i with
    | some R => if treeLL (R.xs.take len) then some (.own R.T R.sz (R.xs.take len)) else none
    | none => none
  | .agg cs => match pkL s cs with
    | some ds => some (.agg ds)
    | none => none
  | .tup cs => match pkL s cs with
    | some ds => some (.tup ds)
    | none => none
  | _ => none
def pkL (s : St) : List AV → Option (List AV)
  | [] => some []
  | c :: cs => match pk s c, pkL s cs with
    | some d, some ds => some (d :: ds)
    | _, _ => none
end
mutual
def pkI : AV → List Nat
  | .sl i _ _ => [i]
  | .agg cs => pkIL cs
  | .tup cs => pkIL cs
  | _ => []
def pkIL : List AV → List Nat
  | [] => []
  | c :: cs => pkI c ++ pkIL cs
end

mutual
theorem pk_sound {E : Env} {s : St} {a : Act} {w : World} {χ : Nat → Option Nat} {hd : Nat → Value} (h : Rel0 E s a w χ hd) : ∀ (x y : AV) (u : Value) (f : List Nat), repR w (free χ w) (· ∈ s.us) (tab s hd) x u f → f = [] → pk s x = some y → (pkI x).Nodup → ∃ g, rep w (free χ w) y u g ∧ g.Nodup ∧ (∀ b ∈ g, ∃ i ∈ pkI x, χ b = some i ∧ i ≠ JJ)
  | .lit v, y, u, f, hr, hf, he, hn => by
    simp only [pk] at he; cases he; simp only [repR] at hr; subst hf; exact ⟨[], hr, by simp, by simp⟩
  | .ro sz xs, y, u, f, hr, hf, he, hn => by
    simp only [pk] at he; cases he; simp only [repR] at hr; subst hf; exact ⟨[], hr, by simp, by simp⟩
  | .sl i 0 len, y, u, f, hr, hf, he, hn => by
    simp only [pk] at he
    split at he
    case h_2 => cases he
    rename_i R hR
    split at he
    case isFalse => cases he
    rename_i ht
    cases he
    simp only [repR] at hr
    obtain ⟨_, _, hr⟩ := hr
    obtain ⟨hle, ⟨A0, cap, rfl, hcap, h0, _⟩, _⟩ := hr (hd i) R.xs.length R.sz (by simp [tab, hR])
    obtain ⟨_, fp, ⟨hz, vs, fp', hown, hrep, rfl⟩, hnd, hcol⟩ := h.rts i R hR
    obtain ⟨m, hm0⟩ := h0 rfl
    have hmx : m = R.xs.length := by
      obtain ⟨A1, cap1, he1, _⟩ := ownsRow_hd hown
      rw [hm0] at he1; cases he1; rfl
    subst hmx
    have hrep' := hrep
    rw [← List.take_append_drop len R.xs] at hrep'
    obtain ⟨v1, v2, f1, f2, rfl, rfl, hl1, k1, k2⟩ := repRLL_split _ _ _ _ hrep'
    have hlx : (R.xs.take len).length = len := by rw [List.length_take]; omega
    rw [hlx] at hl1
    have hp := ownsRow_prefix (w := w) (len := len) (by rw [hm0] at hown; exact hown) (by omega)
    have ev : (v1 ++ v2).take (len * R.sz) = v1 := by rw [← hl1]; exact List.take_left
    rw [ev] at hp
    have hob : (Value.slice A0 len cap).ownBlock = (hd i).ownBlock := by rw [hm0]; cases A0 <;> rfl
    have hiJ : i ≠ JJ := fun e => by rw [e, h.rj] at hR; cases hR
    refine ⟨(Value.slice A0 len cap).ownBlock.toList ++ f1, ?_, ?_, ?_⟩
    · simp only [rep]
      exact ⟨v1, f1, by rw [hlx]; exact hp, repLL_of_tree _ _ _ k1 ht, rfl⟩
    · rw [hob]
      have : ((hd i).ownBlock.toList ++ f1 ++ f2).Nodup := by rw [List.append_assoc]; exact hnd
      exact (List.nodup_append.1 this).1
    · intro b hb
      refine ⟨i, by simp [pkI], hcol b ?_, hiJ⟩
      rw [hob] at hb
      rcases List.mem_append.1 hb with hb | hb
      · exact List.mem_append_left _ hb
      · exact List.mem_append_right _ (List.mem_append_left _ hb)
  | .sl i (off + 1) len, y, u, f, hr, hf, he, hn => by simp [pk] at he
  | .agg cs, y, u, f, hr, hf, he, hn => by
    simp only [pk] at he
    split at he
    case h_2 => cases he
    rename_i ds hds
    cases he
    simp only [repR] at hr
    obtain ⟨vs, rfl, hr⟩ := hr
    obtain ⟨g, h1, h2, h3⟩ := pkL_sound h cs ds vs f hr hf hds hn
    exact ⟨g, by simp only [rep]; exact ⟨vs, rfl, h1⟩, h2, h3⟩
  | .tup cs, y, u, f, hr, hf, he, hn => by
    simp only [pk] at he
    split at he
    case h_2 => cases he
    rename_i ds hds
    cases he
    simp only [repR] at hr
    obtain ⟨vs, rfl, hr⟩ := hr
    obtain ⟨g, h1, h2, h3⟩ := pkL_sound h cs ds vs f hr hf hds hn
    exact ⟨g, by simp only [rep]; exact ⟨vs, rfl, h1⟩, h2, h3⟩
  | .dead, _, _, _, _, _, he, _ => by simp [pk] at he
  | .own _ _ _, _, _, _, _, _, he, _ => by simp [pk] at he
  | .ptr _ _ _, _, _, _, _, _, he, _ => by simp [pk] at he
  | .rop _ _, _, _, _, _, _, he, _ => by simp [pk] at he
  | .fn _ _, _, _, _, _, _, he, _ => by simp [pk] at he
theorem pkL_sound {E : Env} {s : St} {a : Act} {w : World} {χ : Nat → Option Nat} {hd : Nat → Value} (h : Rel0 E s a w χ hd) : ∀ (xs ys : List AV) (us : List Value) (f : List Nat), repRL w (free χ w) (· ∈ s.us) (tab s hd) xs us f → f = [] → pkL s xs = some ys → (pkIL xs).Nodup → ∃ g, repL w (free χ w) ys us g ∧ g.Nodup ∧ (∀ b ∈ g, ∃ i ∈ pkIL xs, χ b = some i ∧ i ≠ JJ)
  | [], ys, us, f, hr, hf, he, hn => by
    simp only [pkL] at he; cases he; simp only [repRL] at hr
    exact ⟨[], by simp only [repL]; exact ⟨hr.1, trivial⟩, by simp, by simp⟩
  | c :: cs, ys, us, f, hr, hf, he, hn => by
    simp only [pkL] at he
    split at he
    case h_2 => cases he
    rename_i d ds h1 h2
    cases he
    simp only [repRL] at hr
    obtain ⟨u, us', f1, f2, rfl, hf', k1, k2⟩ := hr
    rw [hf] at hf'
    obtain ⟨e1, e2⟩ := List.append_eq_nil_iff.1 hf'.symm
    simp only [pkIL, List.nodup_append] at hn
    obtain ⟨g1, a1, a2, a3⟩ := pk_sound h c d u f1 k1 e1 h1 hn.1
    obtain ⟨g2, b1, b2, b3⟩ := pkL_sound h cs ds us' f2 k2 e2 h2 hn.2.1
    refine ⟨g1 ++ g2, by simp only [repL]; exact ⟨u, us', g1, g2, rfl, rfl, a1, b1⟩, ?_, ?_⟩
    · rw [List.nodup_append]
      refine ⟨a2, b2, ?_⟩
      intro b hb b' hb' e
      subst e
      obtain ⟨i, hi, hi2, _⟩ := a3 b hb
      obtain ⟨j, hj, hj2, _⟩ := b3 b hb'
      rw [hi2] at hj2; cases hj2
      exact hn.2.2 i hi i hj rfl
    · intro b hb
      simp only [pkIL]
      rcases List.mem_append.1 hb with hb | hb
      · obtain ⟨i, hi, hi2⟩ := a3 b hb; exact ⟨i, List.mem_append_left _ hi, hi2⟩
      · obtain ⟨i, hi, hi2⟩ := b3 b hb; exact ⟨i, List.mem_append_right _ hi, hi2⟩
end
end Go.T
