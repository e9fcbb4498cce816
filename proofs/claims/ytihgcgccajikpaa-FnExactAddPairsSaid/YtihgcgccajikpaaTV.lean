/- Lemmas for FnExactAddPairs; no condition. -/

import Derived.Test.YtihgcgccajikpaaTU
set_option linter.unusedVariables false
namespace Go.T
open Go Go.RowKit Go.Proofs

/- ------------------------------------------------ rows that are handed over, for good or for a while -/
def hdT (rs : List Root) (hd : Nat → Value) : Tab := fun i => (rs[i]?).map fun R => (hd i, R.xs.length, R.sz)
def MeetsR (P : Program) (f : FuncId) (rs : List Root) (args : List AV) (ks : List Bool) (rs' : List Root) (res : AV) : Prop :=
  Enters P f ∧ ∀ (w : World) (S : Nat → Prop) (hd : Nat → Value) (fp : Nat → List Nat) (vals : List Value),
    (∀ i R, rs[i]? = some R → 0 < R.sz ∧ Row w R.T R.sz (hd i) R.xs (fp i) ∧ (fp i).Nodup) → (∀ i, rs[i]? = none → fp i = []) →
    (∀ i j b, b ∈ fp i → b ∈ fp j → i = j) → (∀ i b, b ∈ fp i → ¬ S b) → (∀ b, S b → b < w.heap.size) →
    repRL w S (fun i => i < rs.length) (hdT rs hd) args vals [] →
    Calls P f vals.toArray w (fun e w' => ∃ (v : Value) (fp' : Nat → List Nat) (g : List Nat), e = .returned v ∧ w'.os = w.os ∧ Tp w w' ∧ w'.output = w.output ∧ w.heap.size ≤ w'.heap.size ∧
      (∀ k, k < w.heap.size → (∀ i, k ∉ fp i) → w'.heap[k]? = w.heap[k]?) ∧
      (∀ i R', rs'[i]? = some R' → ks[i]? = some true → Row w' R'.T R'.sz (hd i) R'.xs (fp' i) ∧ (fp' i).Nodup) ∧
      (∀ i, ks[i]? ≠ some true → fp' i = []) ∧ (∀ i b, b ∈ fp' i → (∃ j, b ∈ fp j) ∨ w.heap.size ≤ b) ∧
      repR w' NS (fun i => ks[i]? = some true) (hdT rs' hd) res v g ∧ g.Nodup ∧ (∀ b ∈ g, ((∃ j, b ∈ fp j) ∨ w.heap.size ≤ b) ∧ b < w'.heap.size) ∧
      (∀ i j b, b ∈ fp' i → b ∈ fp' j → i = j) ∧ (∀ i b, b ∈ fp' i → b ∉ g ∧ b < w'.heap.size))

mutual
def outR (s : St) (π : List (Nat × Nat)) : AV → Option AV
  | .lit v => some (.lit v)
  | .ro sz xs => some (.ro sz xs)
  | .rop cs o => some (.rop cs o)
  | .sl i off len => match π.lookup i with
    | some j => some (.sl j off len)
    | none => match s.root i with
      | some R => if treeLL ((R.xs.drop off).take len) then some (.ro R.sz (frzLL ((R.xs.drop off).take len))) else none
      | none => none
  | .ptr i e o => match π.lookup i with
    | some j => some (.ptr j e o)
    | none => match s.root i with
      | some R => match R.xs[e]? with
        | some x => if treeL x then some (.rop (frzL x) o) else none
        | none => none
      | none => none
  | .agg cs => match outRL s π cs with
    | some ds => some (.agg ds)
    | none => none
  | .fn g cs => match outRL s π cs with
    | some ds => some (.fn g ds)
    | none => none
  | _ => none
def outRL (s : St) (π : List (Nat × Nat)) : List AV → Option (List AV)
  | [] => some []
  | c :: cs => match outR s π c, outRL s π cs with
    | some d, some ds => some (d :: ds)
    | _, _ => none
end
section
variable {E : Env} {s : St} {a : Act} {w : World} {χ : Nat → Option Nat} {hd : Nat → Value} {π : List (Nat × Nat)} {S2 U : Nat → Prop} {ρ : Tab}
mutual
theorem outR_sound (h : Rel0 E s a w χ hd) (hS : ∀ b, free χ w b → S2 b) (hS2 : ∀ i R b, s.root i = some R → π.lookup i = none → χ b = some i → S2 b) (hU : ∀ i j, π.lookup i = some j → U j) (hρ : ∀ i j, π.lookup i = some j → ρ j = tab s hd i) :
    ∀ (x y : AV) (u : Value) (f : List Nat), repR w (free χ w) (· ∈ s.us) (tab s hd) x u f → f = [] → outR s π x = some y → repR w S2 U ρ y u []
  | .lit v, y, u, f, hr, hf, he => by simp only [outR] at he; cases he; simp only [repR] at hr ⊢; subst hf; exact rep_frame _ _ _ hr hS (fun _ _ => rfl) (by simp)
  | .ro sz xs, y, u, f, hr, hf, he => by simp only [outR] at he; cases he; simp only [repR] at hr ⊢; subst hf; exact rep_frame _ _ _ hr hS (fun _ _ => rfl) (by simp)
  | .rop cs o, y, u, f, hr, hf, he => by simp only [outR] at he; cases he; simp only [repR] at hr ⊢; subst hf; exact rep_frame _ _ _ hr hS (fun _ _ => rfl) (by simp)
  | .sl i off len, y, u, f, hr, hf, he => by
    simp only [outR] at he
    split at he
    · rename_i j hj
      cases he
      simp only [repR] at hr ⊢
      exact ⟨trivial, hU _ _ hj, fun a b c hh => hr.2.2 a b c (by rw [← hρ _ _ hj]; exact hh)⟩
    · rename_i hπ
      split at he
      case h_2 => cases he
      rename_i R hR
      split at he
      case isFalse => cases he
      rename_i ht
      cases he
      simp only [repR] at hr
      obtain ⟨_, _, hr⟩ := hr
      obtain ⟨hle, hu, _⟩ := hr (hd i) R.xs.length R.sz (by simp [tab, hR])
      obtain ⟨A, cap, vs, g, rfl, hcap, hrr, hg, hA⟩ := win_rep h hR hle hu
      have hlen : ((R.xs.drop off).take len).length = len := by rw [List.length_take, List.length_drop]; omega
      have hz := repLL_frz (S2 := S2) _ _ _ _ (repLL_of_tree _ _ _ hrr ht) hS (fun b hb => hS2 i R b hR hπ (hg b hb))
      simp only [repR, rep]
      refine ⟨trivial, A, cap, by rw [frzLL_length, hlen], by rw [frzLL_length, hlen]; exact hcap, ?_⟩
      by_cases hl : len = 0
      · left; exact frzLL_nil (by rw [hl, List.take_zero])
      · obtain ⟨b, rfl, hat, hcb⟩ := hA (by omega)
        exact .inr ⟨b, _, vs, rfl, hS2 i R b hR hπ hcb, hat, hz⟩
  | .ptr i e o, y, u, f, hr, hf, he => by
    simp only [outR] at he
    split at he
    · rename_i j hj
      cases he
      simp only [repR] at hr ⊢
      exact ⟨trivial, hU _ _ hj, fun a b c hh => hr.2.2 a b c (by rw [← hρ _ _ hj]; exact hh)⟩
    · rename_i hπ
      split at he
      case h_2 => cases he
      rename_i R hR
      split at he
      case h_2 => cases he
      rename_i x hx
      split at he
      case isFalse => cases he
      rename_i ht
      cases he
      simp only [repR] at hr
      obtain ⟨_, _, hr⟩ := hr
      obtain ⟨hlt, b, m, c, hh, rfl⟩ := hr (hd i) R.xs.length R.sz (by simp [tab, hR])
      obtain ⟨_, fp, ⟨hz, vs, fp', hown, hrep, rfl⟩, _, hcol⟩ := h.rts i R hR
      obtain ⟨v1, us, v2, f1, fe, f2, rfl, rfl, hl1, hlus, h1c, k1, kx, k2⟩ := repRLL_at hrep hx
      have hat := ownsRow_at hown (b := b) (by rw [hh]; rfl)
      have hz := repL_frz (S2 := S2) _ _ _ (repL_of_tree _ _ _ kx ht) hS (fun b hb => hS2 i R b hR hπ (hcol b (by simp [hb])))
      simp only [repR, rep]
      refine ⟨trivial, b, e * R.sz, us, rfl, hS2 i R b hR hπ (hcol b (by rw [hh]; simp [Value.ownBlock])), ?_, hz⟩
      intro k v hk
      have hkl : k < us.length := (List.getElem?_eq_some_iff.1 hk).1
      have := hat (e * R.sz + k) v (by rw [List.append_assoc, List.getElem?_append_right (by omega), show e * R.sz + k - v1.length = k by omega, List.getElem?_append_left hkl]; exact hk)
      simpa using this
  | .agg cs, y, u, f, hr, hf, he => by
    simp only [outR] at he
    split at he
    case h_2 => cases he
    rename_i ds hds
    cases he
    simp only [repR] at hr ⊢
    obtain ⟨vs, rfl, hr⟩ := hr
    exact ⟨vs, rfl, outRL_sound h hS hS2 hU hρ cs ds vs f hr hf hds⟩
  | .fn g cs, y, u, f, hr, hf, he => by
    simp only [outR] at he
    split at he
    case h_2 => cases he
    rename_i ds hds
    cases he
    simp only [repR] at hr ⊢
    obtain ⟨vs, rfl, hr⟩ := hr
    exact ⟨vs, rfl, outRL_sound h hS hS2 hU hρ cs ds vs f hr hf hds⟩
  | .dead, y, u, f, hr, hf, he => by simp [outR] at he
  | .own _ _ _, y, u, f, hr, hf, he => by simp [outR] at he
  | .tup _, y, u, f, hr, hf, he => by simp [outR] at he
theorem outRL_sound (h : Rel0 E s a w χ hd) (hS : ∀ b, free χ w b → S2 b) (hS2 : ∀ i R b, s.root i = some R → π.lookup i = none → χ b = some i → S2 b) (hU : ∀ i j, π.lookup i = some j → U j) (hρ : ∀ i j, π.lookup i = some j → ρ j = tab s hd i) :
    ∀ (xs ys : List AV) (us : List Value) (f : List Nat), repRL w (free χ w) (· ∈ s.us) (tab s hd) xs us f → f = [] → outRL s π xs = some ys → repRL w S2 U ρ ys us []
  | [], ys, us, f, hr, hf, he => by simp only [outRL] at he; cases he; simp only [repRL] at hr ⊢; exact ⟨hr.1, trivial⟩
  | c :: cs, ys, us, f, hr, hf, he => by
    simp only [outRL] at he
    split at he
    case h_2 => cases he
    rename_i d ds h1 h2
    cases he
    simp only [repRL] at hr ⊢
    obtain ⟨u, us', f1, f2, rfl, hf', k1, k2⟩ := hr
    rw [hf] at hf'
    obtain ⟨e1, e2⟩ := List.append_eq_nil_iff.1 hf'.symm
    exact ⟨u, us', [], [], rfl, rfl, outR_sound h hS hS2 hU hρ c d u f1 k1 e1 h1, outRL_sound h hS hS2 hU hρ cs ds us' f2 k2 e2 h2⟩
end
end

/-- the roots behind a call -/
def St.back (s : St) (bk : List (Nat × Option Root)) : St := { s with rt := bk ++ s.rt }
def bkOf : List Nat → List Bool → List Root → List (Nat × Option Root)
  | i :: ρ, k :: ks, R :: rs => (i, if k then some R else none) :: bkOf ρ ks rs
  | _, _, _ => []
def sameB : List Root → List Root → Bool
  | R :: rs, R' :: rs' => decide (R'.T = R.T) && decide (R'.sz = R.sz) && sameB rs rs'
  | [], [] => true
  | _, _ => false
def sameL : List Root → List Root → Prop
  | R :: rs, R' :: rs' => R'.xs.length = R.xs.length ∧ sameL rs rs'
  | _, _ => True
theorem sameB_at : ∀ {rs rs' : List Root} {i : Nat} {R R' : Root}, sameB rs rs' = true → rs[i]? = some R → rs'[i]? = some R' → R'.T = R.T ∧ R'.sz = R.sz
  | [], _, i, R, R', h, h1, _ => by simp at h1
  | _ :: _, [], i, R, R', h, _, h2 => by simp at h2
  | X :: rs, X' :: rs', 0, R, R', h, h1, h2 => by
    simp only [sameB, Bool.and_eq_true, decide_eq_true_eq] at h
    simp at h1 h2; subst h1; subst h2; exact h.1
  | X :: rs, X' :: rs', i + 1, R, R', h, h1, h2 => by
    simp only [sameB, Bool.and_eq_true] at h
    exact sameB_at h.2 (by simpa using h1) (by simpa using h2)
theorem sameB_len : ∀ {rs rs' : List Root}, sameB rs rs' = true → rs'.length = rs.length
  | [], [], _ => rfl
  | [], _ :: _, h => by simp [sameB] at h
  | _ :: _, [], h => by simp [sameB] at h
  | X :: rs, X' :: rs', h => by
    simp only [sameB, Bool.and_eq_true] at h
    simp [sameB_len h.2]
theorem sameL_at : ∀ {rs rs' : List Root} {i : Nat} {R R' : Root}, sameL rs rs' → rs[i]? = some R → rs'[i]? = some R' → R'.xs.length = R.xs.length
  | [], _, i, R, R', h, h1, _ => by simp at h1
  | _ :: _, [], i, R, R', h, _, h2 => by simp at h2
  | X :: rs, X' :: rs', 0, R, R', h, h1, h2 => by simp at h1 h2; subst h1; subst h2; exact h.1
  | X :: rs, X' :: rs', i + 1, R, R', h, h1, h2 => sameL_at h.2 (by simpa using h1) (by simpa using h2)
/-- the caller's roots are the callee's -/
def rootsB (s : St) : List Nat → List Root → Prop
  | i :: ρ, R :: rs => s.root i = some R ∧ rootsB s ρ rs
  | [], [] => True
  | _, _ => False
theorem rootsB_at {s : St} : ∀ {ρ : List Nat} {rs : List Root}, rootsB s ρ rs → ρ.length = rs.length ∧ ∀ (k i : Nat), ρ[k]? = some i → ∃ R, rs[k]? = some R ∧ s.root i = some R
  | [], [], _ => ⟨rfl, by simp⟩
  | [], _ :: _, h => h.elim
  | _ :: _, [], h => h.elim
  | i :: ρ, R :: rs, h => by
    obtain ⟨h1, h2⟩ := rootsB_at h.2
    refine ⟨by simp [h1], ?_⟩
    intro k j hk
    cases k with
    | zero => simp at hk; subst hk; exact ⟨R, rfl, h.1⟩
    | succ k => simpa using h2 k j (by simpa using hk)
theorem bkOf_none : ∀ {ρ : List Nat} {ks : List Bool} {rs : List Root} {i : Nat}, i ∉ ρ → (bkOf ρ ks rs).lookup i = none
  | [], _, _, i, _ => by simp [bkOf]
  | _ :: _, [], _, i, _ => by simp [bkOf]
  | _ :: _, _ :: _, [], i, _ => by simp [bkOf]
  | j :: ρ, k :: ks, R :: rs, i, h => by
    simp only [bkOf]
    rw [lookup_cons_ne (by intro e; exact h (e ▸ List.mem_cons_self))]
    exact bkOf_none (fun hm => h (List.mem_cons_of_mem _ hm))
theorem bkOf_at : ∀ {ρ : List Nat} {ks : List Bool} {rs : List Root}, ρ.Nodup → ks.length = ρ.length → rs.length = ρ.length → ∀ {k i : Nat}, ρ[k]? = some i → ∃ R b, rs[k]? = some R ∧ ks[k]? = some b ∧ (bkOf ρ ks rs).lookup i = some (if b then some R else none)
  | [], _, _, _, _, _, k, i, h => by simp at h
  | _ :: _, [], _, _, h, _, k, i, _ => by simp at h
  | _ :: _, _ :: _, [], _, _, h, k, i, _ => by simp at h
  | j :: ρ, b :: ks, R :: rs, hn, h1, h2, k, i, h => by
    cases k with
    | zero => simp at h; subst h; exact ⟨R, b, rfl, rfl, by simp only [bkOf, lookup_cons_same]⟩
    | succ k =>
      have hk : ρ[k]? = some i := by simpa using h
      have hne : i ≠ j := by
        rintro rfl
        exact (List.nodup_cons.1 hn).1 (List.mem_of_getElem? hk)
      obtain ⟨R', b', e1, e2, e3⟩ := bkOf_at (List.nodup_cons.1 hn).2 (by simpa using h1) (by simpa using h2) hk
      exact ⟨R', b', by simpa using e1, by simpa using e2, by simp only [bkOf]; rw [lookup_cons_ne hne]; exact e3⟩
theorem back_root (s : St) (bk : List (Nat × Option Root)) (i : Nat) : (s.back bk).root i = ((bk.lookup i).getD (s.root i)) := by
  simp only [St.root, St.back, List.lookup_append]
  cases bk.lookup i <;> rfl
theorem nodup_idx : ∀ {ρ : List Nat}, ρ.Nodup → ∀ {i j x : Nat}, ρ[i]? = some x → ρ[j]? = some x → i = j
  | [], _, i, j, x, h, _ => by simp at h
  | y :: ρ, hn, i, j, x, h1, h2 => by
    rw [List.nodup_cons] at hn
    cases i with
    | zero =>
      cases j with
      | zero => rfl
      | succ j =>
        simp at h1 h2; subst h1
        exact absurd (List.mem_of_getElem? h2) hn.1
    | succ i =>
      cases j with
      | zero =>
        simp at h1 h2; subst h2
        exact absurd (List.mem_of_getElem? h1) hn.1
      | succ j =>
        have := nodup_idx (i := i) (j := j) (x := x) hn.2 (by simpa using h1) (by simpa using h2)
        rw [this]
theorem zipIdx_lookup {ρ : List Nat} (hn : ρ.Nodup) {i j : Nat} : ρ.zipIdx.lookup i = some j ↔ ρ[j]? = some i := by
  constructor
  · intro h
    have := lookup_memP h
    have := List.mem_zipIdx_iff_getElem?.1 this
    exact this
  · intro h
    have hm : (i, j) ∈ ρ.zipIdx := List.mem_zipIdx_iff_getElem?.2 h
    refine nodup_lookup ?_ hm
    have : ρ.zipIdx.map Prod.fst = ρ := by simp
    show (ρ.zipIdx.map Prod.fst).Nodup
    rw [this]; exact hn
end Go.T
