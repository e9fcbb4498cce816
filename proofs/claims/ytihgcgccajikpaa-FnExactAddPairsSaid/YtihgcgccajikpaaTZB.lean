/- Lemmas for FnExactAddPairs; no condition. -/

import Derived.Test.YtihgcgccajikpaaTZ
set_option linter.unusedVariables false
namespace Go.T
open Go Go.RowKit Go.Proofs

/- ------------------------------------------------ memory operations in no order: the roots stand at which of them have run -/
abbrev Xs := List (Nat × Option Root) × List Nat
def mskS (Ms : List Nat) (listed : Array Bool) : List Bool := Ms.map fun k => listed.getD k false
def nxtS (i : Nat) (Ms : List Nat) (bs : List Bool) : List Bool := (Ms.zip bs).map fun p => p.2 || p.1 == i
def okS (Ms : List Nat) (A : List (List Nat)) (i : Nat) (bs : List Bool) : Bool := (Ms.zip bs).all fun p => ((!(ancs A i).contains p.1) || p.2) && ((!(p.1 == i || (ancs A p.1).contains i)) || !p.2) && ((Ms.zip bs).all fun q => !(p.2 && (ancs A p.1).contains q.1) || q.2)
theorem msk_set {Ms : List Nat} {listed : Array Bool} {i : Nat} (hi : i < listed.size) : mskS Ms (listed.setIfInBounds i true) = nxtS i Ms (mskS Ms listed) := by
  induction Ms with
  | nil => rfl
  | cons k Ms ih =>
    simp only [mskS, nxtS, List.map_cons, List.zip_cons_cons] at ih ⊢
    rw [ih]
    congr 1
    by_cases h : k = i
    · subst h; simp [hi]
    · rw [Go.getD_set_ne false (Ne.symm h)]
      have : (k == i) = false := by simp [h]
      rw [this, Bool.or_false]
theorem mem_msk {Ms : List Nat} {listed : Array Bool} {p : Nat × Bool} (h : p ∈ Ms.zip (mskS Ms listed)) : p.1 ∈ Ms ∧ p.2 = listed.getD p.1 false := by
  induction Ms with
  | nil => simp [mskS] at h
  | cons k Ms ih =>
    simp only [mskS, List.map_cons, List.zip_cons_cons, List.mem_cons] at h
    rcases h with rfl | h
    · exact ⟨List.mem_cons_self, rfl⟩
    · obtain ⟨h1, h2⟩ := ih h
      exact ⟨List.mem_cons_of_mem _ h1, h2⟩
theorem ok_msk {l : List Oper} {m : Nat} {A : List (List Nat)} (hA : ancB l m A = true) (hml : m ≤ l.length) (hedge : ∀ i o, i < m → l[i]? = some o → ∀ j ∈ edgesB o, j < i) {Ms : List Nat} (hMs : ∀ k ∈ Ms, k < m) {listed : Array Bool} (hc : Clo l m listed) {i : Nat} (hi : i < m) {o : Oper} (ho : l[i]? = some o)
    (hr : ∀ j ∈ edgesB o, listed.getD j false = true) (hu : listed.getD i false = false) : okS Ms A i (mskS Ms listed) = true := by
  have hanc := anc_listed hA hml hedge hc
  have hself : ∀ k ∈ Ms, listed.getD k false = true → ∀ j ∈ ancs A k, listed.getD j false = true := fun k hk hkl => hanc k (hMs k hk) (fun o' ho' j hj => hc k o' (hMs k hk) ho' hkl j hj)
  unfold okS
  rw [List.all_eq_true]
  intro p hp
  obtain ⟨p1, p2⟩ := mem_msk hp
  simp only [Bool.and_eq_true, Bool.or_eq_true, Bool.not_eq_true', List.all_eq_true]
  refine ⟨⟨?_, ?_⟩, ?_⟩
  · cases hcn : (ancs A i).contains p.1 with
    | false => exact .inl rfl
    | true =>
      right
      rw [p2]
      exact hanc i hi (fun o' ho' => by rw [ho] at ho'; cases ho'; exact hr) p.1 (by simpa using hcn)
  · rw [p2]
    cases hl : listed.getD p.1 false with
    | false => exact .inr rfl
    | true =>
      left
      simp only [Bool.or_eq_false_iff]
      refine ⟨?_, ?_⟩
      · rw [beq_eq_false_iff_ne]
        rintro rfl; rw [hu] at hl; cases hl
      · cases hcn : (ancs A p.1).contains i with
        | false => rfl
        | true =>
          have := hself p.1 p1 hl i (by simpa using hcn)
          rw [hu] at this; cases this
  · intro q hq
    obtain ⟨q1, q2⟩ := mem_msk hq
    rw [p2, q2]
    cases hl : listed.getD p.1 false with
    | false => left; rfl
    | true =>
      cases hcn : (ancs A p.1).contains q.1 with
      | false => left; rfl
      | true => right; exact hself p.1 p1 hl q.1 (by simpa using hcn)
/-- what stands while the head is done in whatever order -/
def MInvS (E : Env) (l : List Oper) (m : Nat) (sl : List (Nat × AV)) (G : List Bool → Xs) (Ms : List Nat) (rd : List (Nat × AV)) (listed : Array Bool) (a : Act) (w : World) : Prop :=
  Clo l m listed ∧ ∃ sl2, Rel E ⟨sl2, (G (mskS Ms listed)).1, (G (mskS Ms listed)).2⟩ a w ∧ (∀ j o d r, j < m → l[j]? = some o → listed.getD j false = true → o.dst = some d → rd.lookup d = some r → r.nd = true → sl2.lookup d = some r) ∧ (∀ t c, rd.lookup t = none → sl.lookup t = some c → c.nd = true → sl2.lookup t = some c)
def MOneS (E : Env) (l : List Oper) (m : Nat) (sl : List (Nat × AV)) (G : List Bool → Xs) (Ms : List Nat) (A : List (List Nat)) (rd : List (Nat × AV)) : Prop :=
  ∀ i o, i < m → l[i]? = some o → ∃ d r, o.dst = some d ∧ rd.lookup d = some r ∧ ∀ bs, bs.length = Ms.length → okS Ms A i bs = true → STo E l.toArray o (pickF l rd o ++ (maskF (l.take m) ++ sl)) (G bs) (G (nxtS i Ms bs)) d r
theorem minvS_step {E : Env} {l : List Oper} {m : Nat} {sl : List (Nat × AV)} {G : List Bool → Xs} {Ms : List Nat} {A : List (List Nat)} {rd : List (Nat × AV)} (hone : MOneS E l m sl G Ms A rd) (hA : ancB l m A = true) (hml : m ≤ l.length) (hMs : ∀ k ∈ Ms, k < m) (hMn : Ms.Nodup)
    (hdist : ∀ i j oi oj d, i < m → j < m → l[i]? = some oi → l[j]? = some oj → oi.dst = some d → oj.dst = some d → i = j)
    (hrd : ∀ d r, rd.lookup d = some r → ∃ j o, j < m ∧ l[j]? = some o ∧ o.dst = some d) (hedge : ∀ i o, i < m → l[i]? = some o → ∀ j ∈ edgesB o, j < i)
    {Q : Exit → Act → World → Prop} {K : Act → World → Prop} {listed : Array Bool} {a : Act} {w : World} {i : Nat} {o : Oper} (hi : i < m) (ho : l[i]? = some o) (hready : ∀ j ∈ edgesB o, listed.getD j false = true) (hu : listed.getD i false = false) (hsz : i < listed.size) (hinv : MInvS E l m sl G Ms rd listed a w)
    (hk : ∀ a' w', MInvS E l m sl G Ms rd (listed.setIfInBounds i true) a' w' → K a' w') : wpOp E.P l.toArray Q i K a w := by
  obtain ⟨hclo, sl2, hr, hAA, hB⟩ := hinv
  obtain ⟨d, r, hd, hrr, hv⟩ := hone i o hi ho
  have hv := hv _ (by simp [mskS]) (ok_msk hA hml hedge hMs hclo hi ho hready hu)
  have ho' : l.toArray[i]? = some o := by simpa using ho
  have hclo' : Clo l m (listed.setIfInBounds i true) := by
    intro k ok hkm hok hkl j hj
    have hji : j ≠ i := by
      rintro rfl
      by_cases e : k = j
      · subst e; exact Nat.lt_irrefl _ (hedge k ok hkm hok k hj)
      · rw [Go.getD_set_ne false (Ne.symm e)] at hkl
        have := hclo k ok hkm hok hkl j hj
        rw [hu] at this; cases this
    rw [Go.getD_set_ne false (Ne.symm hji)]
    by_cases e : k = i
    · subst e; rw [ho] at hok; cases hok; exact hready j hj
    · rw [Go.getD_set_ne false (Ne.symm e)] at hkl
      exact hclo k ok hkm hok hkl j hj
  unfold wpOp
  rw [ho']
  refine hv sl2 ?_ a w Q K hr (fun a' w' hr' => hk a' w' ⟨hclo', _, by rw [msk_set hsz]; exact hr', ?_, ?_⟩)
  · intro t c ht hn
    rcases lookup_append_some _ _ _ _ ht with h | ⟨h0, h⟩
    · have hm := lookup_memP h
      simp only [pickF, List.mem_filterMap] at hm
      obtain ⟨e, he, hm⟩ := hm
      split at hm
      case isFalse => cases hm
      rename_i hb
      obtain ⟨d', hd', hm⟩ := Option.bind_eq_some_iff.1 hm
      obtain ⟨oj, hoj, hdj⟩ := Option.bind_eq_some_iff.1 hd'
      obtain ⟨r', hr', hm⟩ := Option.map_eq_some_iff.1 hm
      cases hm
      have hej : e.on ∈ edgesB o := by
        simp only [edgesB, List.mem_filterMap]
        exact ⟨e, he, by rw [if_pos hb]⟩
      have hlt : e.on < m := Nat.lt_trans (hedge i o hi ho _ hej) hi
      exact hAA e.on oj _ _ hlt hoj (hready _ hej) hdj hr' hn
    · rcases lookup_append_some _ _ _ _ h with h | ⟨h1, h⟩
      · have hm := lookup_memP h
        simp only [maskF, List.mem_filterMap] at hm
        obtain ⟨_, _, hm⟩ := hm
        obtain ⟨_, _, hm⟩ := Option.map_eq_some_iff.1 hm
        cases hm
        cases hn
      · refine hB t c ?_ h hn
        cases hl : rd.lookup t with
        | none => rfl
        | some r' =>
          obtain ⟨j, oj, hj, hoj, hdj⟩ := hrd _ _ hl
          have : (t, AV.dead) ∈ maskF (l.take m) := by
            simp only [maskF, List.mem_filterMap]
            exact ⟨oj, List.mem_of_getElem? (show (l.take m)[j]? = some oj by rw [List.getElem?_take, if_pos hj]; exact hoj), by rw [hdj]; rfl⟩
          obtain ⟨c', hc'⟩ := lookup_of_mem this
          rw [h1] at hc'; cases hc'
  · intro j oj d' r' hj hoj hl hdj hrd' hn
    by_cases e : d' = d
    · subst e
      have := hdist i j o oj d' hi hj ho hoj hd hdj
      subst this
      rw [lookup_cons_same]
      rw [hrr] at hrd'; exact hrd'
    · rw [lookup_cons_ne e]
      have hne : i ≠ j := by
        rintro rfl
        rw [ho] at hoj; cases hoj
        rw [hd] at hdj; cases hdj; exact e rfl
      rw [Go.getD_set_ne false hne] at hl
      exact hAA j oj d' r' hj hoj hl hdj hrd' hn
  · intro t c hl hs hn
    by_cases e : t = d
    · subst e; rw [hrr] at hl; cases hl
    · rw [lookup_cons_ne e]; exact hB t c hl hs hn
theorem headS_any {E : Env} {l : List Oper} {m : Nat} {sl : List (Nat × AV)} {G : List Bool → Xs} {Ms : List Nat} {A : List (List Nat)} {rd : List (Nat × AV)} (hone : MOneS E l m sl G Ms A rd) (hA : ancB l m A = true) (hMs : ∀ k ∈ Ms, k < m) (hMn : Ms.Nodup)
    (hdist : ∀ i j oi oj d, i < m → j < m → l[i]? = some oi → l[j]? = some oj → oi.dst = some d → oj.dst = some d → i = j)
    (hrd : ∀ d r, rd.lookup d = some r → ∃ j o, j < m ∧ l[j]? = some o ∧ o.dst = some d) (hedge : ∀ i o, i < m → l[i]? = some o → ∀ j ∈ edgesB o, j < i) (htail : ∀ i o, m ≤ i → l[i]? = some o → ∀ j, j < m → ∃ e ∈ edgesB o, m ≤ e ∨ e = j ∨ j ∈ ancs A e) (hml : m ≤ l.length)
    {Q : Exit → Act → World → Prop} (hseq : Region.seqB .any l.toArray (l.length - m) m (lst0 l.length m) = true)
    (hend : ∀ a w, MInvS E l m sl G Ms rd (lst0 l.length m) a w → wpList E.P l.toArray Q (l.drop m) a w) :
    ∀ (u : Nat) (listed : Array Bool) (a : Act) (w : World), listed.size = l.length → (∀ j, m ≤ j → listed.getD j false = false) → (List.range m).countP (fun j => !listed.getD j false) = u → MInvS E l m sl G Ms rd listed a w → wpAny E.P .any l.toArray Q (l.length - m + u) listed a w
  | 0, listed, a, w, hs, ht, hu, hinv => by
    have hall : ∀ j, j < m → listed.getD j false = true := by
      intro j hj
      have := List.countP_eq_zero.1 hu j (by simpa using hj)
      simpa using this
    have e : listed = lst0 l.length m := by
      apply Array.ext
      · simp [lst0, hs]; omega
      · intro j h1 h2
        have e1 : listed.getD j false = listed[j] := by rw [Array.getD_eq_getD_getElem?, Array.getElem?_eq_getElem h1]; rfl
        rw [← e1]
        simp only [lst0, List.getElem_toArray]
        by_cases hj : j < m
        · rw [hall j hj, List.getElem_append_left (by simpa using hj)]; simp
        · rw [ht j (by omega), List.getElem_append_right (by simpa using hj)]; simp
    subst e
    have h0 := hend a w hinv
    have := wpAny_of_seq (md := .any) (Q' := Q) (l.drop m) m (lst0 l.length m) a w (fun j => by simp [List.getElem?_drop]) (by simpa using hseq) h0
    simpa using this
  | u + 1, listed, a, w, hs, ht, hu, hinv => by
    have hs' : listed.size = l.toArray.size := by simpa using hs
    have hex : ∃ j, j < m ∧ listed.getD j false = false := by
      have : 0 < (List.range m).countP (fun j => !listed.getD j false) := by omega
      obtain ⟨j, hj, hj2⟩ := List.countP_pos_iff.1 this
      exact ⟨j, by simpa using hj, by simpa using hj2⟩
    obtain ⟨j0, hj0, hj1⟩ := hex
    obtain ⟨i0, hi0, hi1, hi2⟩ := min_unlisted m j0 hj0 hj1
    rw [← Nat.add_assoc]
    refine ⟨fun hnil => ?_, fun i hi => ?_⟩
    · obtain ⟨o, ho⟩ : ∃ o, l[i0]? = some o := ⟨l[i0]'(by omega), by simp⟩
      have : i0 ∈ Region.ready .any l.toArray listed := (ready_iff hs').2 ⟨o, by simpa using ho, hi1, fun j hj => hi2 j (hedge i0 o hi0 ho j hj)⟩
      rw [hnil] at this; cases this
    · obtain ⟨o, ho, hl, hr⟩ := (ready_iff hs').1 hi
      have ho : l[i]? = some o := by simpa using ho
      have him : i < m := by
        rcases Nat.lt_or_ge i m with h | h
        · exact h
        · obtain ⟨e, he, h1⟩ := htail i o h ho i0 hi0
          have hel := hr e he
          have : listed.getD i0 false = true := by
            rcases h1 with h1 | h1 | h1
            · rw [ht e h1] at hel; cases hel
            · rw [← h1]; exact hel
            · have hem : e < m := by
                rcases Nat.lt_or_ge e m with h2 | h2
                · exact h2
                · rw [ht e h2] at hel; cases hel
              exact anc_listed hA hml hedge hinv.1 e hem (fun oe hoe k hk => hinv.1 e oe hem hoe hel k hk) i0 h1
          rw [hi1] at this; cases this
      refine minvS_step hone hA hml hMs hMn hdist hrd hedge him ho hr hl (by omega) hinv (fun a' w' hinv' => ?_)
      refine headS_any hone hA hMs hMn hdist hrd hedge htail hml hseq hend u _ a' w' (by simpa using hs) ?_ ?_ hinv'
      · intro j hj
        rw [Go.getD_set_ne false (by omega)]
        exact ht j hj
      · have := countP_drop (f := fun j => !listed.getD j false) (g := fun j => !(listed.setIfInBounds i true).getD j false) (i := i) (l := List.range m) List.nodup_range (by simpa using him) (by simp [hl]) (by
          have : i < listed.size := by rw [hs]; omega
          simp [this]) (fun j hj => by simp only [Go.getD_set_ne false (Ne.symm hj)])
        omega
theorem twp_drawS {E : Env} {id : Nat} {ops : Array Oper} {sl : List (Nat × AV)} {G : List Bool → Xs} {Ms : List Nat} {A : List (List Nat)} {rd : List (Nat × AV)} {Q : Exit → St → Prop} (m : Nat) (hm : E.P.follows .mixedOrders = true)
    (hh : headB ops.toList m = true) (ht : tailA ops.toList m A = true) (hseq : Region.seqB .any ops (ops.toList.length - m) m (lst0 ops.toList.length m) = true)
    (hA : ancB ops.toList m A = true) (hMs : Ms.all (fun k => decide (k < m)) = true) (hMn : Ms.Nodup) (hrd : rdB ops.toList m rd = true)
    (hone : MOneS E ops.toList m sl G Ms A rd) (h : RW E ops (ops.toList.drop m) ⟨rd ++ sl, (G (Ms.map fun _ => true)).1, (G (Ms.map fun _ => true)).2⟩ (Q .normal)) : TWp E (.region id ops true) Q ⟨sl, (G (Ms.map fun _ => false)).1, (G (Ms.map fun _ => false)).2⟩ := by
  obtain ⟨l⟩ := ops
  simp only at hh ht hseq hone h hA hrd
  simp only [headB, Bool.and_eq_true, decide_eq_true_eq, List.all_eq_true] at hh
  obtain ⟨⟨⟨hh1, hh2⟩, hh3⟩, hml⟩ := hh
  simp only [tailA, List.all_eq_true] at ht
  have htk : ∀ i o, i < m → l[i]? = some o → (l.take m)[i]? = some o := fun i o hi ho => by rw [List.getElem?_take, if_pos hi]; exact ho
  have hedge : ∀ i o, i < m → l[i]? = some o → ∀ j ∈ edgesB o, j < i := by
    intro i o hi ho j hj
    have : (o, i) ∈ (l.take m).zipIdx := by
      rw [List.mem_zipIdx_iff_getElem?]; exact htk i o hi ho
    simpa using hh1 _ this j hj
  have htail : ∀ i o, m ≤ i → l[i]? = some o → ∀ j, j < m → ∃ e ∈ edgesB o, m ≤ e ∨ e = j ∨ j ∈ ancs A e := by
    intro i o hi ho j hj
    have : (o, i) ∈ l.zipIdx.drop m := by
      apply List.mem_of_getElem? (i := i - m)
      rw [List.getElem?_drop, show m + (i - m) = i by omega, List.getElem?_zipIdx, ho]
      simp
    have := ht _ this j (by simpa using hj)
    obtain ⟨e, he, h⟩ := List.any_eq_true.1 this
    refine ⟨e, he, ?_⟩
    simp only [Bool.or_eq_true, decide_eq_true_eq, beq_iff_eq, List.contains_iff_mem] at h
    rcases h with (h | h) | h
    · exact .inl h
    · exact .inr (.inl h)
    · exact .inr (.inr h)
  have hMs' : ∀ k ∈ Ms, k < m := by
    intro k hk
    simpa using List.all_eq_true.1 hMs k hk
  have hdist : ∀ i j oi oj d, i < m → j < m → l[i]? = some oi → l[j]? = some oj → oi.dst = some d → oj.dst = some d → i = j := fun i j oi oj d hi hj hoi hoj hdi hdj =>
    nodup_filterMap hh2 i j oi oj d (htk i oi hi hoi) (htk j oj hj hoj) hdi hdj
  have hrd' : ∀ d r, rd.lookup d = some r → ∃ j o, j < m ∧ l[j]? = some o ∧ o.dst = some d := by
    intro d r hl
    have h1 : d ∈ rd.map (·.1) := List.mem_map.2 ⟨_, lookup_memP hl, rfl⟩
    have h2 := List.all_eq_true.1 hrd d h1
    obtain ⟨o, ho, hdo⟩ := List.any_eq_true.1 h2
    obtain ⟨j, hj⟩ := List.mem_iff_getElem?.1 ho
    rw [List.getElem?_take] at hj
    split at hj
    · exact ⟨j, o, by assumption, hj, by simpa using hdo⟩
    · cases hj
  have hgd0 : ∀ (n j : Nat), (Array.replicate n false).getD j false = false := fun n j => by
    rw [Array.getD_eq_getD_getElem?, Array.getElem?_replicate]
    split <;> rfl
  have hc0 : mskS Ms (Array.replicate l.length false) = Ms.map fun _ => false := List.map_congr_left fun j _ => hgd0 _ j
  have hgd1 : ∀ j, j < m → (lst0 l.length m).getD j false = true := fun j hj => by
    rw [Array.getD_eq_getD_getElem?]
    simp only [lst0, List.getElem?_toArray]
    rw [List.getElem?_append_left (by simpa using hj)]
    simp [hj]
  have hc1 : mskS Ms (lst0 l.length m) = Ms.map fun _ => true := List.map_congr_left fun j hj => hgd1 j (hMs' j hj)
  intro a w hr
  refine wp_region_any hm ?_
  have hstart : MInvS E l m sl G Ms rd (Array.replicate l.length false) a { w with drawn := w.drawn + 1 } := by
    refine ⟨fun i o _ _ hl => (by rw [hgd0] at hl; cases hl), sl, ?_, ?_, fun t c _ h _ => h⟩
    · rw [hc0]
      obtain ⟨χ, hd', h0⟩ := hr
      exact ⟨χ, hd', h0.world rfl rfl Tp.drew rfl⟩
    · intro j o d r hj ho hl
      rw [hgd0] at hl; cases hl
  have hcnt : (List.range m).countP (fun j => !(Array.replicate l.length false).getD j false) = m := by
    rw [List.countP_eq_length.2]
    · simp
    · intro j hj
      rw [hgd0]; rfl
  have hfin : ∀ a w, MInvS E l m sl G Ms rd (lst0 l.length m) a w → wpList E.P l.toArray (fun e a' w' => ∃ s', Q e s' ∧ Rel E s' a' w') (l.drop m) a w := by
    rintro a w ⟨_, sl2, hr0, hAA, hB⟩
    rw [hc1] at hr0
    obtain ⟨χ, hd', hr⟩ := hr0
    refine h a w _ ⟨χ, hd', hr.weak (s2 := ⟨rd ++ sl, (G (Ms.map fun _ => true)).1, (G (Ms.map fun _ => true)).2⟩) (fun t => ?_) (fun _ => rfl) rfl⟩ (fun s' a' w' hs' hr' => ⟨s', hs', hr'⟩)
    simp only [St.get]
    cases hl : (rd ++ sl).lookup t with
    | none => right; rfl
    | some c =>
      cases hn : c.nd with
      | false => right; cases c <;> first | rfl | cases hn
      | true =>
        left
        rcases lookup_append_some _ _ _ _ hl with h | ⟨h1, h⟩
        · obtain ⟨j, o, hj, ho, hdo⟩ := hrd' _ _ h
          rw [hAA j o t c hj ho (hgd1 j hj) hdo h hn]
        · rw [hB t c h1 h hn]
  have := headS_any (Q := fun e a' w' => ∃ s', Q e s' ∧ Rel E s' a' w') hone hA hMs' hMn hdist hrd' hedge htail hml hseq hfin m (Array.replicate l.length false) a _ (by simp) (fun j _ => hgd0 _ j) hcnt hstart
  rw [show l.length - m + m = l.length by omega] at this
  simpa using this
end Go.T
