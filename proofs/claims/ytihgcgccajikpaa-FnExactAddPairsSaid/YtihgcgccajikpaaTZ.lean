/- Lemmas for FnExactAddPairs; no condition. -/

import Derived.Test.YtihgcgccajikpaaTP
set_option linter.unusedVariables false
namespace Go.T
open Go Go.RowKit Go.Proofs

/- ------------------------------------------------ statements whose order the run draws, and that make memory -/
/-- one operation, from some roots to others, whatever more the slots hold -/
def STo (E : Env) (ops : Array Oper) (o : Oper) (sl : List (Nat × AV)) (X Y : List (Nat × Option Root) × List Nat) (d : Nat) (r : AV) : Prop :=
  ∀ sl2, SlLe sl sl2 → ∀ a w (Q : Exit → Act → World → Prop) (K : Act → World → Prop), Rel E ⟨sl2, X.1, X.2⟩ a w → (∀ a' w', Rel E ⟨(d, r) :: sl2, Y.1, Y.2⟩ a' w' → K a' w') →
    (if Region.wanted o (yielded ops a.tmps) then o.wp E.P a w K Q ∨ (o.asks E.P a w ∧ LetsOut Q) else K (a.put o.dst undef) w)
theorem STo.of {E : Env} {ops : Array Oper} {o : Oper} {sl : List (Nat × AV)} {X : List (Nat × Option Root) × List Nat} {d : Nat} {r : AV} (h : VTo E ops o sl X.1 X.2 d r) : STo E ops o sl X X d r := h
abbrev Rts := List (List (Nat × Option Root) × List Nat)
def rts (R : Rts) (c : Nat) : List (Nat × Option Root) × List Nat := (R[c]?).getD ([], [])
def cntM (Ms : List Nat) (listed : Array Bool) : Nat := Ms.countP (fun j => listed.getD j false)
def ancs (A : List (List Nat)) (i : Nat) : List Nat := (A[i]?).getD []
def loM (Ms : List Nat) (A : List (List Nat)) (i : Nat) : Nat := Ms.countP (fun k => (ancs A i).contains k)
def hiM (Ms : List Nat) (A : List (List Nat)) (i : Nat) : Nat := Ms.countP (fun k => k != i && !(ancs A k).contains i)
def dM (Ms : List Nat) (i : Nat) : Nat := if Ms.contains i then 1 else 0
/-- what is told to be ahead is ahead -/
def ancB (l : List Oper) (m : Nat) (A : List (List Nat)) : Bool := (List.range m).all fun i => (ancs A i).all fun j => match l[i]? with
  | some o => (edgesB o).contains j || (edgesB o).any fun e => (ancs A e).contains j
  | none => false
def Clo (l : List Oper) (m : Nat) (listed : Array Bool) : Prop := ∀ i o, i < m → l[i]? = some o → listed.getD i false = true → ∀ j ∈ edgesB o, listed.getD j false = true
theorem anc_listed {l : List Oper} {m : Nat} {A : List (List Nat)} (hA : ancB l m A = true) (hml : m ≤ l.length) (hedge : ∀ i o, i < m → l[i]? = some o → ∀ j ∈ edgesB o, j < i) {listed : Array Bool} (hc : Clo l m listed) : ∀ i, i < m → (∀ o, l[i]? = some o → ∀ j ∈ edgesB o, listed.getD j false = true) → ∀ j ∈ ancs A i, listed.getD j false = true := by
  intro i
  induction i using Nat.strongRecOn with
  | ind i ih =>
    intro hi hr j hj
    simp only [ancB, List.all_eq_true] at hA
    have := hA i (List.mem_range.2 hi) j hj
    obtain ⟨o, ho⟩ : ∃ o, l[i]? = some o := ⟨l[i]'(by omega), by simp⟩
    rw [ho] at this
    simp only [Bool.or_eq_true, List.contains_iff_mem, List.any_eq_true] at this
    rcases this with h | ⟨e, he, h⟩
    · exact hr o ho j h
    · have hlt := hedge i o hi ho e he
      refine ih e hlt (by omega) (fun oe hoe k hk => hc e oe (by omega) hoe (hr o ho e he) k hk) j h
theorem countP_le {α : Type} {f g : α → Bool} : ∀ {l : List α}, (∀ x ∈ l, f x = true → g x = true) → l.countP f ≤ l.countP g
  | [], _ => Nat.le_refl _
  | x :: l, h => by
    have ih := countP_le (f := f) (g := g) (l := l) (fun y hy => h y (List.mem_cons_of_mem _ hy))
    have hx := h x List.mem_cons_self
    rw [List.countP_cons, List.countP_cons]
    cases hf : f x
    · simp; omega
    · rw [hx hf]; simp; omega
theorem cnt_range {l : List Oper} {m : Nat} {A : List (List Nat)} (hA : ancB l m A = true) (hml : m ≤ l.length) (hedge : ∀ i o, i < m → l[i]? = some o → ∀ j ∈ edgesB o, j < i) {Ms : List Nat} (hMs : ∀ k ∈ Ms, k < m) {listed : Array Bool} (hc : Clo l m listed) {i : Nat} (hi : i < m) {o : Oper} (ho : l[i]? = some o) (hr : ∀ j ∈ edgesB o, listed.getD j false = true) (hu : listed.getD i false = false) :
    loM Ms A i ≤ cntM Ms listed ∧ cntM Ms listed ≤ hiM Ms A i := by
  have hanc := anc_listed hA hml hedge hc
  refine ⟨countP_le fun k _ hk => ?_, countP_le fun k hkm hk => ?_⟩
  · exact hanc i hi (fun o' ho' => by rw [ho] at ho'; cases ho'; exact hr) k (by simpa using hk)
  · simp only [Bool.and_eq_true, bne_iff_ne, Bool.not_eq_true', ne_eq]
    refine ⟨?_, ?_⟩
    · rintro rfl; rw [hu] at hk; cases hk
    · cases hcn : (ancs A k).contains i with
      | false => rfl
      | true =>
        have := hanc k (hMs k hkm) (fun o' ho' j hj => hc k o' (hMs k hkm) ho' hk j hj) i (by simpa using hcn)
        rw [hu] at this; cases this
theorem cnt_set {Ms : List Nat} (hn : Ms.Nodup) {listed : Array Bool} {i : Nat} (hi : i < listed.size) (hu : listed.getD i false = false) : cntM Ms (listed.setIfInBounds i true) = cntM Ms listed + dM Ms i := by
  have hs : (listed.setIfInBounds i true).getD i false = true := by simp [hi]
  have hne : ∀ j, j ≠ i → (listed.setIfInBounds i true).getD j false = listed.getD j false := fun j hj => Go.getD_set_ne false (Ne.symm hj)
  have key : ∀ Ms : List Nat, Ms.Nodup → cntM Ms (listed.setIfInBounds i true) = cntM Ms listed + dM Ms i := by
    intro Ms
    induction Ms with
    | nil => intro _; simp [cntM, dM]
    | cons k Ms ih =>
      intro hn
      obtain ⟨h1, h2⟩ := List.nodup_cons.1 hn
      have ih := ih h2
      unfold cntM dM at ih ⊢
      rw [List.countP_cons, List.countP_cons, ih]
      by_cases hk : k = i
      · subst hk
        have : Ms.contains k = false := by simpa using h1
        rw [this, hs, hu]; simp
      · rw [hne k hk]
        have : ((k :: Ms).contains i) = Ms.contains i := by
          rw [List.contains_cons]
          have : (i == k) = false := by simp; exact fun e => hk e.symm
          rw [this, Bool.false_or]
        rw [this]; omega
  exact key Ms hn
/-- what stands while the head is done in whatever order -/
def MInv (E : Env) (l : List Oper) (m : Nat) (sl : List (Nat × AV)) (R : Rts) (Ms : List Nat) (rd : List (Nat × AV)) (listed : Array Bool) (a : Act) (w : World) : Prop :=
  Clo l m listed ∧ ∃ sl2, Rel E ⟨sl2, (rts R (cntM Ms listed)).1, (rts R (cntM Ms listed)).2⟩ a w ∧ (∀ j o d r, j < m → l[j]? = some o → listed.getD j false = true → o.dst = some d → rd.lookup d = some r → r.nd = true → sl2.lookup d = some r) ∧ (∀ t c, rd.lookup t = none → sl.lookup t = some c → c.nd = true → sl2.lookup t = some c)
def MOne (E : Env) (l : List Oper) (m : Nat) (sl : List (Nat × AV)) (R : Rts) (Ms : List Nat) (A : List (List Nat)) (rd : List (Nat × AV)) : Prop :=
  ∀ i o, i < m → l[i]? = some o → ∃ d r, o.dst = some d ∧ rd.lookup d = some r ∧ ∀ c, loM Ms A i ≤ c → c ≤ hiM Ms A i → STo E l.toArray o (pickF l rd o ++ (maskF (l.take m) ++ sl)) (rts R c) (rts R (c + dM Ms i)) d r
theorem minv_step {E : Env} {l : List Oper} {m : Nat} {sl : List (Nat × AV)} {R : Rts} {Ms : List Nat} {A : List (List Nat)} {rd : List (Nat × AV)} (hone : MOne E l m sl R Ms A rd) (hA : ancB l m A = true) (hml : m ≤ l.length) (hMs : ∀ k ∈ Ms, k < m) (hMn : Ms.Nodup)
    (hdist : ∀ i j oi oj d, i < m → j < m → l[i]? = some oi → l[j]? = some oj → oi.dst = some d → oj.dst = some d → i = j)
    (hrd : ∀ d r, rd.lookup d = some r → ∃ j o, j < m ∧ l[j]? = some o ∧ o.dst = some d) (hedge : ∀ i o, i < m → l[i]? = some o → ∀ j ∈ edgesB o, j < i)
    {Q : Exit → Act → World → Prop} {K : Act → World → Prop} {listed : Array Bool} {a : Act} {w : World} {i : Nat} {o : Oper} (hi : i < m) (ho : l[i]? = some o) (hready : ∀ j ∈ edgesB o, listed.getD j false = true) (hu : listed.getD i false = false) (hsz : i < listed.size) (hinv : MInv E l m sl R Ms rd listed a w)
    (hk : ∀ a' w', MInv E l m sl R Ms rd (listed.setIfInBounds i true) a' w' → K a' w') : wpOp E.P l.toArray Q i K a w := by
  obtain ⟨hclo, sl2, hr, hAA, hB⟩ := hinv
  obtain ⟨d, r, hd, hrr, hv⟩ := hone i o hi ho
  obtain ⟨c1, c2⟩ := cnt_range hA hml hedge hMs hclo hi ho hready hu
  have hv := hv _ c1 c2
  have ho' : l.toArray[i]? = some o := by simpa using ho
  have hclo' : Clo l m (listed.setIfInBounds i true) := by
    intro k ok hkm hok hkl j hj
    have hji : j ≠ i := by
      rintro rfl
      by_cases e : k = j
      · subst e; exact Nat.lt_irrefl _ (hedge k ok hkm hok k hj)
      · rw [Go.getD_set_ne false (Ne.symm e)] at hkl
        have := hclo k ok hkm hok hkl j hj
        rw [hu] at this; cases this
    rw [Go.getD_set_ne false (Ne.symm hji)]
    by_cases e : k = i
    · subst e; rw [ho] at hok; cases hok; exact hready j hj
    · rw [Go.getD_set_ne false (Ne.symm e)] at hkl
      exact hclo k ok hkm hok hkl j hj
  unfold wpOp
  rw [ho']
  refine hv sl2 ?_ a w Q K hr (fun a' w' hr' => hk a' w' ⟨hclo', _, by rw [cnt_set hMn hsz hu]; exact hr', ?_, ?_⟩)
  · intro t c ht hn
    rcases lookup_append_some _ _ _ _ ht with h | ⟨h0, h⟩
    · have hm := lookup_memP h
      simp only [pickF, List.mem_filterMap] at hm
      obtain ⟨e, he, hm⟩ := hm
      split at hm
      case isFalse => cases hm
      rename_i hb
      obtain ⟨d', hd', hm⟩ := Option.bind_eq_some_iff.1 hm
      obtain ⟨oj, hoj, hdj⟩ := Option.bind_eq_some_iff.1 hd'
      obtain ⟨r', hr', hm⟩ := Option.map_eq_some_iff.1 hm
      cases hm
      have hej : e.on ∈ edgesB o := by
        simp only [edgesB, List.mem_filterMap]
        exact ⟨e, he, by rw [if_pos hb]⟩
      have hlt : e.on < m := Nat.lt_trans (hedge i o hi ho _ hej) hi
      exact hAA e.on oj _ _ hlt hoj (hready _ hej) hdj hr' hn
    · rcases lookup_append_some _ _ _ _ h with h | ⟨h1, h⟩
      · have hm := lookup_memP h
        simp only [maskF, List.mem_filterMap] at hm
        obtain ⟨_, _, hm⟩ := hm
        obtain ⟨_, _, hm⟩ := Option.map_eq_some_iff.1 hm
        cases hm
        cases hn
      · refine hB t c ?_ h hn
        cases hl : rd.lookup t with
        | none => rfl
        | some r' =>
          obtain ⟨j, oj, hj, hoj, hdj⟩ := hrd _ _ hl
          have : (t, AV.dead) ∈ maskF (l.take m) := by
            simp only [maskF, List.mem_filterMap]
            exact ⟨oj, List.mem_of_getElem? (show (l.take m)[j]? = some oj by rw [List.getElem?_take, if_pos hj]; exact hoj), by rw [hdj]; rfl⟩
          obtain ⟨c', hc'⟩ := lookup_of_mem this
          rw [h1] at hc'; cases hc'
  · intro j oj d' r' hj hoj hl hdj hrd' hn
    by_cases e : d' = d
    · subst e
      have := hdist i j o oj d' hi hj ho hoj hd hdj
      subst this
      rw [lookup_cons_same]
      rw [hrr] at hrd'; exact hrd'
    · rw [lookup_cons_ne e]
      have hne : i ≠ j := by
        rintro rfl
        rw [ho] at hoj; cases hoj
        rw [hd] at hdj; cases hdj; exact e rfl
      rw [Go.getD_set_ne false hne] at hl
      exact hAA j oj d' r' hj hoj hl hdj hrd' hn
  · intro t c hl hs hn
    by_cases e : t = d
    · subst e; rw [hrr] at hl; cases hl
    · rw [lookup_cons_ne e]; exact hB t c hl hs hn
theorem headM_any {E : Env} {l : List Oper} {m : Nat} {sl : List (Nat × AV)} {R : Rts} {Ms : List Nat} {A : List (List Nat)} {rd : List (Nat × AV)} (hone : MOne E l m sl R Ms A rd) (hA : ancB l m A = true) (hMs : ∀ k ∈ Ms, k < m) (hMn : Ms.Nodup)
    (hdist : ∀ i j oi oj d, i < m → j < m → l[i]? = some oi → l[j]? = some oj → oi.dst = some d → oj.dst = some d → i = j)
    (hrd : ∀ d r, rd.lookup d = some r → ∃ j o, j < m ∧ l[j]? = some o ∧ o.dst = some d) (hedge : ∀ i o, i < m → l[i]? = some o → ∀ j ∈ edgesB o, j < i) (htail : ∀ i o, m ≤ i → l[i]? = some o → ∀ j, j < m → ∃ e ∈ edgesB o, m ≤ e ∨ e = j ∨ j ∈ ancs A e) (hml : m ≤ l.length)
    {Q : Exit → Act → World → Prop} (hseq : Region.seqB .any l.toArray (l.length - m) m (lst0 l.length m) = true)
    (hend : ∀ a w, MInv E l m sl R Ms rd (lst0 l.length m) a w → wpList E.P l.toArray Q (l.drop m) a w) :
    ∀ (u : Nat) (listed : Array Bool) (a : Act) (w : World), listed.size = l.length → (∀ j, m ≤ j → listed.getD j false = false) → (List.range m).countP (fun j => !listed.getD j false) = u → MInv E l m sl R Ms rd listed a w → wpAny E.P .any l.toArray Q (l.length - m + u) listed a w
  | 0, listed, a, w, hs, ht, hu, hinv => by
    have hall : ∀ j, j < m → listed.getD j false = true := by
      intro j hj
      have := List.countP_eq_zero.1 hu j (by simpa using hj)
      simpa using this
    have e : listed = lst0 l.length m := by
      apply Array.ext
      · simp [lst0, hs]; omega
      · intro j h1 h2
        have e1 : listed.getD j false = listed[j] := by rw [Array.getD_eq_getD_getElem?, Array.getElem?_eq_getElem h1]; rfl
        rw [← e1]
        simp only [lst0, List.getElem_toArray]
        by_cases hj : j < m
        · rw [hall j hj, List.getElem_append_left (by simpa using hj)]; simp
        · rw [ht j (by omega), List.getElem_append_right (by simpa using hj)]; simp
    subst e
    have h0 := hend a w hinv
    have := wpAny_of_seq (md := .any) (Q' := Q) (l.drop m) m (lst0 l.length m) a w (fun j => by simp [List.getElem?_drop]) (by simpa using hseq) h0
    simpa using this
  | u + 1, listed, a, w, hs, ht, hu, hinv => by
    have hs' : listed.size = l.toArray.size := by simpa using hs
    have hex : ∃ j, j < m ∧ listed.getD j false = false := by
      have : 0 < (List.range m).countP (fun j => !listed.getD j false) := by omega
      obtain ⟨j, hj, hj2⟩ := List.countP_pos_iff.1 this
      exact ⟨j, by simpa using hj, by simpa using hj2⟩
    obtain ⟨j0, hj0, hj1⟩ := hex
    obtain ⟨i0, hi0, hi1, hi2⟩ := min_unlisted m j0 hj0 hj1
    rw [← Nat.add_assoc]
    refine ⟨fun hnil => ?_, fun i hi => ?_⟩
    · obtain ⟨o, ho⟩ : ∃ o, l[i0]? = some o := ⟨l[i0]'(by omega), by simp⟩
      have : i0 ∈ Region.ready .any l.toArray listed := (ready_iff hs').2 ⟨o, by simpa using ho, hi1, fun j hj => hi2 j (hedge i0 o hi0 ho j hj)⟩
      rw [hnil] at this; cases this
    · obtain ⟨o, ho, hl, hr⟩ := (ready_iff hs').1 hi
      have ho : l[i]? = some o := by simpa using ho
      have him : i < m := by
        rcases Nat.lt_or_ge i m with h | h
        · exact h
        · obtain ⟨e, he, h1⟩ := htail i o h ho i0 hi0
          have hel := hr e he
          have : listed.getD i0 false = true := by
            rcases h1 with h1 | h1 | h1
            · rw [ht e h1] at hel; cases hel
            · rw [← h1]; exact hel
            · have hem : e < m := by
                rcases Nat.lt_or_ge e m with h2 | h2
                · exact h2
                · rw [ht e h2] at hel; cases hel
              exact anc_listed hA hml hedge hinv.1 e hem (fun oe hoe k hk => hinv.1 e oe hem hoe hel k hk) i0 h1
          rw [hi1] at this; cases this
      refine minv_step hone hA hml hMs hMn hdist hrd hedge him ho hr hl (by omega) hinv (fun a' w' hinv' => ?_)
      refine headM_any hone hA hMs hMn hdist hrd hedge htail hml hseq hend u _ a' w' (by simpa using hs) ?_ ?_ hinv'
      · intro j hj
        rw [Go.getD_set_ne false (by omega)]
        exact ht j hj
      · have := countP_drop (f := fun j => !listed.getD j false) (g := fun j => !(listed.setIfInBounds i true).getD j false) (i := i) (l := List.range m) List.nodup_range (by simpa using him) (by simp [hl]) (by
          have : i < listed.size := by rw [hs]; omega
          simp [this]) (fun j hj => by simp only [Go.getD_set_ne false (Ne.symm hj)])
        omega
/-- the slots that the head's operations leave are those that are told -/
def rdB (l : List Oper) (m : Nat) (rd : List (Nat × AV)) : Bool := (rd.map (·.1)).all fun d => (l.take m).any fun o => o.dst == some d
/-- the tail's: each after the whole head -/
def tailA (ops : List Oper) (m : Nat) (A : List (List Nat)) : Bool := (ops.zipIdx.drop m).all fun p => (List.range m).all fun j => (edgesB p.1).any fun e => decide (m ≤ e) || e == j || (ancs A e).contains j
theorem twp_drawM {E : Env} {id : Nat} {ops : Array Oper} {sl : List (Nat × AV)} {R : Rts} {Ms : List Nat} {A : List (List Nat)} {rd : List (Nat × AV)} {Q : Exit → St → Prop} (m : Nat) (hm : E.P.follows .mixedOrders = true)
    (hh : headB ops.toList m = true) (ht : tailA ops.toList m A = true) (hseq : Region.seqB .any ops (ops.toList.length - m) m (lst0 ops.toList.length m) = true)
    (hA : ancB ops.toList m A = true) (hMs : Ms.all (fun k => decide (k < m)) = true) (hMn : Ms.Nodup) (hrd : rdB ops.toList m rd = true)
    (hone : MOne E ops.toList m sl R Ms A rd) (h : RW E ops (ops.toList.drop m) ⟨rd ++ sl, (rts R Ms.length).1, (rts R Ms.length).2⟩ (Q .normal)) : TWp E (.region id ops true) Q ⟨sl, (rts R 0).1, (rts R 0).2⟩ := by
  obtain ⟨l⟩ := ops
  simp only at hh ht hseq hone h hA hrd
  simp only [headB, Bool.and_eq_true, decide_eq_true_eq, List.all_eq_true] at hh
  obtain ⟨⟨⟨hh1, hh2⟩, hh3⟩, hml⟩ := hh
  simp only [tailA, List.all_eq_true] at ht
  have htk : ∀ i o, i < m → l[i]? = some o → (l.take m)[i]? = some o := fun i o hi ho => by rw [List.getElem?_take, if_pos hi]; exact ho
  have hedge : ∀ i o, i < m → l[i]? = some o → ∀ j ∈ edgesB o, j < i := by
    intro i o hi ho j hj
    have : (o, i) ∈ (l.take m).zipIdx := by
      rw [List.mem_zipIdx_iff_getElem?]; exact htk i o hi ho
    simpa using hh1 _ this j hj
  have htail : ∀ i o, m ≤ i → l[i]? = some o → ∀ j, j < m → ∃ e ∈ edgesB o, m ≤ e ∨ e = j ∨ j ∈ ancs A e := by
    intro i o hi ho j hj
    have : (o, i) ∈ l.zipIdx.drop m := by
      apply List.mem_of_getElem? (i := i - m)
      rw [List.getElem?_drop, show m + (i - m) = i by omega, List.getElem?_zipIdx, ho]
      simp
    have := ht _ this j (by simpa using hj)
    obtain ⟨e, he, h⟩ := List.any_eq_true.1 this
    refine ⟨e, he, ?_⟩
    simp only [Bool.or_eq_true, decide_eq_true_eq, beq_iff_eq, List.contains_iff_mem] at h
    rcases h with (h | h) | h
    · exact .inl h
    · exact .inr (.inl h)
    · exact .inr (.inr h)
  have hMs' : ∀ k ∈ Ms, k < m := by
    intro k hk
    simpa using List.all_eq_true.1 hMs k hk
  have hdist : ∀ i j oi oj d, i < m → j < m → l[i]? = some oi → l[j]? = some oj → oi.dst = some d → oj.dst = some d → i = j := fun i j oi oj d hi hj hoi hoj hdi hdj =>
    nodup_filterMap hh2 i j oi oj d (htk i oi hi hoi) (htk j oj hj hoj) hdi hdj
  have hrd' : ∀ d r, rd.lookup d = some r → ∃ j o, j < m ∧ l[j]? = some o ∧ o.dst = some d := by
    intro d r hl
    have h1 : d ∈ rd.map (·.1) := List.mem_map.2 ⟨_, lookup_memP hl, rfl⟩
    have h2 := List.all_eq_true.1 hrd d h1
    obtain ⟨o, ho, hdo⟩ := List.any_eq_true.1 h2
    obtain ⟨j, hj⟩ := List.mem_iff_getElem?.1 ho
    rw [List.getElem?_take] at hj
    split at hj
    · exact ⟨j, o, by assumption, hj, by simpa using hdo⟩
    · cases hj
  have hgd0 : ∀ (n j : Nat), (Array.replicate n false).getD j false = false := fun n j => by
    rw [Array.getD_eq_getD_getElem?, Array.getElem?_replicate]
    split <;> rfl
  have hc0 : cntM Ms (Array.replicate l.length false) = 0 := by
    unfold cntM
    rw [List.countP_eq_zero]
    intro j _
    rw [hgd0]; simp
  have hgd1 : ∀ j, j < m → (lst0 l.length m).getD j false = true := fun j hj => by
    rw [Array.getD_eq_getD_getElem?]
    simp only [lst0, List.getElem?_toArray]
    rw [List.getElem?_append_left (by simpa using hj)]
    simp [hj]
  have hc1 : cntM Ms (lst0 l.length m) = Ms.length := by
    unfold cntM
    rw [List.countP_eq_length]
    intro j hj
    rw [hgd1 j (hMs' j hj)]
  intro a w hr
  refine wp_region_any hm ?_
  have hstart : MInv E l m sl R Ms rd (Array.replicate l.length false) a { w with drawn := w.drawn + 1 } := by
    refine ⟨fun i o _ _ hl => (by rw [hgd0] at hl; cases hl), sl, ?_, ?_, fun t c _ h _ => h⟩
    · rw [hc0]
      obtain ⟨χ, hd', h0⟩ := hr
      exact ⟨χ, hd', h0.world rfl rfl Tp.drew rfl⟩
    · intro j o d r hj ho hl
      rw [hgd0] at hl; cases hl
  have hcnt : (List.range m).countP (fun j => !(Array.replicate l.length false).getD j false) = m := by
    rw [List.countP_eq_length.2]
    · simp
    · intro j hj
      rw [hgd0]; rfl
  have hfin : ∀ a w, MInv E l m sl R Ms rd (lst0 l.length m) a w → wpList E.P l.toArray (fun e a' w' => ∃ s', Q e s' ∧ Rel E s' a' w') (l.drop m) a w := by
    rintro a w ⟨_, sl2, hr0, hAA, hB⟩
    rw [hc1] at hr0
    obtain ⟨χ, hd', hr⟩ := hr0
    refine h a w _ ⟨χ, hd', hr.weak (s2 := ⟨rd ++ sl, (rts R Ms.length).1, (rts R Ms.length).2⟩) (fun t => ?_) (fun _ => rfl) rfl⟩ (fun s' a' w' hs' hr' => ⟨s', hs', hr'⟩)
    simp only [St.get]
    cases hl : (rd ++ sl).lookup t with
    | none => right; rfl
    | some c =>
      cases hn : c.nd with
      | false => right; cases c <;> first | rfl | cases hn
      | true =>
        left
        rcases lookup_append_some _ _ _ _ hl with h | ⟨h1, h⟩
        · obtain ⟨j, o, hj, ho, hdo⟩ := hrd' _ _ h
          rw [hAA j o t c hj ho (hgd1 j hj) hdo h hn]
        · rw [hB t c h1 h hn]
  have := headM_any (Q := fun e a' w' => ∃ s', Q e s' ∧ Rel E s' a' w') hone hA hMs' hMn hdist hrd' hedge htail hml hseq hfin m (Array.replicate l.length false) a _ (by simp) (fun j _ => hgd0 _ j) hcnt hstart
  rw [show l.length - m + m = l.length by omega] at this
  simpa using this
/- the head, done once in the text's order -/
inductive MWs (E : Env) (ops : Array Oper) (msk sl : List (Nat × AV)) (Ms : List Nat) : List Oper → List (Nat × AV) → Rts → (List (Nat × Option Root) × List Nat) → Prop
  | nil (X : List (Nat × Option Root) × List Nat) : MWs E ops msk sl Ms [] [] [X] X
  | val {hd : List Oper} {done : List (Nat × AV)} {R : Rts} {X : List (Nat × Option Root) × List Nat} {o : Oper} {d : Nat} {r : AV} : MWs E ops msk sl Ms hd done R X → o.dst = some d → Ms.contains hd.length = false → STo E ops o (pickF ops.toList done o ++ (msk ++ sl)) X X d r → MWs E ops msk sl Ms (hd ++ [o]) ((d, r) :: done) R X
  | mem {hd : List Oper} {done : List (Nat × AV)} {R : Rts} {X Y : List (Nat × Option Root) × List Nat} {o : Oper} {d : Nat} {r : AV} : MWs E ops msk sl Ms hd done R X → o.dst = some d → Ms.contains hd.length = true → STo E ops o (pickF ops.toList done o ++ (msk ++ sl)) X Y d r → MWs E ops msk sl Ms (hd ++ [o]) ((d, r) :: done) (R ++ [Y]) Y
def cTx (Ms : List Nat) (i : Nat) : Nat := Ms.countP (fun k => decide (k < i))
theorem cTx_succ {Ms : List Nat} (hn : Ms.Nodup) (i : Nat) : cTx Ms (i + 1) = cTx Ms i + dM Ms i := by
  induction Ms with
  | nil => simp [cTx, dM]
  | cons k Ms ih =>
    obtain ⟨h1, h2⟩ := List.nodup_cons.1 hn
    have ih := ih h2
    unfold cTx dM at ih ⊢
    rw [List.countP_cons, List.countP_cons, ih, List.contains_cons]
    by_cases hk : k = i
    · subst hk
      simp [h1]
    · have : (i == k) = false := by simp; exact fun e => hk e.symm
      rw [this, Bool.false_or]
      by_cases hlt : k < i
      · simp [hlt, show k < i + 1 by omega]; omega
      · simp [hlt, show ¬ k < i + 1 by omega]
theorem rts_app {R : Rts} {Y : List (Nat × Option Root) × List Nat} {c : Nat} (h : c < R.length) : rts (R ++ [Y]) c = rts R c := by
  unfold rts; rw [List.getElem?_append_left h]
theorem mws_facts {E : Env} {ops : Array Oper} {msk sl : List (Nat × AV)} {Ms : List Nat} (hn : Ms.Nodup) {hd : List Oper} {rd : List (Nat × AV)} {R : Rts} {X : List (Nat × Option Root) × List Nat} (h : MWs E ops msk sl Ms hd rd R X) :
    R.length = cTx Ms hd.length + 1 ∧ rts R (cTx Ms hd.length) = X ∧ rd.map (·.1) = (hd.filterMap (·.dst)).reverse ∧ (∀ (i : Nat) (o : Oper), hd[i]? = some o → ∃ d r, ∃ done : List (Nat × AV), o.dst = some d ∧ (d, r) ∈ rd ∧ (∀ x ∈ done, x ∈ rd) ∧ STo E ops o (pickF ops.toList done o ++ (msk ++ sl)) (rts R (cTx Ms i)) (rts R (cTx Ms i + dM Ms i)) d r) := by
  have c0 : cTx Ms 0 = 0 := by unfold cTx; rw [List.countP_eq_zero]; simp
  have mono : ∀ {i j : Nat}, i ≤ j → cTx Ms i ≤ cTx Ms j := fun {i j} hij => countP_le (fun k _ hk => by simp at hk ⊢; omega)
  induction h with
  | nil X => exact ⟨by simp [c0], by simp [c0, rts], rfl, fun i o h => by simp at h⟩
  | @val hd done R X o d r h hdst hM hv ih =>
    obtain ⟨h0, h0', h1, h2⟩ := ih
    have hd0 : dM Ms hd.length = 0 := by unfold dM; rw [hM]; rfl
    have hl : cTx Ms (hd ++ [o]).length = cTx Ms hd.length := by rw [List.length_append, List.length_singleton, cTx_succ hn, hd0]; rfl
    refine ⟨by rw [hl]; exact h0, by rw [hl]; exact h0', by simp [hdst, h1], ?_⟩
    intro i o' hi
    rw [List.getElem?_append] at hi
    split at hi
    · obtain ⟨d', r', done', e1, e2, e3, e4⟩ := h2 i o' hi
      exact ⟨d', r', done', e1, List.mem_cons_of_mem _ e2, fun x hx => List.mem_cons_of_mem _ (e3 x hx), e4⟩
    · rename_i hlt
      have hii : i = hd.length := by
        rcases Nat.eq_zero_or_pos (i - hd.length) with h | h
        · omega
        · rw [List.getElem?_eq_none (by simp; omega)] at hi; cases hi
      subst hii
      have : o' = o := by simpa using hi.symm
      subst this
      refine ⟨d, r, done, hdst, List.mem_cons_self, fun x hx => List.mem_cons_of_mem _ hx, ?_⟩
      rw [hd0, Nat.add_zero, h0']; exact hv
  | @mem hd done R X Y o d r h hdst hM hv ih =>
    obtain ⟨h0, h0', h1, h2⟩ := ih
    have hd0 : dM Ms hd.length = 1 := by unfold dM; rw [hM]; rfl
    have hl : cTx Ms (hd ++ [o]).length = cTx Ms hd.length + 1 := by rw [List.length_append, List.length_singleton, cTx_succ hn, hd0]
    refine ⟨by rw [hl, List.length_append, h0]; rfl, ?_, by simp [hdst, h1], ?_⟩
    · rw [hl, ← h0]; unfold rts; rw [List.getElem?_append_right (Nat.le_refl _)]; simp
    intro i o' hi
    rw [List.getElem?_append] at hi
    split at hi
    · rename_i hlt
      obtain ⟨d', r', done', e1, e2, e3, e4⟩ := h2 i o' hi
      refine ⟨d', r', done', e1, List.mem_cons_of_mem _ e2, fun x hx => List.mem_cons_of_mem _ (e3 x hx), ?_⟩
      have hb : cTx Ms i + dM Ms i ≤ cTx Ms hd.length := by rw [← cTx_succ hn]; exact mono (by omega)
      rw [rts_app (by omega), rts_app (by omega)]; exact e4
    · rename_i hlt
      have hii : i = hd.length := by
        rcases Nat.eq_zero_or_pos (i - hd.length) with h | h
        · omega
        · rw [List.getElem?_eq_none (by simp; omega)] at hi; cases hi
      subst hii
      have : o' = o := by simpa using hi.symm
      subst this
      refine ⟨d, r, done, hdst, List.mem_cons_self, fun x hx => List.mem_cons_of_mem _ hx, ?_⟩
      rw [hd0, rts_app (by omega), h0', ← h0]
      have : rts (R ++ [Y]) R.length = Y := by unfold rts; rw [List.getElem?_append_right (Nat.le_refl _)]; simp
      rw [this]; exact hv
theorem sto_mono {E : Env} {ops : Array Oper} {o : Oper} {sl sl' : List (Nat × AV)} {X Y : List (Nat × Option Root) × List Nat} {d : Nat} {r : AV} (h : STo E ops o sl X Y d r) (hle : SlLe sl sl') : STo E ops o sl' X Y d r :=
  fun sl2 h2 => h sl2 (fun t c ht hn => h2 t c (hle t c ht hn) hn)
theorem pick_le {l : List Oper} {m : Nat} {rd done : List (Nat × AV)} {sl : List (Nat × AV)} (hnd : (rd.map (·.1)).Nodup) (hs : ∀ x ∈ done, x ∈ rd) (o : Oper) (he : ∀ j ∈ edgesB o, j < m) : SlLe (pickF l done o ++ (maskF (l.take m) ++ sl)) (pickF l rd o ++ (maskF (l.take m) ++ sl)) := by
  have he0 := he
  intro t c ht' hn
  rcases lookup_append_some _ _ _ _ ht' with h | ⟨h0, h⟩
  · have hm := lookup_memP h
    have : (t, c) ∈ pickF l rd o := by
      simp only [pickF, List.mem_filterMap] at hm ⊢
      obtain ⟨e, he, hm⟩ := hm
      refine ⟨e, he, ?_⟩
      split at hm
      case isFalse => cases hm
      rename_i hb
      rw [if_pos hb]
      obtain ⟨d', hd', hm⟩ := Option.bind_eq_some_iff.1 hm
      obtain ⟨r', hr', hm⟩ := Option.map_eq_some_iff.1 hm
      cases hm
      rw [hd', Option.bind_some, nodup_lookup hnd (hs _ (lookup_memP hr'))]
      rfl
    obtain ⟨c', hc'⟩ := lookup_of_mem this
    have hc2 := lookup_memP hc'
    simp only [pickF, List.mem_filterMap] at hc2 this
    have key : ∀ c, (∃ e ∈ o.after.toList, (if Region.binds .any e = true then ((l[e.on]?).bind (·.dst)).bind fun d => (rd.lookup d).map fun r => (d, r) else none) = some (t, c)) → rd.lookup t = some c := by
      rintro c ⟨e, he, hm⟩
      split at hm
      case isFalse => cases hm
      obtain ⟨d', hd', hm⟩ := Option.bind_eq_some_iff.1 hm
      obtain ⟨r', hr', hm⟩ := Option.map_eq_some_iff.1 hm
      cases hm; exact hr'
    have k1 := key c this
    have k2 := key c' hc2
    rw [k1] at k2; cases k2
    show ((pickF l rd o) ++ (maskF (l.take m) ++ sl)).lookup t = some c
    rw [List.lookup_append, hc']; rfl
  · rcases lookup_append_some _ _ _ _ h with h | ⟨h1, h⟩
    · have hm := lookup_memP h
      simp only [maskF, List.mem_filterMap] at hm
      obtain ⟨_, _, hm⟩ := hm
      obtain ⟨_, _, hm⟩ := Option.map_eq_some_iff.1 hm
      cases hm; cases hn
    · have hp : (pickF l rd o).lookup t = none := by
        cases hl : (pickF l rd o).lookup t with
        | none => rfl
        | some c' =>
          have hm := lookup_memP hl
          simp only [pickF, List.mem_filterMap] at hm
          obtain ⟨e, he, hm⟩ := hm
          split at hm
          case isFalse => cases hm
          obtain ⟨d', hd', hm⟩ := Option.bind_eq_some_iff.1 hm
          obtain ⟨oj, hoj, hdj⟩ := Option.bind_eq_some_iff.1 hd'
          obtain ⟨r', hr', hm⟩ := Option.map_eq_some_iff.1 hm
          cases hm
          have hem : e.on < m := he0 _ (by
            simp only [edgesB, List.mem_filterMap]
            exact ⟨e, he, by rw [if_pos (by assumption)]⟩)
          have : (t, AV.dead) ∈ maskF (l.take m) := by
            simp only [maskF, List.mem_filterMap]
            exact ⟨oj, List.mem_of_getElem? (show (l.take m)[e.on]? = some oj by rw [List.getElem?_take, if_pos hem]; exact hoj), by rw [hdj]; rfl⟩
          obtain ⟨c', hc'⟩ := lookup_of_mem this
          rw [h1] at hc'; cases hc'
      rw [List.lookup_append, hp, Option.none_or, List.lookup_append, h1, Option.none_or]
      exact h
/-- the numbers of memory operations at which a value operation may come, beside its place in the text -/
def extrasM (m : Nat) (Ms : List Nat) (A : List (List Nat)) : List (Nat × Nat) := (List.range m).flatMap fun i => ((List.range (hiM Ms A i + 1)).filter fun c => decide (loM Ms A i ≤ c) && c != cTx Ms i).map fun c => (i, c)
theorem mone_of {E : Env} {ops : Array Oper} {sl : List (Nat × AV)} {m : Nat} {Ms : List Nat} {A : List (List Nat)} {R : Rts} {rd : List (Nat × AV)} {X : List (Nat × Option Root) × List Nat} (hn : Ms.Nodup) (hnd : ((ops.toList.take m).filterMap (·.dst)).Nodup) (h : MWs E ops (maskF (ops.toList.take m)) sl Ms (ops.toList.take m) rd R X) (hedge : ∀ i o, i < m → ops.toList[i]? = some o → ∀ j ∈ edgesB o, j < i)
    (hx : ∀ p ∈ extrasM m Ms A, Ms.contains p.1 = false ∧ ∀ o, ops.toList[p.1]? = some o → ∃ d r, o.dst = some d ∧ rd.lookup d = some r ∧ STo E ops o (pickF ops.toList rd o ++ (maskF (ops.toList.take m) ++ sl)) (rts R p.2) (rts R p.2) d r) :
    MOne E ops.toList m sl R Ms A rd := by
  obtain ⟨f1, f2, f3, f4⟩ := mws_facts hn h
  have hnd2 : (rd.map (·.1)).Nodup := by rw [f3]; exact (List.reverse_perm _).nodup_iff.2 hnd
  intro i o hi ho
  obtain ⟨d, r, done, e1, e2, e3, e4⟩ := f4 i o (by rw [List.getElem?_take, if_pos hi]; exact ho)
  have hlk := nodup_lookup hnd2 e2
  refine ⟨d, r, e1, hlk, fun c c1 c2 => ?_⟩
  by_cases hc : c = cTx Ms i
  · subst hc; exact sto_mono e4 (pick_le hnd2 e3 o (fun j hj => Nat.lt_trans (hedge i o hi ho j hj) hi))
  · have hmem : (i, c) ∈ extrasM m Ms A := by
      simp only [extrasM, List.mem_flatMap, List.mem_range, List.mem_map, List.mem_filter, Bool.and_eq_true, decide_eq_true_eq, bne_iff_ne, ne_eq]
      exact ⟨i, hi, c, ⟨by omega, c1, hc⟩, rfl⟩
    obtain ⟨g1, g2⟩ := hx _ hmem
    obtain ⟨d', r', k1, k2, k3⟩ := g2 o ho
    rw [e1] at k1; cases k1
    rw [hlk] at k2; cases k2
    have : dM Ms i = 0 := by unfold dM; rw [g1]; rfl
    rw [this, Nat.add_zero]; exact k3
end Go.T
