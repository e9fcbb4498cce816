/- Lemmas for FnExactAddPairs; no condition. -/

import Derived.Test.YtihgcgccajikpaaTO
import Derived.Orders
import Derived.StillTail
set_option linter.unusedVariables false
namespace Go.T
open Go Go.RowKit Go.Proofs

/- ------------------------------------------------ statements whose order the run draws -/
def AV.nd : AV → Bool
  | .dead => false
  | _ => true
def SlLe (sl sl2 : List (Nat × AV)) : Prop := ∀ t c, sl.lookup t = some c → c.nd = true → sl2.lookup t = some c
theorem slLe_get {sl sl2 : List (Nat × AV)} {rt : List (Nat × Option Root)} {us : List Nat} (h : SlLe sl sl2) {t : Nat} {c : AV} (hg : St.get ⟨sl, rt, us⟩ t = c) (hn : c.nd = true) : St.get ⟨sl2, rt, us⟩ t = c := by
  simp only [St.get] at hg ⊢
  cases hl : sl.lookup t with
  | none => rw [hl] at hg; simp only [Option.getD_none] at hg; subst hg; cases hn
  | some c' => rw [hl] at hg; simp only [Option.getD_some] at hg; subst hg; rw [h _ _ hl hn]; rfl
theorem le_op {sl sl2 : List (Nat × AV)} {rt : List (Nat × Option Root)} {us : List Nat} (h : SlLe sl sl2) {t : Nat} {c : AV} (hg : St.get ⟨sl, rt, us⟩ t = c) (hn : c.nd = true) : opnd ⟨sl2, rt, us⟩ (.tmp t) = c := slLe_get h hg hn
theorem le_gd {sl sl2 : List (Nat × AV)} {rt : List (Nat × Option Root)} {us : List Nat} (h : SlLe sl sl2) {t : Nat} {c : AV} {p : Bool} (hg : St.get ⟨sl, rt, us⟩ t = gd p c) (hp : p = true) (hn : c.nd = true) : opnd ⟨sl2, rt, us⟩ (.tmp t) = c := by
  rw [gd_pos hp] at hg; exact le_op h hg hn
theorem nd_gd {p : Bool} {v : Value} : (gd p (.lit v)).nd = true := by cases p <;> simp [gd, AV.nd]

def VTo (E : Env) (ops : Array Oper) (o : Oper) (sl : List (Nat × AV)) (rt : List (Nat × Option Root)) (us : List Nat) (d : Nat) (r : AV) : Prop :=
  ∀ sl2, SlLe sl sl2 → ∀ a w (Q : Exit → Act → World → Prop) (K : Act → World → Prop), Rel E ⟨sl2, rt, us⟩ a w → (∀ a' w', Rel E ⟨(d, r) :: sl2, rt, us⟩ a' w' → K a' w') →
    (if Region.wanted o (yielded ops a.tmps) then o.wp E.P a w K Q ∨ (o.asks E.P a w ∧ LetsOut Q) else K (a.put o.dst undef) w)
theorem vt_op {E : Env} {ops : Array Oper} {o : Oper} {sl : List (Nat × AV)} {rt : List (Nat × Option Root)} {us : List Nat} {d : Nat} {r : AV} (hg : o.guard = none) (h : ∀ sl2, SlLe sl sl2 → OpTo E o ⟨sl2, rt, us⟩ (St.put ⟨sl2, rt, us⟩ d r)) : VTo E ops o sl rt us d r := by
  intro sl2 hle a w Q K hr hk
  rw [if_pos (by simp [Region.wanted, hg])]
  exact .inl (h sl2 hle a w hr K Q (fun a' w' hr' => hk a' w' hr'))
theorem vt_may' {E : Env} {ops : Array Oper} {o : Oper} {sl : List (Nat × AV)} {rt : List (Nat × Option Root)} {us : List Nat} {t : Nat} {r : AV} {p : Bool} {j d : Nat} {b c : Bool} (hg : o.guard = some (j, b)) (hj : ((ops.toList[j]?).bind (·.dst)) = some d) (hd : d < E.n) (ht : o.dst = some t) (hok : t < E.n)
    (hs : St.get ⟨sl, rt, us⟩ d = gd p (.lit (.bool c))) (ho : (p && (c == b)) = true → ∀ sl2, SlLe sl sl2 → OpTo E o ⟨sl2, rt, us⟩ (St.put ⟨sl2, rt, us⟩ t r)) : VTo E ops o sl rt us t (gd (p && (c == b)) r) := by
  intro sl2 hle a w Q K hr hk
  rw [Array.getElem?_toList] at hj
  have hs2 := slLe_get (rt := rt) (us := us) hle hs nd_gd
  have hskip : ¬ (p && (c == b)) = true → K (a.put o.dst undef) w := by
    intro hn
    rw [gd_neg hn] at hk
    obtain ⟨χ, hd', h0⟩ := hr
    have h1 := h0.putO (d := o.dst) (by rw [ht]; simpa [okD] using hok) (v := undef) (repR_lit undef)
    rw [ht] at h1 ⊢
    exact hk _ w ⟨χ, hd', h1⟩
  by_cases hp : p = true
  · rw [gd_pos hp] at hs2
    have hy := yielded_lit hr hj hd hs2
    by_cases hc : c = b
    · have hpc : (p && (c == b)) = true := by simp [hp, hc]
      rw [if_pos (by simp [Region.wanted, hg, hy, hc])]
      rw [gd_pos hpc] at hk
      exact .inl (ho hpc sl2 hle a w hr K Q (fun a' w' hr' => hk a' w' hr'))
    · rw [if_neg (by simp [Region.wanted, hg, hy, hc])]
      exact hskip (fun hx => hc (by simpa using and_r hx))
  · rw [gd_neg hp] at hs2
    obtain ⟨χ, hd', h0⟩ := hr
    have hv := lit_inv (hs2 ▸ h0.slots d)
    have hyy : yielded ops a.tmps j = none := by
      unfold yielded
      rw [hj, Option.bind_some]
      have hsz : d < a.tmps.size := by rw [h0.size]; exact hd
      rw [Array.getD_eq_getD_getElem?, Array.getElem?_eq_getElem hsz, Option.getD_some] at hv
      rw [Array.getElem?_eq_getElem hsz, hv]
      rfl
    rw [if_neg (by simp [Region.wanted, hg, hyy])]
    exact hskip (fun hx => hp (and_l hx))
theorem vt_may {E : Env} {ops : Array Oper} {o : Oper} {sl : List (Nat × AV)} {rt : List (Nat × Option Root)} {us : List Nat} {t : Nat} {r : AV} {j d : Nat} {b c : Bool} (hg : o.guard = some (j, b)) (hj : ((ops.toList[j]?).bind (·.dst)) = some d) (hd : d < E.n) (ht : o.dst = some t) (hok : t < E.n)
    (hs : St.get ⟨sl, rt, us⟩ d = .lit (.bool c)) (ho : (c == b) = true → ∀ sl2, SlLe sl sl2 → OpTo E o ⟨sl2, rt, us⟩ (St.put ⟨sl2, rt, us⟩ t r)) : VTo E ops o sl rt us t (gd (c == b) r) := by
  have := vt_may' (p := true) (E := E) (ops := ops) (o := o) (r := r) hg hj hd ht hok (by rw [hs, gd_pos rfl]) (fun h => ho (and_r h))
  simpa using this

/-- what an operation of a drawn statement may lean on: what those ahead of it have left; of the others' slots nothing -/
def pickF (ops : List Oper) (done : List (Nat × AV)) (o : Oper) : List (Nat × AV) :=
  o.after.toList.filterMap fun e => if Region.binds .any e then ((ops[e.on]?).bind (·.dst)).bind fun d => (done.lookup d).map fun r => (d, r) else none
def maskF (ops : List Oper) : List (Nat × AV) := ops.filterMap fun o => o.dst.map fun d => (d, .dead)

/-- the first `k` operations, each by what is ahead of it -/
inductive DWs (E : Env) (ops : Array Oper) (sl : List (Nat × AV)) (rt : List (Nat × Option Root)) (us : List Nat) : List Oper → List (Nat × AV) → Prop
  | nil : DWs E ops sl rt us [] []
  | snoc {hd : List Oper} {done : List (Nat × AV)} {o : Oper} {d : Nat} {r : AV} : DWs E ops sl rt us hd done → o.dst = some d → VTo E ops o (pickF ops.toList done o ++ (maskF ops.toList ++ sl)) rt us d r → DWs E ops sl rt us (hd ++ [o]) ((d, r) :: done)

/-- binding edges of an operation -/
def edgesB (o : Oper) : List Nat := o.after.toList.filterMap fun e => if Region.binds .any e then some e.on else none
/-- the head's operations: each after earlier ones alone, each with a slot of its own -/
def headB (ops : List Oper) (m : Nat) : Bool := ((ops.take m).zipIdx.all fun p => (edgesB p.1).all fun j => decide (j < p.2)) && decide (((ops.take m).filterMap (·.dst)).Nodup) && (ops.take m).all (·.dst.isSome) && decide (m ≤ ops.length)
/-- the tail's: each after all ahead of it -/
def tailB (ops : List Oper) (m : Nat) : Bool := (ops.zipIdx.drop m).all fun p => (List.range p.2).all fun j => (edgesB p.1).contains j
def lst0 (n m : Nat) : Array Bool := (List.replicate m true ++ List.replicate (n - m) false).toArray

theorem countP_drop {f g : Nat → Bool} {i : Nat} : ∀ {l : List Nat}, l.Nodup → i ∈ l → f i = true → g i = false → (∀ j, j ≠ i → g j = f j) → l.countP g + 1 = l.countP f
  | [], _, h, _, _, _ => by cases h
  | x :: l, hn, hi, hf, hg, ho => by
    rw [List.nodup_cons] at hn
    rcases List.mem_cons.1 hi with e | e
    · subst e
      rw [List.countP_cons, List.countP_cons, hf, hg]
      have : l.countP g = l.countP f := List.countP_congr (fun j hj => by rw [ho j (fun e => hn.1 (e ▸ hj))])
      simp [this]
    · have hx : x ≠ i := fun h => hn.1 (h ▸ e)
      rw [List.countP_cons, List.countP_cons, ho x hx]
      have := countP_drop hn.2 e hf hg ho
      omega

theorem edges_mem {o : Oper} {j : Nat} (h : j ∈ edgesB o) : ∃ e ∈ o.after, Region.binds .any e = true ∧ e.on = j := by
  simp only [edgesB, List.mem_filterMap] at h
  obtain ⟨e, he, h⟩ := h
  split at h
  · cases h; exact ⟨e, by simpa using he, by assumption, rfl⟩
  · cases h

theorem ready_iff {ops : Array Oper} {listed : Array Bool} {i : Nat} (hs : listed.size = ops.size) : i ∈ Region.ready .any ops listed ↔ ∃ o, ops[i]? = some o ∧ listed.getD i false = false ∧ ∀ j ∈ edgesB o, listed.getD j false = true := by
  unfold Region.ready
  simp only [List.mem_filter, List.mem_range, Bool.and_eq_true, Bool.not_eq_true']
  constructor
  · rintro ⟨hi, h1, h2⟩
    refine ⟨ops[i], by simp [hi], ?_, ?_⟩
    · rw [Array.getD_eq_getD_getElem?] at h1 ⊢
      rw [Array.getElem?_eq_getElem (by omega)] at h1 ⊢
      simpa using h1
    · intro j hj
      obtain ⟨e, he, hb, rfl⟩ := edges_mem hj
      rw [Array.getElem?_eq_getElem hi] at h2
      simp only [Option.map_some, Option.getD_some, Array.all_eq_true_iff_forall_mem] at h2
      have := h2 e he
      simpa [hb] using this
  · rintro ⟨o, ho, h1, h2⟩
    obtain ⟨hi, rfl⟩ := Array.getElem?_eq_some_iff.1 ho
    refine ⟨hi, ?_, ?_⟩
    · rw [Array.getD_eq_getD_getElem?] at h1 ⊢
      rw [Array.getElem?_eq_getElem (by omega)] at h1 ⊢
      simpa using h1
    · rw [Array.getElem?_eq_getElem hi]
      simp only [Option.map_some, Option.getD_some, Array.all_eq_true_iff_forall_mem]
      intro e he
      cases hb : Region.binds .any e with
      | false => rfl
      | true =>
        simp only [Bool.not_true, Bool.false_or]
        refine h2 _ ?_
        simp only [edgesB, List.mem_filterMap]
        exact ⟨e, by simpa using he, by rw [if_pos hb]⟩

/-- what stands while the head is done in whatever order -/
def DInv (E : Env) (l : List Oper) (m : Nat) (sl : List (Nat × AV)) (rt : List (Nat × Option Root)) (us : List Nat) (rd : List (Nat × AV)) (listed : Array Bool) (a : Act) (w : World) : Prop :=
  ∃ sl2, Rel E ⟨sl2, rt, us⟩ a w ∧ (∀ j o d r, j < m → l[j]? = some o → listed.getD j false = true → o.dst = some d → rd.lookup d = some r → r.nd = true → sl2.lookup d = some r) ∧ (∀ t c, rd.lookup t = none → sl.lookup t = some c → c.nd = true → sl2.lookup t = some c)

/-- each operation of the head does its part -/
def DOne (E : Env) (l : List Oper) (m : Nat) (sl : List (Nat × AV)) (rt : List (Nat × Option Root)) (us : List Nat) (rd : List (Nat × AV)) : Prop :=
  ∀ i o, i < m → l[i]? = some o → ∃ d r, o.dst = some d ∧ rd.lookup d = some r ∧ VTo E l.toArray o (pickF l rd o ++ (maskF l ++ sl)) rt us d r

theorem lookup_append_some {β : Type} : ∀ (l r : List (Nat × β)) (t : Nat) (c : β), (l ++ r).lookup t = some c → l.lookup t = some c ∨ l.lookup t = none ∧ r.lookup t = some c
  | [], r, t, c, h => .inr ⟨rfl, h⟩
  | (i, x) :: l, r, t, c, h => by
    by_cases e : t = i
    · subst e; rw [List.cons_append, lookup_cons_same] at h; rw [lookup_cons_same]; exact .inl h
    · rw [List.cons_append, lookup_cons_ne e] at h; rw [lookup_cons_ne e]; exact lookup_append_some l r t c h
theorem lookup_memP {β : Type} : ∀ {l : List (Nat × β)} {t : Nat} {c : β}, l.lookup t = some c → (t, c) ∈ l
  | [], _, _, h => by simp at h
  | (i, x) :: l, t, c, h => by
    by_cases e : t = i
    · subst e; rw [lookup_cons_same] at h; cases h; exact List.mem_cons_self
    · rw [lookup_cons_ne e] at h; exact List.mem_cons_of_mem _ (lookup_memP h)
theorem lookup_of_mem {β : Type} : ∀ {l : List (Nat × β)} {t : Nat} {c : β}, (t, c) ∈ l → ∃ c', l.lookup t = some c'
  | (i, x) :: l, t, c, h => by
    by_cases e : t = i
    · subst e; exact ⟨x, lookup_cons_same _ _ _⟩
    · rw [lookup_cons_ne e]
      rcases List.mem_cons.1 h with h | h
      · cases h; exact absurd rfl e
      · exact lookup_of_mem h

theorem dinv_step {E : Env} {l : List Oper} {m : Nat} {sl : List (Nat × AV)} {rt : List (Nat × Option Root)} {us : List Nat} {rd : List (Nat × AV)} (hone : DOne E l m sl rt us rd) (hdist : ∀ i j oi oj d, i < m → j < m → l[i]? = some oi → l[j]? = some oj → oi.dst = some d → oj.dst = some d → i = j)
    (hrd : ∀ d r, rd.lookup d = some r → ∃ j o, j < m ∧ l[j]? = some o ∧ o.dst = some d) (hedge : ∀ i o, i < m → l[i]? = some o → ∀ j ∈ edgesB o, j < i)
    {Q : Exit → Act → World → Prop} {K : Act → World → Prop} {listed : Array Bool} {a : Act} {w : World} {i : Nat} {o : Oper} (hi : i < m) (ho : l[i]? = some o) (hready : ∀ j ∈ edgesB o, listed.getD j false = true) (hsz : i < listed.size) (hinv : DInv E l m sl rt us rd listed a w)
    (hk : ∀ a' w', DInv E l m sl rt us rd (listed.setIfInBounds i true) a' w' → K a' w') : wpOp E.P l.toArray Q i K a w := by
  obtain ⟨sl2, hr, hA, hB⟩ := hinv
  obtain ⟨d, r, hd, hrr, hv⟩ := hone i o hi ho
  have ho' : l.toArray[i]? = some o := by simpa using ho
  unfold wpOp
  rw [ho']
  refine hv sl2 ?_ a w Q K hr (fun a' w' hr' => hk a' w' ⟨_, hr', ?_, ?_⟩)
  · intro t c ht hn
    rcases lookup_append_some _ _ _ _ ht with h | ⟨h0, h⟩
    · have hm := lookup_memP h
      simp only [pickF, List.mem_filterMap] at hm
      obtain ⟨e, he, hm⟩ := hm
      split at hm
      case isFalse => cases hm
      rename_i hb
      obtain ⟨d', hd', hm⟩ := Option.bind_eq_some_iff.1 hm
      obtain ⟨oj, hoj, hdj⟩ := Option.bind_eq_some_iff.1 hd'
      obtain ⟨r', hr', hm⟩ := Option.map_eq_some_iff.1 hm
      cases hm
      have hej : e.on ∈ edgesB o := by
        simp only [edgesB, List.mem_filterMap]
        exact ⟨e, he, by rw [if_pos hb]⟩
      have hlt : e.on < m := Nat.lt_trans (hedge i o hi ho _ hej) hi
      exact hA e.on oj _ _ hlt hoj (hready _ hej) hdj hr' hn
    · rcases lookup_append_some _ _ _ _ h with h | ⟨h1, h⟩
      · have hm := lookup_memP h
        simp only [maskF, List.mem_filterMap] at hm
        obtain ⟨_, _, hm⟩ := hm
        obtain ⟨_, _, hm⟩ := Option.map_eq_some_iff.1 hm
        cases hm
        cases hn
      · refine hB t c ?_ h hn
        cases hl : rd.lookup t with
        | none => rfl
        | some r' =>
          obtain ⟨j, oj, hj, hoj, hdj⟩ := hrd _ _ hl
          have : (t, AV.dead) ∈ maskF l := by
            simp only [maskF, List.mem_filterMap]
            exact ⟨oj, List.mem_of_getElem? hoj, by rw [hdj]; rfl⟩
          obtain ⟨c', hc'⟩ := lookup_of_mem this
          rw [h1] at hc'; cases hc'
  · intro j oj d' r' hj hoj hl hdj hrd' hn
    by_cases e : d' = d
    · subst e
      have := hdist i j o oj d' hi hj ho hoj hd hdj
      subst this
      rw [lookup_cons_same]
      rw [hrr] at hrd'; exact hrd'
    · rw [lookup_cons_ne e]
      have hne : i ≠ j := by
        rintro rfl
        rw [ho] at hoj; cases hoj
        rw [hd] at hdj; cases hdj; exact e rfl
      rw [Go.getD_set_ne false hne] at hl
      exact hA j oj d' r' hj hoj hl hdj hrd' hn
  · intro t c hl hs hn
    by_cases e : t = d
    · subst e; rw [hrr] at hl; cases hl
    · rw [lookup_cons_ne e]; exact hB t c hl hs hn

theorem min_unlisted {listed : Array Bool} : ∀ (m j : Nat), j < m → listed.getD j false = false → ∃ i, i < m ∧ listed.getD i false = false ∧ ∀ k, k < i → listed.getD k false = true
  | 0, _, h, _ => absurd h (Nat.not_lt_zero _)
  | m + 1, j, h, hj => by
    by_cases hx : ∃ k, k < m ∧ listed.getD k false = false
    · obtain ⟨k, hk, hk2⟩ := hx
      obtain ⟨i, hi, h1, h2⟩ := min_unlisted m k hk hk2
      exact ⟨i, Nat.lt_succ_of_lt hi, h1, h2⟩
    · have hall : ∀ k, k < m → listed.getD k false = true := fun k hk => by
        cases hc : listed.getD k false with
        | true => rfl
        | false => exact absurd ⟨k, hk, hc⟩ hx
      have : j = m := by
        rcases Nat.lt_or_ge j m with h' | h'
        · rw [hall j h'] at hj; cases hj
        · omega
      subst this
      exact ⟨j, Nat.lt_succ_self _, hj, hall⟩

theorem head_any {E : Env} {l : List Oper} {m : Nat} {sl : List (Nat × AV)} {rt : List (Nat × Option Root)} {us : List Nat} {rd : List (Nat × AV)} (hone : DOne E l m sl rt us rd) (hdist : ∀ i j oi oj d, i < m → j < m → l[i]? = some oi → l[j]? = some oj → oi.dst = some d → oj.dst = some d → i = j)
    (hrd : ∀ d r, rd.lookup d = some r → ∃ j o, j < m ∧ l[j]? = some o ∧ o.dst = some d) (hedge : ∀ i o, i < m → l[i]? = some o → ∀ j ∈ edgesB o, j < i) (htail : ∀ i o, m ≤ i → l[i]? = some o → ∀ j, j < i → j ∈ edgesB o) (hml : m ≤ l.length)
    {Q : Exit → Act → World → Prop} (hseq : Region.seqB .any l.toArray (l.length - m) m (lst0 l.length m) = true)
    (hend : ∀ a w, DInv E l m sl rt us rd (lst0 l.length m) a w → wpList E.P l.toArray Q (l.drop m) a w) :
    ∀ (u : Nat) (listed : Array Bool) (a : Act) (w : World), listed.size = l.length → (∀ j, m ≤ j → listed.getD j false = false) → (List.range m).countP (fun j => !listed.getD j false) = u → DInv E l m sl rt us rd listed a w → wpAny E.P .any l.toArray Q (l.length - m + u) listed a w
  | 0, listed, a, w, hs, ht, hu, hinv => by
    have hall : ∀ j, j < m → listed.getD j false = true := by
      intro j hj
      have := List.countP_eq_zero.1 hu j (by simpa using hj)
      simpa using this
    have e : listed = lst0 l.length m := by
      apply Array.ext
      · simp [lst0, hs]; omega
      · intro j h1 h2
        have e1 : listed.getD j false = listed[j] := by rw [Array.getD_eq_getD_getElem?, Array.getElem?_eq_getElem h1]; rfl
        rw [← e1]
        simp only [lst0, List.getElem_toArray]
        by_cases hj : j < m
        · rw [hall j hj, List.getElem_append_left (by simpa using hj)]; simp
        · rw [ht j (by omega), List.getElem_append_right (by simpa using hj)]; simp
    subst e
    have h0 := hend a w hinv
    have := wpAny_of_seq (md := .any) (Q' := Q) (l.drop m) m (lst0 l.length m) a w (fun j => by simp [List.getElem?_drop]) (by simpa using hseq) h0
    simpa using this
  | u + 1, listed, a, w, hs, ht, hu, hinv => by
    have hs' : listed.size = l.toArray.size := by simpa using hs
    have hex : ∃ j, j < m ∧ listed.getD j false = false := by
      have : 0 < (List.range m).countP (fun j => !listed.getD j false) := by omega
      obtain ⟨j, hj, hj2⟩ := List.countP_pos_iff.1 this
      exact ⟨j, by simpa using hj, by simpa using hj2⟩
    obtain ⟨j0, hj0, hj1⟩ := hex
    obtain ⟨i0, hi0, hi1, hi2⟩ := min_unlisted m j0 hj0 hj1
    rw [← Nat.add_assoc]
    refine ⟨fun hnil => ?_, fun i hi => ?_⟩
    · obtain ⟨o, ho⟩ : ∃ o, l[i0]? = some o := ⟨l[i0]'(by omega), by simp⟩
      have : i0 ∈ Region.ready .any l.toArray listed := (ready_iff hs').2 ⟨o, by simpa using ho, hi1, fun j hj => hi2 j (hedge i0 o hi0 ho j hj)⟩
      rw [hnil] at this; cases this
    · obtain ⟨o, ho, hl, hr⟩ := (ready_iff hs').1 hi
      have ho : l[i]? = some o := by simpa using ho
      have him : i < m := by
        rcases Nat.lt_or_ge i m with h | h
        · exact h
        · have := hr i0 (htail i o h ho i0 (by omega))
          rw [hi1] at this; cases this
      refine dinv_step hone hdist hrd hedge him ho hr (by omega) hinv (fun a' w' hinv' => ?_)
      refine head_any hone hdist hrd hedge htail hml hseq hend u _ a' w' (by simpa using hs) ?_ ?_ hinv'
      · intro j hj
        rw [Go.getD_set_ne false (by omega)]
        exact ht j hj
      · have := countP_drop (f := fun j => !listed.getD j false) (g := fun j => !(listed.setIfInBounds i true).getD j false) (i := i) (l := List.range m) List.nodup_range (by simpa using him) (by simp [hl]) (by
          have : i < listed.size := by rw [hs]; omega
          simp [this]) (fun j hj => by simp only [Go.getD_set_ne false (Ne.symm hj)])
        omega

theorem nodup_filterMap {l : List Oper} (h : (l.filterMap (·.dst)).Nodup) : ∀ (i j : Nat) (oi oj : Oper) (d : Nat), l[i]? = some oi → l[j]? = some oj → oi.dst = some d → oj.dst = some d → i = j := by
  induction l with
  | nil => intro i j oi oj d hi; simp at hi
  | cons o l ih =>
    intro i j oi oj d hi hj hdi hdj
    have hsub : (l.filterMap (·.dst)).Nodup := by
      cases hd : o.dst with
      | none => simpa [List.filterMap_cons, hd] using h
      | some d => rw [List.filterMap_cons, hd] at h; exact (List.nodup_cons.1 h).2
    have hnin : ∀ (k : Nat) (ok : Oper), l[k]? = some ok → ok.dst = o.dst → o.dst = some d → False := by
      intro k ok hk he hd
      rw [List.filterMap_cons, hd] at h
      exact (List.nodup_cons.1 h).1 (List.mem_filterMap.2 ⟨ok, List.mem_of_getElem? hk, by rw [he, hd]⟩)
    cases i with
    | zero =>
      cases j with
      | zero => rfl
      | succ j =>
        simp at hi hj
        subst hi
        exact (hnin j oj hj (by rw [hdi, hdj]) hdi).elim
    | succ i =>
      cases j with
      | zero =>
        simp at hi hj
        subst hj
        exact (hnin i oi hi (by rw [hdi, hdj]) hdj).elim
      | succ j =>
        simp at hi hj
        rw [ih hsub i j oi oj d hi hj hdi hdj]

theorem dws_facts {E : Env} {ops : Array Oper} {sl : List (Nat × AV)} {rt : List (Nat × Option Root)} {us : List Nat} {hd : List Oper} {rd : List (Nat × AV)} (h : DWs E ops sl rt us hd rd) :
    rd.map (·.1) = (hd.filterMap (·.dst)).reverse ∧ (∀ (i : Nat) (o : Oper), hd[i]? = some o → ∃ d r, ∃ done : List (Nat × AV), o.dst = some d ∧ (d, r) ∈ rd ∧ (∀ x ∈ done, x ∈ rd) ∧ VTo E ops o (pickF ops.toList done o ++ (maskF ops.toList ++ sl)) rt us d r) := by
  induction h with
  | nil => exact ⟨rfl, fun i o h => by simp at h⟩
  | @snoc hd done o d r h hdst hv ih =>
    obtain ⟨h1, h2⟩ := ih
    refine ⟨by simp [hdst, h1], ?_⟩
    intro i o' hi
    rw [List.getElem?_append] at hi
    split at hi
    · obtain ⟨d', r', done', e1, e2, e3, e4⟩ := h2 i o' hi
      exact ⟨d', r', done', e1, List.mem_cons_of_mem _ e2, fun x hx => List.mem_cons_of_mem _ (e3 x hx), e4⟩
    · rename_i hlt
      have : o' = o := by
        have hz : i - hd.length = 0 := by
          rcases Nat.eq_zero_or_pos (i - hd.length) with h | h
          · exact h
          · rw [List.getElem?_eq_none (by simp; omega)] at hi; cases hi
        rw [hz] at hi
        simpa using hi.symm
      subst this
      exact ⟨d, r, done, hdst, List.mem_cons_self, fun x hx => List.mem_cons_of_mem _ hx, hv⟩
theorem nodup_lookup {β : Type} : ∀ {l : List (Nat × β)}, (l.map (·.1)).Nodup → ∀ {t : Nat} {c : β}, (t, c) ∈ l → l.lookup t = some c
  | [], _, _, _, h => by cases h
  | (i, x) :: l, hn, t, c, h => by
    rw [List.map_cons, List.nodup_cons] at hn
    rcases List.mem_cons.1 h with h | h
    · cases h; exact lookup_cons_same _ _ _
    · have : t ≠ i := fun e => hn.1 (List.mem_map.2 ⟨(t, c), h, e⟩)
      rw [lookup_cons_ne this]; exact nodup_lookup hn.2 h
theorem vto_mono {E : Env} {ops : Array Oper} {o : Oper} {sl sl' : List (Nat × AV)} {rt : List (Nat × Option Root)} {us : List Nat} {d : Nat} {r : AV} (h : VTo E ops o sl rt us d r) (hle : SlLe sl sl') : VTo E ops o sl' rt us d r :=
  fun sl2 h2 => h sl2 (fun t c ht hn => h2 t c (hle t c ht hn) hn)

/-- a statement whose order the run draws: its head's operations by what is ahead of each, its tail in the text's order -/
theorem twp_draw {E : Env} {id : Nat} {ops : Array Oper} {sl : List (Nat × AV)} {rt : List (Nat × Option Root)} {us : List Nat} {rd : List (Nat × AV)} {Q : Exit → St → Prop} (m : Nat) (hm : E.P.follows .mixedOrders = true)
    (hh : headB ops.toList m = true) (ht : tailB ops.toList m = true) (hseq : Region.seqB .any ops (ops.toList.length - m) m (lst0 ops.toList.length m) = true)
    (hd : DWs E ops sl rt us (ops.toList.take m) rd) (h : RW E ops (ops.toList.drop m) ⟨rd ++ sl, rt, us⟩ (Q .normal)) : TWp E (.region id ops true) Q ⟨sl, rt, us⟩ := by
  obtain ⟨l⟩ := ops
  simp only at hh ht hseq hd h
  simp only [headB, Bool.and_eq_true, decide_eq_true_eq, List.all_eq_true] at hh
  obtain ⟨⟨⟨hh1, hh2⟩, hh3⟩, hml⟩ := hh
  simp only [tailB, List.all_eq_true] at ht
  obtain ⟨f1, f2⟩ := dws_facts hd
  have hnd : (rd.map (·.1)).Nodup := by rw [f1]; exact (List.reverse_perm _).nodup_iff.2 hh2
  have htk : ∀ i o, i < m → l[i]? = some o → (l.take m)[i]? = some o := fun i o hi ho => by rw [List.getElem?_take, if_pos hi]; exact ho
  have hedge : ∀ i o, i < m → l[i]? = some o → ∀ j ∈ edgesB o, j < i := by
    intro i o hi ho j hj
    have : (o, i) ∈ (l.take m).zipIdx := by
      rw [List.mem_zipIdx_iff_getElem?]; exact htk i o hi ho
    simpa using hh1 _ this j hj
  have htail : ∀ i o, m ≤ i → l[i]? = some o → ∀ j, j < i → j ∈ edgesB o := by
    intro i o hi ho j hj
    have : (o, i) ∈ l.zipIdx.drop m := by
      apply List.mem_of_getElem? (i := i - m)
      rw [List.getElem?_drop, show m + (i - m) = i by omega, List.getElem?_zipIdx, ho]
      simp
    have := ht _ this j (by simpa using hj)
    simpa using this
  have hone : DOne E l m sl rt us rd := by
    intro i o hi ho
    obtain ⟨d, r, done, e1, e2, e3, e4⟩ := f2 i o (htk i o hi ho)
    refine ⟨d, r, e1, nodup_lookup hnd e2, vto_mono e4 ?_⟩
    intro t c ht' hn
    rcases lookup_append_some _ _ _ _ ht' with h | ⟨h0, h⟩
    · have hm := lookup_memP h
      have : (t, c) ∈ pickF l rd o := by
        simp only [pickF, List.mem_filterMap] at hm ⊢
        obtain ⟨e, he, hm⟩ := hm
        refine ⟨e, he, ?_⟩
        split at hm
        case isFalse => cases hm
        rename_i hb
        rw [if_pos hb]
        obtain ⟨d', hd', hm⟩ := Option.bind_eq_some_iff.1 hm
        obtain ⟨r', hr', hm⟩ := Option.map_eq_some_iff.1 hm
        cases hm
        rw [hd', Option.bind_some, nodup_lookup hnd (e3 _ (lookup_memP hr'))]
        rfl
      obtain ⟨c', hc'⟩ := lookup_of_mem this
      have hc2 := lookup_memP hc'
      simp only [pickF, List.mem_filterMap] at hc2 this
      have key : ∀ c, (∃ e ∈ o.after.toList, (if Region.binds .any e = true then ((l[e.on]?).bind (·.dst)).bind fun d => (rd.lookup d).map fun r => (d, r) else none) = some (t, c)) → rd.lookup t = some c := by
        rintro c ⟨e, he, hm⟩
        split at hm
        case isFalse => cases hm
        obtain ⟨d', hd', hm⟩ := Option.bind_eq_some_iff.1 hm
        obtain ⟨r', hr', hm⟩ := Option.map_eq_some_iff.1 hm
        cases hm; exact hr'
      have k1 := key c this
      have k2 := key c' hc2
      rw [k1] at k2; cases k2
      show ((pickF l rd o) ++ (maskF l ++ sl)).lookup t = some c
      rw [List.lookup_append, hc']; rfl
    · rcases lookup_append_some _ _ _ _ h with h | ⟨h1, h⟩
      · have hm := lookup_memP h
        simp only [maskF, List.mem_filterMap] at hm
        obtain ⟨_, _, hm⟩ := hm
        obtain ⟨_, _, hm⟩ := Option.map_eq_some_iff.1 hm
        cases hm; cases hn
      · have hp : (pickF l rd o).lookup t = none := by
          cases hl : (pickF l rd o).lookup t with
          | none => rfl
          | some c' =>
            have hm := lookup_memP hl
            simp only [pickF, List.mem_filterMap] at hm
            obtain ⟨e, he, hm⟩ := hm
            split at hm
            case isFalse => cases hm
            obtain ⟨d', hd', hm⟩ := Option.bind_eq_some_iff.1 hm
            obtain ⟨oj, hoj, hdj⟩ := Option.bind_eq_some_iff.1 hd'
            obtain ⟨r', hr', hm⟩ := Option.map_eq_some_iff.1 hm
            cases hm
            have : (t, AV.dead) ∈ maskF l := by
              simp only [maskF, List.mem_filterMap]
              exact ⟨oj, List.mem_of_getElem? hoj, by rw [hdj]; rfl⟩
            obtain ⟨c', hc'⟩ := lookup_of_mem this
            rw [h1] at hc'; cases hc'
        rw [List.lookup_append, hp, Option.none_or, List.lookup_append, h1, Option.none_or]
        exact h
  have hdist : ∀ i j oi oj d, i < m → j < m → l[i]? = some oi → l[j]? = some oj → oi.dst = some d → oj.dst = some d → i = j := fun i j oi oj d hi hj hoi hoj hdi hdj =>
    nodup_filterMap hh2 i j oi oj d (htk i oi hi hoi) (htk j oj hj hoj) hdi hdj
  have hrd : ∀ d r, rd.lookup d = some r → ∃ j o, j < m ∧ l[j]? = some o ∧ o.dst = some d := by
    intro d r hl
    have : d ∈ rd.map (·.1) := List.mem_map.2 ⟨_, lookup_memP hl, rfl⟩
    rw [f1, List.mem_reverse, List.mem_filterMap] at this
    obtain ⟨o, ho, hdo⟩ := this
    obtain ⟨j, hj⟩ := List.mem_iff_getElem?.1 ho
    rw [List.getElem?_take] at hj
    split at hj
    · exact ⟨j, o, by assumption, hj, hdo⟩
    · cases hj
  intro a w hr
  refine wp_region_any hm ?_
  have hstart : DInv E l m sl rt us rd (Array.replicate l.length false) a { w with drawn := w.drawn + 1 } := by
    refine ⟨sl, ?_, ?_, fun t c _ h _ => h⟩
    · obtain ⟨χ, hd', h0⟩ := hr
      exact ⟨χ, hd', h0.world rfl rfl Tp.drew rfl⟩
    · intro j o d r hj ho hl
      rw [Array.getD_eq_getD_getElem?, Array.getElem?_replicate] at hl
      split at hl <;> cases hl
  have hcnt : (List.range m).countP (fun j => !(Array.replicate l.length false).getD j false) = m := by
    rw [List.countP_eq_length.2]
    · simp
    · intro j hj
      rw [Array.getD_eq_getD_getElem?, Array.getElem?_replicate]
      split <;> rfl
  have hfin : ∀ a w, DInv E l m sl rt us rd (lst0 l.length m) a w → wpList E.P l.toArray (fun e a' w' => ∃ s', Q e s' ∧ Rel E s' a' w') (l.drop m) a w := by
    rintro a w ⟨sl2, ⟨χ, hd', hr⟩, hA, hB⟩
    refine h a w _ ⟨χ, hd', hr.weak (s2 := ⟨rd ++ sl, rt, us⟩) (fun t => ?_) (fun _ => rfl) rfl⟩ (fun s' a' w' hs' hr' => ⟨s', hs', hr'⟩)
    simp only [St.get]
    cases hl : (rd ++ sl).lookup t with
    | none => right; rfl
    | some c =>
      cases hn : c.nd with
      | false => right; cases c <;> first | rfl | cases hn
      | true =>
        left
        rcases lookup_append_some _ _ _ _ hl with h | ⟨h1, h⟩
        · obtain ⟨j, o, hj, ho, hdo⟩ := hrd _ _ h
          rw [hA j o t c hj ho (by
            rw [Array.getD_eq_getD_getElem?]
            simp only [lst0, List.getElem?_toArray]
            rw [List.getElem?_append_left (by simpa using hj)]
            simp [hj]) hdo h hn]
        · rw [hB t c h1 h hn]
  have := head_any (Q := fun e a' w' => ∃ s', Q e s' ∧ Rel E s' a' w') hone hdist hrd hedge htail hml hseq hfin m (Array.replicate l.length false) a _ (by simp) (fun j _ => by
    rw [Array.getD_eq_getD_getElem?, Array.getElem?_replicate]
    split <;> rfl) hcnt hstart
  rw [show l.length - m + m = l.length by omega] at this
  simpa using this

def DWt (E : Env) (ops : Array Oper) (sl : List (Nat × AV)) (rt : List (Nat × Option Root)) (us : List Nat) (rest : List Oper) (done rd : List (Nat × AV)) : Prop := ∀ hd, DWs E ops sl rt us hd done → DWs E ops sl rt us (hd ++ rest) rd
theorem dw_nil {E : Env} {ops : Array Oper} {sl : List (Nat × AV)} {rt : List (Nat × Option Root)} {us : List Nat} {done : List (Nat × AV)} : DWt E ops sl rt us [] done done := fun hd h => by rw [List.append_nil]; exact h
theorem dw_cons {E : Env} {ops : Array Oper} {sl : List (Nat × AV)} {rt : List (Nat × Option Root)} {us : List Nat} {o : Oper} {rest : List Oper} {done rd : List (Nat × AV)} {d : Nat} {r : AV} (hd : o.dst = some d) (hv : VTo E ops o (pickF ops.toList done o ++ (maskF ops.toList ++ sl)) rt us d r) (h : DWt E ops sl rt us rest ((d, r) :: done) rd) : DWt E ops sl rt us (o :: rest) done rd := fun hd' h' => by
  have := h _ (DWs.snoc h' hd hv)
  rwa [List.append_assoc] at this
theorem twp_drawN {E : Env} {id : Nat} {ops : Array Oper} {sl : List (Nat × AV)} {rt : List (Nat × Option Root)} {us : List Nat} {rd : List (Nat × AV)} {Q : Exit → St → Prop} (k : Nat) (hm : E.P.follows .mixedOrders = true)
    (hh : headB ops.toList (ops.toList.length - k) = true) (ht : tailB ops.toList (ops.toList.length - k) = true) (hseq : Region.seqB .any ops (ops.toList.length - (ops.toList.length - k)) (ops.toList.length - k) (lst0 ops.toList.length (ops.toList.length - k)) = true)
    (hd : DWt E ops sl rt us (ops.toList.take (ops.toList.length - k)) [] rd) (h : RW E ops (ops.toList.drop (ops.toList.length - k)) ⟨rd ++ sl, rt, us⟩ (Q .normal)) : TWp E (.region id ops true) Q ⟨sl, rt, us⟩ :=
  twp_draw _ hm hh ht hseq (by simpa using hd [] DWs.nil) h
theorem outL_q {s : St} {x : Operand} {l : List AV} {d r : AV} {ds : List AV} (h0 : opnd s x = r) (h1 : out s r = some d) (h2 : outL s l = some ds) : outL s (opnd s x :: l) = some (d :: ds) := by
  rw [h0]; simp [outL, h1, h2]

/- ------------------------------------------------ the end -/
theorem fin_lit {Θ : Tys} {rs : List ResultVar} {s : St} {v v' : Value} (h : resVs Θ s rs = some [.lit v]) (hv : v = v') : (Exit.ret = .normal ∨ Exit.ret = .ret) ∧ Res Θ rs (.lit v') s := by
  subst hv; exact ⟨.inr rfl, _, h, rfl, List.nodup_nil⟩
theorem finI {Θ : Tys} {rs : List ResultVar} {s : St} {k : IntKind} {x y : Int} (h : resVs Θ s rs = some [.lit (.int k x)]) (hv : x = y) : (Exit.ret = .normal ∨ Exit.ret = .ret) ∧ Res Θ rs (.lit (.int k y)) s := fin_lit h (by rw [hv])
theorem finB {Θ : Tys} {rs : List ResultVar} {s : St} {x y : Bool} (h : resVs Θ s rs = some [.lit (.bool x)]) (hv : x = y) : (Exit.ret = .normal ∨ Exit.ret = .ret) ∧ Res Θ rs (.lit (.bool y)) s := fin_lit h (by rw [hv])
/-- a row that is the call's own -/
theorem finO {Θ : Tys} {rs : List ResultVar} {s : St} {i len : Nat} {R : Root} {res : AV} (h : resVs Θ s rs = some [.sl i 0 len]) (hR : s.root i = some R) (ht : treeLL (R.xs.take len) = true) (hr : AV.own R.T R.sz (R.xs.take len) = res) : (Exit.ret = .normal ∨ Exit.ret = .ret) ∧ Res Θ rs res s := by
  subst hr; exact ⟨.inr rfl, _, h, by simp [one, pk, hR, ht], by simp [one, pkI]⟩
theorem finOL {Θ : Tys} {rs : List ResultVar} {s : St} {i len : Nat} {R : Root} {v : Value} {res : AV} (h : resVs Θ s rs = some [.sl i 0 len, .lit v]) (hR : s.root i = some R) (ht : treeLL (R.xs.take len) = true) (hr : AV.tup [.own R.T R.sz (R.xs.take len), .lit v] = res) : (Exit.ret = .normal ∨ Exit.ret = .ret) ∧ Res Θ rs res s := by
  subst hr; exact ⟨.inr rfl, _, h, by simp [one, pk, pkL, hR, ht], by simp [one, pkI, pkIL]⟩
end Go.T
