/- Lemmas for FnExactAddPairs; no condition. -/

import Derived.Test.YtihgcgccajikpaaTI
set_option linter.unusedVariables false
namespace Go.T
open Go Go.RowKit

theorem Rel0.congr {E : Env} {s s2 : St} {a : Act} {w : World} {χ : Nat → Option Nat} {hd : Nat → Value} (h : Rel0 E s a w χ hd) (hg : ∀ t, s2.get t = s.get t) (hr : ∀ i, s2.root i = s.root i) (hu : s2.us = s.us) : Rel0 E s2 a w χ hd := by
  have ht : tab s2 hd = tab s hd := by funext i; simp [tab, hr]
  refine ⟨h.defers, h.size, h.os, h.tape, h.output, h.hsz, h.frame, by rw [hu]; exact h.fx, by rw [hu]; exact h.jj, by rw [hr]; exact h.rj, h.jk, h.col, ?_, ?_⟩
  · intro i R hR
    rw [hr] at hR
    rw [hu, ht]
    exact h.rts i R hR
  · intro t
    rw [hu, ht, hg]
    exact h.slots t

/- ------------------------------------------------ append -/
theorem ownsRow_prefix {w : World} {e sz m cap len : Nat} {A : Option Addr} {vs : List Value} (h : w.ownsRow 0 e sz (.slice A m cap) m vs) (hl : len ≤ m) : w.ownsRow 0 e sz (.slice A len cap) len (vs.take (len * sz)) := by
  refine ⟨?_, ?_⟩
  · rw [List.length_take, h.1]; exact Nat.min_eq_left (Nat.mul_le_mul_right _ hl)
  · rcases h.2 with ⟨hv, hm⟩ | ⟨g, cap', cur, hv, hb, hg, hnc, hcm, hcs, ht⟩
    · cases hv
      exact .inl ⟨by have : len = 0 := by omega
                     subst this; rfl, by omega⟩
    · cases hv
      refine .inr ⟨g, cap, cur, rfl, hb, hg, by omega, hcm, hcs, ?_⟩
      rw [← ht, List.take_take, Nat.min_eq_left (Nat.mul_le_mul_right _ hl)]

theorem run_append_none {P : Program} {w : World} {base t ty e size : Nat} {i : TypeInfo} (ht : P.underlying t = some (.slice e)) (hi : P.info? e = some i) {v : Value} {n c : Nat} {xs : List Value} (hown : w.ownsRow base e size v n xs) :
    (Builtin.append_ #[t, t] ty #[v, .slice none 0 c]).run P w = .ok v w := by
  rcases hown.2 with ⟨rfl, rfl⟩ | ⟨g, cap, cur, rfl, _, _, hnc, _⟩
  · simp [Builtin.append_, run_underlying ht, sizeOf, typeInfo, hi, Builtin.lenOf, Builtin.firstCells]
  · simp [Builtin.append_, run_underlying ht, sizeOf, typeInfo, hi, Builtin.lenOf, Builtin.firstCells, hnc, storeCells]

theorem repRLL_plain {w : World} {S U : Nat → Prop} {ρ : Tab} {sz : Nat} : ∀ (xs : List (List AV)) (vs : List Value) (f : List Nat), repRLL w S U ρ sz xs vs f → (∀ x ∈ xs, x.all AV.plain = true) → f = []
  | [], vs, f, h, _ => by simp only [repRLL] at h; exact h.2
  | x :: xs, vs, f, h, hp => by
    simp only [repRLL] at h
    obtain ⟨u1, u2, f1, f2, rfl, rfl, hl, _, h1, h2⟩ := h
    rw [plainL_fp _ _ _ h1 (hp x (by simp)), repRLL_plain xs u2 f2 h2 (fun y hy => hp y (by simp [hy]))]
    rfl

/-- the elements that are appended -/
def srcRows (s : St) (sz : Nat) : AV → Option (List (List AV))
  | .sl id off len => match s.root id with
    | some R => if R.sz = sz then some ((R.xs.drop off).take len) else none
    | none => none
  | .ro sz' xs => if sz' = sz then some xs else none
  | _ => none

theorem src_sound {E : Env} {s : St} {a : Act} {w : World} {χ : Nat → Option Nat} {hd : Nat → Value} (h : Rel0 E s a w χ hd) {y : AV} {u : Value} (hy : repR w (free χ w) (· ∈ s.us) (tab s hd) y u []) {sz : Nat} {ys : List (List AV)} (he : srcRows s sz y = some ys) (hp : ∀ x ∈ ys, x.all AV.plain = true) :
    ∃ A c news, u = .slice A ys.length c ∧ repRLL w (free χ w) (· ∈ s.us) (tab s hd) sz ys news [] ∧ (ys = [] ∧ A = none ∨ ∃ ad, A = some ad ∧ ∀ j v, news[j]? = some v → w.cell? (ad.add j) = some v) := by
  unfold srcRows at he
  split at he
  · rename_i id off len
    split at he
    case h_2 => cases he
    rename_i R hR
    split at he
    case isFalse => cases he
    rename_i hsz
    subst hsz
    cases he
    simp only [repR] at hy
    obtain ⟨_, _, hy⟩ := hy
    obtain ⟨hle, ⟨A, cap, rfl, hcap, h0, hA⟩, _⟩ := hy (hd id) R.xs.length R.sz (by simp [tab, hR])
    obtain ⟨_, fp, ⟨hz, vs, fp', hown, hrep, rfl⟩, _, _⟩ := h.rts id R hR
    have e1 : R.xs = R.xs.take off ++ ((R.xs.drop off).take len ++ (R.xs.drop off).drop len) := by rw [List.take_append_drop, List.take_append_drop]
    have hrep' := hrep
    rw [e1] at hrep'
    obtain ⟨v1, v2, f1, f2, rfl, _, hl1, k1, k2⟩ := repRLL_split _ _ _ _ hrep'
    obtain ⟨v3, v4, f3, f4, rfl, _, hl3, k3, k4⟩ := repRLL_split _ _ _ _ k2
    have := repRLL_plain _ _ _ k3 hp
    subst this
    have hlen : ((R.xs.drop off).take len).length = len := by rw [List.length_take, List.length_drop]; omega
    refine ⟨A, cap, v3, by rw [hlen], k3, ?_⟩
    by_cases hl0 : len = 0
    · subst hl0
      rw [List.take_zero] at k3
      simp only [repRLL] at k3
      obtain ⟨rfl, _⟩ := k3
      cases A with
      | none => left; simp
      | some ad => right; exact ⟨ad, rfl, fun j v hj => by simp at hj⟩
    · obtain ⟨b, m, c, hh, rfl⟩ := hA (by omega)
      right
      refine ⟨_, rfl, ?_⟩
      intro j v hj
      have hat := ownsRow_at hown (b := b) (by rw [hh]; rfl)
      have hjl : j < v3.length := (List.getElem?_eq_some_iff.1 hj).1
      rw [List.length_take, Nat.min_eq_left (by omega)] at hl1
      have := hat (off * R.sz + j) v (by rw [List.getElem?_append_right (by omega), show off * R.sz + j - v1.length = j by omega, List.getElem?_append_left hjl]; exact hj)
      rw [add_at]
      simpa using this
  · rename_i sz' xs
    split at he
    case isFalse => cases he
    rename_i hsz
    subst hsz
    cases he
    simp only [repR, rep] at hy
    obtain ⟨_, A, cap, rfl, hcap, hx⟩ := hy
    rcases hx with rfl | ⟨b, o, vs, rfl, hS, hat, hr⟩
    · refine ⟨A, cap, [], rfl, by simp [repRLL], ?_⟩
      cases A with
      | none => left; simp
      | some ad => right; exact ⟨ad, rfl, fun j v hj => by simp at hj⟩
    · exact ⟨_, cap, vs, rfl, repRLL_of _ _ _ hr, .inr ⟨_, rfl, fun j v hj => by rw [add_at]; exact hat j v hj⟩⟩
  · cases he

/-- onto what is appended: its rows, and the root that is given up -/
def dstRows (s : St) (el sz : Nat) : AV → Option (List (List AV) × Option Nat)
  | .sl id 0 len => match s.root id with
    | some R => if R.T = el then (if R.sz = sz then some (R.xs.take len, some id) else none) else none
    | none => none
  | .lit (.slice none 0 0) => some ([], none)
  | _ => none
def St.killO (s : St) : Option Nat → St
  | some i => s.kill i
  | none => s

theorem opTo_app {E : Env} {Θ : Tys} (hΘ : TOK E.P Θ) {o : Oper} {s : St} (id : Nat) (hid : id ∉ s.us) (hd : okD E.n o.dst = true) {x y : Operand} {t : Nat} (ho : o.op = .call ⟨.builtin .append, #[x, y], #[t, t]⟩)
    {sz by_ el : Nat} {ze : List Value} (hti : Θ.lookup t = some ⟨sz, by_, .slice el, ze⟩) {te : TI} (hte : Θ.lookup el = some te) (hz : zOK te = true) {xs ys : List (List AV)} {k : Option Nat} (hx : dstRows s el te.sz (opnd s x) = some (xs, k)) (hy : srcRows s te.sz (opnd s y) = some ys)
    (hp : ∀ r ∈ ys, r.all AV.plain = true) (hb : (xs.length + ys.length) * te.bytes ≤ 140737488355328) (hm : xs.length + ys.length ≤ 140737488355328) :
    OpTo E o s (((s.killO k).add id ⟨el, te.sz, xs ++ ys⟩).putO o.dst (.sl id 0 (xs.length + ys.length))) := by
  rintro a w ⟨χ, hd', h⟩ K Q hk
  obtain ⟨dst, op, type, pos, after, guard⟩ := o
  simp only at ho hd hk
  subst ho
  obtain ⟨z0, z1, z2⟩ := zOK_iff hz
  obtain ⟨i, z, hi, his, hib, hiz, hzc⟩ := tiOf_info (hΘ.get hte)
  have hun := tiOf_und (hΘ.get hti)
  have hsz : z.cells.size = te.sz := by rw [← Array.length_toList, hzc, z1]
  obtain ⟨A, c, news, hyv, hyr, hya⟩ := src_sound h (opnd_rep h y) hy hp
  have hnl := repRLL_length _ _ _ hyr
  have hn1 := repRLL_oneCell _ _ _ hyr
  -- what the first operand is
  have hdst : ∃ v vs fn, a.eval x = v ∧ w.ownsRow 0 el te.sz v xs.length vs ∧ repRLL w (free χ w) (· ∈ s.us) (tab s hd') te.sz xs vs fn ∧ (∀ b ∈ fn, ∃ j, k = some j ∧ χ b = some j) ∧ fn.Nodup ∧ (∀ b ∈ fn, v.ownBlock ≠ some b) ∧ (∀ b, v.ownBlock = some b → ∃ j, k = some j ∧ χ b = some j) := by
    unfold dstRows at hx
    split at hx
    · rename_i ri len hox
      split at hx
      case h_2 => cases hx
      rename_i R hR
      split at hx
      case isFalse => cases hx
      rename_i hT
      split at hx
      case isFalse => cases hx
      rename_i hS
      cases hx
      subst hT
      have hxr := opnd_rep h x
      rw [hox] at hxr
      simp only [repR] at hxr
      obtain ⟨_, _, hxr⟩ := hxr
      obtain ⟨hle, ⟨A0, cap, hxv, hcap, h0, _⟩, _⟩ := hxr (hd' ri) R.xs.length R.sz (by simp [tab, hR])
      obtain ⟨_, fp, ⟨hz, vs, fp', hown, hrep, rfl⟩, hnd, hcol⟩ := h.rts ri R hR
      obtain ⟨m, hm0⟩ := h0 rfl
      have hmx : m = R.xs.length := by
        obtain ⟨A1, cap1, he1, _⟩ := ownsRow_hd hown
        rw [hm0] at he1; cases he1; rfl
      subst hmx
      have hrep' := hrep
      rw [← List.take_append_drop len R.xs] at hrep'
      obtain ⟨v1, v2, f1, f2, rfl, rfl, hl1, k1, k2⟩ := repRLL_split _ _ _ _ hrep'
      have hlx : (R.xs.take len).length = len := by rw [List.length_take]; omega
      rw [hlx] at hl1
      have hp := ownsRow_prefix (w := w) (len := len) (by rw [hm0] at hown; exact hown) (by omega)
      have ev : (v1 ++ v2).take (len * R.sz) = v1 := by rw [← hl1]; exact List.take_left
      rw [ev] at hp
      have hob : (Value.slice A0 len cap).ownBlock = (hd' ri).ownBlock := by rw [hm0]; cases A0 <;> rfl
      refine ⟨_, v1, f1, hxv, by rw [hlx, ← hS]; exact hp, by rw [← hS]; exact k1, ?_, ?_, ?_, ?_⟩
      · intro b hb
        exact ⟨ri, rfl, hcol b (by simp [hb])⟩
      · have : ((hd' ri).ownBlock.toList ++ (f1 ++ f2)).Nodup := hnd
        rw [List.nodup_append] at this
        have h2 := this.2.1
        rw [List.nodup_append] at h2
        exact h2.1
      · intro b hb he
        rw [hob] at he
        rw [List.nodup_append] at hnd
        exact hnd.2.2 b (by simp [he]) b (by simp [hb]) rfl
      · intro b he
        rw [hob] at he
        exact ⟨ri, rfl, hcol b (by simp [he])⟩
    · rename_i hox
      cases hx
      have := lit_inv (hox ▸ opnd_rep h x)
      exact ⟨_, [], [], this, World.ownsRow_nil w 0 el te.sz, by simp [repRLL], by simp, by simp, by simp, by simp [Value.ownBlock]⟩
    · cases hx
  obtain ⟨v, vs, fn, hxv, hown, hrep, hf1, hf2, hf3, hf4⟩ := hdst
  have hrun : ∃ v' w', (Builtin.append_ #[t, t] type #[v, .slice A ys.length c]).run E.P w = .ok v' w' ∧ w'.ownsRow 0 el te.sz v' (xs.length + ys.length) (vs ++ news) ∧ w.grownBy w' v.ownBlock ∧ (v'.ownBlock = v.ownBlock ∨ v'.ownBlock = some w.heap.size) := by
    rcases hya with ⟨rfl, rfl⟩ | ⟨ad, rfl, hcells⟩
    · have : news = [] := List.eq_nil_of_length_eq_zero (by simpa using hnl)
      subst this
      exact ⟨v, w, run_append_none hun hi hown, by simpa using hown, ⟨rfl, rfl, rfl, Nat.le_refl _, fun _ _ _ => rfl⟩, .inl rfl⟩
    · obtain ⟨v', w', h1, h2, h3, _, h5⟩ := run_append_own_at (P := E.P) w 0 t type el i z te.sz te.bytes hun hi hiz his hib hsz z0 v xs.length vs hown ad ys.length c news hnl hcells hn1 (by simp [maxLen]; omega) hb (Nat.zero_le _)
      exact ⟨v', w', h1, h2, h3, h5⟩
  obtain ⟨v', w', hr, hown', hg, hv'⟩ := hrun
  -- the root that goes
  have hkk : ∃ ki : Nat, (∀ b, v.ownBlock = some b → χ b = some ki) ∧ (∀ b ∈ fn, χ b = some ki) ∧ (k = some ki ∨ k = none ∧ ki = id) := by
    cases k with
    | none => exact ⟨id, fun b hb => (by obtain ⟨_, h, _⟩ := hf4 b hb; cases h), fun b hb => (by obtain ⟨_, h, _⟩ := hf1 b hb; cases h), .inr ⟨rfl, rfl⟩⟩
    | some j => exact ⟨j, fun b hb => (by obtain ⟨_, h, h2⟩ := hf4 b hb; cases h; exact h2), fun b hb => (by obtain ⟨_, h, h2⟩ := hf1 b hb; cases h; exact h2), .inl rfl⟩
  obtain ⟨ki, hk1, hk2, hk3⟩ := hkk
  have hrow : repRLL w (free χ w) (· ∈ s.us) (tab s hd') te.sz (xs ++ ys) (vs ++ news) fn := by
    have := repRLL_append _ _ _ _ _ _ hrep hyr
    rwa [List.append_nil] at this
  have hkJ : ki ≠ JJ := by
    rcases hk3 with rfl | ⟨_, rfl⟩
    · intro e
      subst e
      unfold dstRows at hx
      split at hx
      · split at hx
        · rename_i hR
          split at hx
          · split at hx
            · cases hx; rw [h.rj] at hR; cases hR
            · cases hx
          · cases hx
        · cases hx
      · cases hx
      · cases hx
    · exact fun e => hid (e ▸ h.jj)
  obtain ⟨χ', hrel⟩ := h.newRow (i := ki) hid hg (run_drawn _ hr) (fun b hb => hk1 b hb) hkJ (R := ⟨el, te.sz, xs ++ ys⟩) z0 (by rw [List.length_append]; exact hown') hrow hk2 hf2 (fun b hb => hf3 b hb) hv'
  have hrel2 : Rel0 E ((s.killO k).add id ⟨el, te.sz, xs ++ ys⟩) a w' χ' (fun k => if k = id then v' else hd' k) := by
    rcases hk3 with rfl | ⟨rfl, rfl⟩
    · exact hrel
    · refine hrel.congr (fun _ => rfl) ?_ rfl
      intro j
      by_cases hj : j = ki
      · subst hj; simp [St.killO, St.root_add_same]
      · simp [St.killO, St.root_add_ne _ hj, St.root_kill_ne s hj]
  refine upon_val (v := v') (w' := w') ?_ (hk _ _ ⟨χ', _, hrel2.putO hd ?_⟩)
  · simp only [execOp, resolve, invoke, builtin, Sem.run_bind, Sem.run_pure, Result.andThen_ok, List.map_toArray, List.map_cons, List.map_nil, hxv, hyv, hr]
  · simp only [repR]
    refine ⟨trivial, List.mem_cons_self, ?_⟩
    intro h' n' sz' hh
    simp [tab, St.root_add_same] at hh
    obtain ⟨rfl, rfl, rfl⟩ := hh
    exact ⟨by simp, subHd_self hown', ownsRow_cap hown'⟩

/- ------------------------------------------------ store -/
def wr (x : List AV) (o : Nat) (cs : List AV) : List AV := x.take o ++ cs ++ x.drop (o + cs.length)
theorem wr_set {x : List AV} {o : Nat} {cs : List AV} {k : Nat} {c : AV} (hk : cs[k]? = some c) (hl : o + cs.length ≤ x.length) : (wr x o (cs.take k)).set (o + k) c = wr x o (cs.take (k + 1)) := by
  have hkl : k < cs.length := (List.getElem?_eq_some_iff.1 hk).1
  have hkv := (List.getElem?_eq_some_iff.1 hk).2
  unfold wr
  have e1 : (x.take o ++ cs.take k).length = o + k := by simp; omega
  rw [List.set_append_right _ _ (by omega), e1, Nat.sub_self]
  have h2 : x.drop (o + (cs.take k).length) = x[o + k]'(by omega) :: x.drop (o + (cs.take (k + 1)).length) := by
    rw [List.length_take, List.length_take, Nat.min_eq_left (by omega), Nat.min_eq_left (by omega), ← Nat.add_assoc, List.getElem_cons_drop]
  rw [h2, List.set_cons_zero, List.take_succ_eq_append_getElem hkl, hkv]
  simp

theorem store_cells {E : Env} {s : St} {a : Act} {x : List AV} {i e o : Nat} {R : Root} {y : Operand} (hR : s.root i = some R) (he : R.xs[e]? = some x) (hl : o + (cellsOf (opnd s y)).length ≤ x.length) (hok : (cellsOf (opnd s y)).all (okCell s) = true) :
    ∀ (n k : Nat), k + n = (cellsOf (opnd s y)).length → ∀ (w : World) (χ : Nat → Option Nat) (hd : Nat → Value) (b m c : Nat), hd i = .slice (some ⟨b, 0, none⟩) m c →
      Rel0 E (s.setR i ⟨R.T, R.sz, R.xs.set e (wr x o ((cellsOf (opnd s y)).take k))⟩) a w χ hd →
      ∃ w' χ', (storeCells ⟨b, e * R.sz + o, none⟩ ((a.eval y).cells.toList.drop k) k).run E.P w = .ok () w' ∧ Rel0 E (s.setR i ⟨R.T, R.sz, R.xs.set e (wr x o (cellsOf (opnd s y)))⟩) a w' χ' hd := by
  have helt : e < R.xs.length := (List.getElem?_eq_some_iff.1 he).1
  have hso : ∀ (x' : List AV) , ∀ j, ((s.setR i ⟨R.T, R.sz, R.xs.set e x'⟩).root j).isSome = (s.root j).isSome := by
    intro x' j
    by_cases hj : j = i
    · subst hj; simp [St.root_setR_same, hR]
    · simp [St.root_setR_ne s hj]
  have hokk : ∀ x' : List AV, (cellsOf (opnd s y)).all (okCell (s.setR i ⟨R.T, R.sz, R.xs.set e x'⟩)) = true := by
    intro x'
    rw [← hok]
    congr 1
    funext c
    cases c <;> simp [okCell, hso]
  intro n
  induction n with
  | zero =>
    intro k hk w χ hd b m c hh h
    have hv := cellsOf_rep (opnd_rep h y) (hokk _)
    have hlv := repRL_length _ _ _ hv
    have e1 : (cellsOf (opnd s y)).take k = cellsOf (opnd s y) := List.take_of_length_le (by omega)
    rw [e1] at h
    refine ⟨w, χ, ?_, h⟩
    rw [List.drop_of_length_le (by rw [hlv]; show (cellsOf (opnd s y)).length ≤ k; omega)]
    rfl
  | succ n ih =>
    intro k hk w χ hd b m c hh h
    have hv : repRL w _ _ _ (cellsOf (opnd s y)) (a.eval y).cells.toList [] := cellsOf_rep (opnd_rep h y) (hokk _)
    have hlv := repRL_length _ _ _ hv
    have hklt : k < (cellsOf (opnd s y)).length := by omega
    obtain ⟨u, hu, hur⟩ := repRL_get _ _ k _ hv (List.getElem?_eq_getElem hklt)
    have hu1 : u.oneCell' = true := okCell_one hur (List.all_eq_true.1 (hokk _) _ (List.getElem_mem _))
    have hwl : (wr x o ((cellsOf (opnd s y)).take k)).length = x.length := by simp [wr]; omega
    obtain ⟨b', m', c', hh', ⟨v0, hcell⟩, hfro, χ', hrel⟩ := h.store (i := i) (e := e) (o := o + k) (x := wr x o ((cellsOf (opnd s y)).take k)) (R := ⟨R.T, R.sz, R.xs.set e (wr x o ((cellsOf (opnd s y)).take k))⟩) (St.root_setR_same _ _ _) (by simp [helt]) (by omega) hur hu1
    rw [hh] at hh'
    cases hh'
    have hdrop : (a.eval y).cells.toList.drop k = u :: (a.eval y).cells.toList.drop (k + 1) := by
      have hkl : k < (a.eval y).cells.toList.length := by omega
      rw [← List.getElem_cons_drop hkl]
      rw [List.getElem?_eq_getElem hkl] at hu
      cases hu; rfl
    have hst : (store ((⟨b, e * R.sz + o, none⟩ : Addr).add k) u).run E.P w = .ok () (w.setCell ⟨b, e * R.sz + (o + k), none⟩ u) := by
      rw [add_at, Nat.add_assoc, run_store _ _ _ _ _ hu1]
      simp only [] at hcell hfro
      rw [hcell]
      simp [hfro]
    have hrel2 : Rel0 E (s.setR i ⟨R.T, R.sz, R.xs.set e (wr x o ((cellsOf (opnd s y)).take (k + 1)))⟩) a (w.setCell ⟨b, e * R.sz + (o + k), none⟩ u) χ' hd := by
      refine hrel.congr (fun _ => rfl) ?_ rfl
      intro j
      by_cases hj : j = i
      · subst hj
        rw [St.root_setR_same, St.root_setR_same, List.set_set, wr_set (List.getElem?_eq_getElem hklt) hl]
      · rw [St.root_setR_ne _ hj, St.root_setR_ne _ hj, St.root_setR_ne _ hj]
    obtain ⟨w', χ2, hrun, hfin⟩ := ih (k + 1) (by omega) _ χ' hd b m c hh hrel2
    refine ⟨w', χ2, ?_, hfin⟩
    rw [hdrop]
    simp only [storeCells, Sem.run_bind, hst, Result.andThen_ok, hrun]

theorem opTo_store {E : Env} {Θ : Tys} (hΘ : TOK E.P Θ) {o : Oper} {s : St} {t : Nat} {p y : Operand} (ho : o.op = .store t p y) (hdst : o.dst = none) {ti : TI} (hti : Θ.lookup t = some ti) {i e oo : Nat} (hpt : opnd s p = .ptr i e oo) {R : Root} (hR : s.root i = some R) {x : List AV} (he : R.xs[e]? = some x)
    (hn : (cellsOf (opnd s y)).length = ti.sz) (hl : oo + (cellsOf (opnd s y)).length ≤ x.length) (hok : (cellsOf (opnd s y)).all (okCell s) = true) :
    OpTo E o s (s.setR i ⟨R.T, R.sz, R.xs.set e (wr x oo (cellsOf (opnd s y)))⟩) := by
  rintro a w ⟨χ, hd, h⟩ K Q hk
  obtain ⟨dst, op, type, pos, after, guard⟩ := o
  simp only at ho hdst
  subst ho; subst hdst
  have hpr := opnd_rep h p
  rw [hpt] at hpr
  simp only [repR] at hpr
  obtain ⟨_, _, hpr⟩ := hpr
  obtain ⟨hlt, b, m, c, hh, hpv⟩ := hpr (hd i) R.xs.length R.sz (by simp [tab, hR])
  have h0 : Rel0 E (s.setR i ⟨R.T, R.sz, R.xs.set e (wr x oo ((cellsOf (opnd s y)).take 0))⟩) a w χ hd := by
    refine h.congr (fun _ => rfl) ?_ rfl
    intro j
    by_cases hj : j = i
    · subst hj
      rw [St.root_setR_same, hR]
      congr 1
      have : wr x oo ((cellsOf (opnd s y)).take 0) = x := by simp [wr]
      obtain ⟨hlt', heq⟩ := List.getElem?_eq_some_iff.1 he
      rw [this, ← heq, List.set_getElem_self]
    · rw [St.root_setR_ne _ hj]
  obtain ⟨w', χ', hrun, hrel⟩ := store_cells hR he hl hok (cellsOf (opnd s y)).length 0 (by omega) w χ hd b m c hh h0
  have hv := cellsOf_rep (opnd_rep h y) hok
  have hlv := repRL_length _ _ _ hv
  have hcs : (a.eval y).cells.size = ti.sz := by rw [← Array.length_toList, hlv, hn]
  unfold Oper.wp
  have : (execOp a.eval ⟨none, .store t p y, type, pos, after, guard⟩).run E.P w = .ok .skip w' := by
    simp only [execOp, Instr.storeAt, hpv, Instr.sureAddr, Sem.run_bind, Sem.run_pure, Result.andThen_ok, storeVar, run_sizeOf (hΘ.get hti)]
    rw [if_neg (by simp [hcs])]
    rw [List.drop_zero] at hrun
    rw [hrun]
    rfl
  rw [this]
  exact hk _ _ ⟨χ', hd, hrel⟩
end Go.T
