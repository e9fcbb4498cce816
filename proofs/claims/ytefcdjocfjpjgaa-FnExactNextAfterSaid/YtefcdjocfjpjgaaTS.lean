/- TS: part of the layer and the walks that the claims of this seat stand on; no condition of its own. -/
import Derived.Test.YtefcdjocfjpjgaaTR
set_option linter.unusedVariables false
namespace Go.T
open Go Go.RowKit Go.Proofs

/- ------------------------------------------------ calls that write a row they are handed -/
abbrev NS : Nat → Prop := fun _ => False
def Row (w : World) (T sz : Nat) (h : Value) (xs : List (List AV)) (fp : List Nat) : Prop := ∃ vs fp', w.ownsRow 0 T sz h xs.length vs ∧ repLL w NS sz xs vs fp' ∧ fp = h.ownBlock.toList ++ fp'
def MeetsM (P : Program) (f : FuncId) (T sz : Nat) (xs : List (List AV)) (args : List AV) (xs' : List (List AV)) (res : AV) : Prop :=
  Enters P f ∧ ∀ (w : World) (h : Value) (fp : List Nat) (vals : List Value), 0 < sz → Row w T sz h xs fp → fp.Nodup → repL w NS args vals [] →
    Calls P f (h :: vals).toArray w (fun e w' => ∃ v fp2, e = .returned v ∧ w'.os = w.os ∧ w'.tape = w.tape ∧ w'.output = w.output ∧ w.heap.size ≤ w'.heap.size ∧ (∀ k, k < w.heap.size → k ∉ fp → w'.heap[k]? = w.heap[k]?) ∧
      Row w' T sz h xs' fp2 ∧ fp2.Nodup ∧ (∀ b ∈ fp2, b ∈ fp ∨ w.heap.size ≤ b) ∧ rep w' NS res v [])

theorem ownsRow_head {w : World} {T sz n : Nat} {h : Value} {vs : List Value} {A : Option Addr} {m cap : Nat} (ho : w.ownsRow 0 T sz h n vs) (hh : h = .slice A m cap) : m = n := by
  rcases ho.2 with ⟨h1, h2⟩ | ⟨g, c, cur, h1, _⟩
  · rw [hh] at h1; cases h1; exact h2.symm
  · rw [hh] at h1; cases h1; rfl

theorem opTo_callM {E : Env} {o : Oper} {s : St} {f : FuncId} {args : Array Operand} {tys : Array TypeId} {x : Operand} {ys : List Operand} {i len T sz : Nat} {xs xs' : List (List AV)} {outs : List AV} (ho : o.op = .call ⟨.value (.func f), args, tys⟩) (ha : args.toList = x :: ys) (hx : opnd s x = .sl i 0 len) (hR : s.root i = some ⟨T, sz, xs⟩) (hlen : len = xs.length) (ht : treeLL xs = true) (hnr : noRoLL xs = true)
    (hd : okD E.n o.dst = true) (hout : outL s (ys.map (opnd s)) = some outs) (hno : noRoL outs = true) {res : AV} (hm : MeetsM E.P f T sz xs outs xs' res) (hlx : xs'.length = xs.length) :
    OpTo E o s ((s.setR i ⟨T, sz, xs'⟩).putO o.dst res) := by
  rintro a w ⟨χ, hd', h⟩ K Q hk
  obtain ⟨dst, op, type, pos, after, guard⟩ := o
  simp only at ho hd hk
  subst ho
  subst hlen
  obtain ⟨hent, hm⟩ := hm
  obtain ⟨hus, fp, ⟨hz, vs, fp', hown, hrep, rfl⟩, hnd, hcol⟩ := h.rts i _ hR
  have hiJ : i ≠ JJ := fun e => by rw [e, h.rj] at hR; cases hR
  have hxr := opnd_rep h x
  rw [hx] at hxr
  simp only [repR] at hxr
  obtain ⟨_, A, cap, hxv, _, h0, _⟩ := hxr.2.2 (hd' i) xs.length sz (by simp [tab, hR])
  obtain ⟨m, hh⟩ := h0 rfl
  have hmn := ownsRow_head hown hh
  subst hmn
  have hxe : a.eval x = hd' i := by rw [hxv, hh]
  have hargs := outL_sound h _ _ _ _ (opndL_rep h ys) rfl hout
  have hc := hm w (hd' i) _ (ys.map a.eval) hz ⟨vs, fp', hown, repLL_noRo _ _ _ _ (repLL_of_tree _ _ _ hrep ht) hnr, rfl⟩ hnd (repL_noRo _ _ _ hargs hno)
  have hrun : (execOp a.eval ⟨dst, .call ⟨.value (.func f), args, tys⟩, type, pos, after, guard⟩).run E.P w = .ok (.enter f (hd' i :: ys.map a.eval).toArray) w := by
    have e1 : args.map a.eval = (hd' i :: ys.map a.eval).toArray := by
      apply Array.ext'
      rw [Array.toList_map, ha, List.map_cons, hxe]
    simp only [execOp, resolve, invoke, Act.eval, Deferred.ofValue, Sem.run_bind, Sem.run_pure, Result.andThen_ok]
    simp only [Array.empty_append, Array.append_empty]
    have := hent (args.map a.eval) w
    rw [← e1]
    exact this
  unfold Oper.wp
  rw [hrun]
  show Calls E.P f _ w _
  refine hc.mono ?_
  rintro e w' ⟨v, fp2, rfl, hos, htp, hou, hsz, hfr, ⟨vs2, fp2', hown2, hrep2, rfl⟩, hnd2, hsub, hres⟩
  show K _ _
  let fp2 := (hd' i).ownBlock.toList ++ fp2'
  let fp := (hd' i).ownBlock.toList ++ fp'
  have hlt2 : ∀ b ∈ fp2, b < w'.heap.size := by
    intro b hb
    rcases List.mem_append.1 hb with hb | hb
    · exact ownsRow_lt hown2 b hb
    · exact repLL_lt _ _ _ _ hrep2 b hb
  let χ' : Nat → Option Nat := fun b => if b < w.heap.size then χ b else if b ∈ fp2 then some i else none
  have hS : ∀ b, free χ w b → free χ' w' b := fun b hb => ⟨by simp only [χ']; rw [if_pos hb.2]; exact hb.1, by have := hb.2; omega⟩
  have hSh : ∀ b, free χ w b → w'.heap[b]? = w.heap[b]? := fun b hb => hfr b hb.2 (fun hm => by
    have := hcol b hm
    rw [hb.1] at this; cases this)
  let s' := s.setR i ⟨T, sz, xs'⟩
  have htab : ∀ j, j ∈ s.us → ∀ x, tab s' hd' j = some x → tab s hd' j = some x := by
    intro j _ x hx
    by_cases e : j = i
    · subst e
      simp only [tab, s', St.root_setR_same, Option.map_some, hlx] at hx
      simp only [tab, hR, Option.map_some]
      exact hx
    · simp only [tab, s', St.root_setR_ne s e] at hx
      exact hx
  have hrel : Rel0 E s' a w' χ' hd' := by
    refine ⟨h.defers, h.size, hos.trans h.os, htp.trans h.tape, hou.trans h.output, by have := h.hsz; omega, ?_, h.fx, h.jj, ?_, ?_, ?_, ?_, ?_⟩
    · intro k hk1 hk2
      rw [hfr k (by have := h.hsz; omega) ?_, h.frame k hk1 hk2]
      intro hm
      rcases (h.col k i (hcol k hm)).1 hiJ with h3 | h3
      · omega
      · exact hk2 h3
    · show s'.root JJ = none
      rw [show s'.root JJ = s.root JJ from St.root_setR_ne s (Ne.symm hiJ) _]; exact h.rj
    · intro b hb
      have h1 := h.jk b hb
      have h2 := (h.col b _ h1).2
      simp only [χ']; rw [if_pos h2]; exact h1
    · intro b r hb
      simp only [χ'] at hb
      split at hb
      · have := h.col b r hb
        exact ⟨this.1, by omega⟩
      · split at hb
        · rename_i hm
          cases hb
          exact ⟨fun _ => .inl (by have := h.hsz; omega), hlt2 b hm⟩
        · cases hb
    · intro j R hRj
      by_cases e : j = i
      · subst e
        have : R = ⟨T, sz, xs'⟩ := by
          rw [show s'.root j = some ⟨T, sz, xs'⟩ from St.root_setR_same s j _] at hRj; cases hRj; rfl
        subst this
        refine ⟨hus, fp2, ⟨hz, vs2, fp2', hown2, repRLL_of _ _ _ (repLL_frame _ _ _ _ hrep2 (fun b hb => hb.elim) (fun b hb => hb.elim) (fun _ _ => rfl)), rfl⟩, hnd2, ?_⟩
        intro b hb
        simp only [χ']
        split
        · rename_i hlt
          rcases hsub b hb with h4 | h4
          · exact hcol b h4
          · omega
        · first | rfl | exact if_pos hb
      · have hRj' : s.root j = some R := by rw [← St.root_setR_ne s e ⟨T, sz, xs'⟩]; exact hRj
        obtain ⟨hj1, g, hr, hg1, hg2⟩ := h.rts j R hRj'
        refine ⟨hj1, g, ?_, hg1, ?_⟩
        · refine hr.mono hS hSh (fun b hb => hfr b (hr.lt b hb) (fun hm => ?_)) (fun _ x => x) htab
          have h1 := hcol b hm
          rw [hg2 b hb] at h1
          cases h1; exact e rfl
        · intro b hb
          simp only [χ']
          rw [if_pos (hr.lt b hb)]
          exact hg2 b hb
    · intro t
      exact repR_mono _ _ _ (h.slots t) hS hSh (by simp) (fun _ x => x) htab
  refine hk _ _ ⟨χ', hd', hrel.putO hd (repR_of _ _ _ (rep_frame _ _ _ hres (fun b hb => hb.elim) (fun b hb => hb.elim) (by simp)))⟩

theorem results_run {E : Env} {Θ : Tys} (hΘ : TOK E.P Θ) {fn : Func} {s : St} {a : Act} {w : World} {χ : Nat → Option Nat} {hd : Nat → Value} (h : Rel0 E s a w χ hd) {xs : List AV} (hxs : resVs Θ s fn.results.toList = some xs) : ∃ v, (results fn a.tmps).run E.P w = .ok v w ∧ repR w (free χ w) (· ∈ s.us) (tab s hd) (one xs) v [] := by
  obtain ⟨vs, hrun, hrep⟩ := resVs_sound (E := E) hΘ h _ _ hxs
  have hlen := repRL_length _ _ _ hrep
  have hm : (fn.results.mapM (resOf a.tmps) : Sem (Array Value)).run E.P w = .ok vs.toArray w := by
    rw [← Array.toArray_toList (xs := fn.results), List.mapM_toArray]
    simp only [Sem.run_map]
    rw [hrun]
    rfl
  rw [results_eq]
  simp only [Sem.run_bind]
  rw [hm]
  simp only [Result.andThen_ok, Sem.run_pure]
  match xs, vs, hlen, hrep with
  | [x], [v], _, hrep =>
    refine ⟨v, by simp, ?_⟩
    simp only [repRL] at hrep
    obtain ⟨u, us, f1, f2, h1, h2, h3, h4, h5⟩ := hrep
    cases h1
    obtain ⟨rfl, rfl⟩ := List.append_eq_nil_iff.1 h2.symm
    exact h3
  | [], [], _, hrep => exact ⟨.tuple #[], by simp, by simp only [one, repR]; exact ⟨[], rfl, hrep⟩⟩
  | x :: y :: xs, v :: u :: vs, _, hrep =>
    refine ⟨.tuple (v :: u :: vs).toArray, by simp, ?_⟩
    simp only [one, repR]
    exact ⟨_, rfl, hrep⟩

def flatR : AV → Bool
  | .lit _ => true
  | .tup [] => true
  | _ => false
def ResM (Θ : Tys) (rs : List ResultVar) (T sz : Nat) (xs' : List (List AV)) (res : AV) (s : St) : Prop := (∃ ys, resVs Θ s rs = some ys ∧ one ys = res) ∧ flatR res = true ∧ s.root 0 = some ⟨T, sz, xs'⟩ ∧ treeLL xs' = true ∧ noRoLL xs' = true
theorem flat_rep {w : World} {S U S2 : Nat → Prop} {ρ : Tab} {r : AV} {v : Value} (h : repR w S U ρ r v []) (hf : flatR r = true) : rep w S2 r v [] := by
  cases r with
  | lit x => simpa only [repR, rep] using h
  | tup cs =>
    cases cs with
    | nil =>
      simp only [repR, repRL] at h
      simp only [rep, repL]
      exact h
    | cons c cs => cases hf
  | _ => cases hf

def entryM (n : Nat) (args : List AV) (T sz : Nat) (xs : List (List AV)) : St := ⟨(0, .sl 0 0 n) :: (args.zipIdx 1).map (fun p => (p.2, p.1)), [(0, some ⟨T, sz, xs⟩)], [0, JJ]⟩
open Classical in
theorem meetsM_of {P : Program} {Θ : Tys} (hΘ : TOK P Θ) {f : FuncId} {fn : Func} {c : Code} (hf : P.funcs[f]? = some fn) (hname : (fn.name == "runtime.NumGoroutine") = false) (hb : fn.body = some c) {T sz : Nat} {xs xs' : List (List AV)} {args : List AV} {res : AV} (hn : args.length + 1 ≤ fn.ntmps)
    (h : ∀ E : Env, E.P = P → E.n = fn.ntmps → (∃ v, E.fx = some v) → TWp E c (fun e s => (e = .normal ∨ e = .ret) ∧ ResM Θ fn.results.toList T sz xs' res s) (entryM xs.length args T sz xs)) : MeetsM P f T sz xs args xs' res := by
  refine ⟨enters_of hf hname hb, ?_⟩
  intro w hv fp vals hz hrow hnd hargs
  obtain ⟨vs0, fp0, hown, hrep0, rfl⟩ := hrow
  have hvl := repL_length _ _ _ hargs
  refine calls_of_wp hf hb ?_
  let fp := hv.ownBlock.toList ++ fp0
  have hfplt : ∀ b ∈ fp, b < w.heap.size := by
    intro b hb
    rcases List.mem_append.1 hb with hb | hb
    · exact ownsRow_lt hown b hb
    · exact repLL_lt _ _ _ _ hrep0 b hb
  let E : Env := ⟨P, w, fn.ntmps, fun b => b ∈ fp, fun b => b < w.heap.size ∧ b ∉ fp, some hv⟩
  let χ : Nat → Option Nat := fun b => if b ∈ fp then some 0 else if b < w.heap.size then some JJ else none
  let s0 := entryM xs.length args T sz xs
  have hroot : ∀ i R, s0.root i = some R → i = 0 ∧ R = ⟨T, sz, xs⟩ := by
    intro i R hR
    simp only [s0, entryM, St.root, List.lookup] at hR
    split at hR
    · rename_i he
      cases hR
      exact ⟨by simpa using he, rfl⟩
    · cases hR
  have hrel : Rel0 E s0 { tmps := (hv :: vals).toArray ++ Array.replicate (fn.ntmps - (hv :: vals).toArray.size) undef, defers := [] } w χ (fun _ => hv) := by
    refine ⟨rfl, by simp [E]; omega, rfl, rfl, rfl, Nat.le_refl _, fun _ _ _ => rfl, (fun v h => by cases h; exact ⟨by simp [s0, entryM], rfl⟩), by simp [s0, entryM], rfl, fun b hb => by simp only [χ]; rw [if_neg hb.2, if_pos hb.1], ?_, ?_, ?_⟩
    · intro b r hbr
      simp only [χ] at hbr
      split at hbr
      · rename_i hh; cases hbr; exact ⟨fun _ => .inr hh, hfplt b hh⟩
      · split at hbr
        · rename_i hh; cases hbr; exact ⟨fun e => absurd rfl e, hh⟩
        · cases hbr
    · intro i R hR
      obtain ⟨rfl, rfl⟩ := hroot i R hR
      refine ⟨by simp [s0, entryM], fp, ⟨hz, vs0, fp0, hown, repRLL_of _ _ _ (repLL_frame _ _ _ _ hrep0 (fun b hb => hb.elim) (fun b hb => hb.elim) (fun _ _ => rfl)), rfl⟩, hnd, ?_⟩
      intro b hb
      simp only [χ]; exact if_pos hb
    · intro t
      have hget : s0.get t = if t = 0 then .sl 0 0 xs.length else ((args[t - 1]?).getD .dead) := by
        cases t with
        | zero => rfl
        | succ t =>
          have := entry_get_aux args 1 t
          rw [Nat.add_comm] at this
          simp only [s0, entryM, St.get]
          rw [lookup_cons_ne (by omega), this]
          simp
      rw [hget]
      cases t with
      | zero =>
        rw [if_pos rfl]
        have e0 : ((hv :: vals).toArray ++ Array.replicate (fn.ntmps - (hv :: vals).toArray.size) undef).getD 0 undef = hv := by
          rw [Array.getD_eq_getD_getElem?, Array.getElem?_append_left (by simp)]
          simp
        rw [e0]
        simp only [repR]
        refine ⟨trivial, by simp [s0, entryM], ?_⟩
        intro h' n' sz' hh
        have e1 : tab s0 (fun _ => hv) 0 = some (hv, xs.length, sz) := rfl
        rw [e1] at hh
        cases hh
        refine ⟨by omega, ?_⟩
        rcases hown.2 with ⟨h1, h2⟩ | ⟨g, cap, cur, h1, _, _, h3, _⟩
        · exact ⟨none, 0, by rw [h1, h2], by omega, fun _ => ⟨0, h1⟩, fun hp => absurd hp (by omega)⟩
        · exact ⟨some ⟨g, 0, none⟩, cap, h1, h3, fun _ => ⟨_, h1⟩, fun _ => ⟨g, _, _, h1, by simp⟩⟩
      | succ t =>
        rw [if_neg (by omega)]
        simp only [Nat.add_sub_cancel]
        cases ht : args[t]? with
        | none => exact repR_dead _
        | some x =>
          obtain ⟨v, hvt, hr⟩ := repL_get _ _ _ _ hargs ht
          have : ((hv :: vals).toArray ++ Array.replicate (fn.ntmps - (hv :: vals).toArray.size) undef).getD (t + 1) undef = v := by
            have hlt : t < vals.length := (List.getElem?_eq_some_iff.1 hvt).1
            rw [Array.getD_eq_getD_getElem?, Array.getElem?_append_left (by simpa using hlt)]
            simp [hvt]
          simp only [Option.getD_some]
          rw [this]
          exact repR_of _ _ _ (rep_frame _ _ _ hr (fun b hb => hb.elim) (fun b hb => hb.elim) (by simp))
  refine wp_mono (h E rfl rfl ⟨_, rfl⟩ _ w ⟨χ, _, hrel⟩) ?_
  rintro e a' w' ⟨s', ⟨he, ⟨ys, hys, rfl⟩, hfl, hroot', htree, hnoro⟩, χ', hd', hr⟩
  obtain ⟨v, hv1, hv2⟩ := results_run (E := E) hΘ hr hys
  obtain ⟨hus, fp2, ⟨_, vs2, fp2', hown2, hrep2, rfl⟩, hnd2, hcol2⟩ := hr.rts 0 _ hroot'
  have hhd : hd' 0 = hv := (hr.fx hv rfl).2
  rw [hhd] at hown2 hnd2 hcol2
  have hR : ∃ v2 fp2, Ending.returned v = .returned v2 ∧ w'.os = w.os ∧ w'.tape = w.tape ∧ w'.output = w.output ∧ w.heap.size ≤ w'.heap.size ∧ (∀ k, k < w.heap.size → k ∉ fp → w'.heap[k]? = w.heap[k]?) ∧
      Row w' T sz hv xs' fp2 ∧ fp2.Nodup ∧ (∀ b ∈ fp2, b ∈ fp ∨ w.heap.size ≤ b) ∧ rep w' NS (one ys) v2 [] := by
    refine ⟨v, hv.ownBlock.toList ++ fp2', rfl, hr.os, hr.tape, hr.output, hr.hsz, fun k hk hk2 => hr.frame k hk hk2, ⟨vs2, fp2', hown2, repLL_noRo _ _ _ _ (repLL_of_tree _ _ _ hrep2 htree) hnoro, rfl⟩, hnd2, ?_, flat_rep hv2 hfl⟩
    intro b hb
    have h1 := hcol2 b hb
    rcases (hr.col b 0 h1).1 (by decide) with h2 | h2
    · exact .inr h2
    · exact .inl h2
  rcases he with rfl | rfl
  · exact ⟨hr.defers, v, hv1, hR⟩
  · exact ⟨hr.defers, v, hv1, hR⟩

section
variable {E : Env} {Θ : Tys} {ops : Array Oper} {o : Oper} {rest : List Oper} {sl : List (Nat × AV)} {rt : List (Nat × Option Root)} {us : List Nat} {K : St → Prop}
theorem st_callM {d i len T sz : Nat} {f : FuncId} {args : Array Operand} {tys : Array TypeId} {x : Operand} {ys : List Operand} {xs xs' : List (List AV)} {outs : List AV} {res : AV} (hg : o.guard = none) (ho : o.op = .call ⟨.value (.func f), args, tys⟩) (ha : args.toList = x :: ys) (hdst : o.dst = some d) (hn : d < E.n) (hx : opnd ⟨sl, rt, us⟩ x = .sl i 0 len) (hR : St.root ⟨sl, rt, us⟩ i = some ⟨T, sz, xs⟩)
    (hout : outL ⟨sl, rt, us⟩ (ys.map (opnd ⟨sl, rt, us⟩)) = some outs) (hno : noRoL outs = true) (hm : MeetsM E.P f T sz xs outs xs' res) (hlen : len = xs.length) (ht : treeLL xs = true) (hnr : noRoLL xs = true) (hlx : xs'.length = xs.length)
    (h : RW E ops rest ⟨(d, res) :: sl, (i, some ⟨T, sz, xs'⟩) :: rt, us⟩ K) : RW E ops (o :: rest) ⟨sl, rt, us⟩ K := by
  have := opTo_callM ho ha hx hR hlen ht hnr (by rw [hdst]; simpa [okD] using hn) hout hno hm hlx
  refine rw_op hg this ?_
  rw [hdst]
  exact h
theorem st_callM0 {i len T sz : Nat} {f : FuncId} {args : Array Operand} {tys : Array TypeId} {x : Operand} {ys : List Operand} {xs xs' : List (List AV)} {outs : List AV} {res : AV} (hg : o.guard = none) (ho : o.op = .call ⟨.value (.func f), args, tys⟩) (ha : args.toList = x :: ys) (hdst : o.dst = none) (hx : opnd ⟨sl, rt, us⟩ x = .sl i 0 len) (hR : St.root ⟨sl, rt, us⟩ i = some ⟨T, sz, xs⟩)
    (hout : outL ⟨sl, rt, us⟩ (ys.map (opnd ⟨sl, rt, us⟩)) = some outs) (hno : noRoL outs = true) (hm : MeetsM E.P f T sz xs outs xs' res) (hlen : len = xs.length) (ht : treeLL xs = true) (hnr : noRoLL xs = true) (hlx : xs'.length = xs.length)
    (h : RW E ops rest ⟨sl, (i, some ⟨T, sz, xs'⟩) :: rt, us⟩ K) : RW E ops (o :: rest) ⟨sl, rt, us⟩ K := by
  have := opTo_callM ho ha hx hR hlen ht hnr (by rw [hdst]; rfl) hout hno hm hlx
  refine rw_op hg this ?_
  rw [hdst]
  exact h
end
theorem finM {Θ : Tys} {rs : List ResultVar} {T sz : Nat} {xs' : List (List AV)} {v v' : Value} {R : Root} {s : St} (h : resVs Θ s rs = some [.lit v]) (hR : s.root 0 = some R) (hv : v = v') (hx : R = ⟨T, sz, xs'⟩) (ht : treeLL xs' = true) (hn : noRoLL xs' = true) : (Exit.ret = .normal ∨ Exit.ret = .ret) ∧ ResM Θ rs T sz xs' (.lit v') s := by
  subst hv; exact ⟨.inr rfl, ⟨_, h, rfl⟩, rfl, by rw [hR, hx], ht, hn⟩

theorem outL_sl {s : St} {x : Operand} {l : List AV} {ds : List AV} {i len : Nat} {R : Root} {zs : List (List AV)} (h0 : opnd s x = .sl i 0 len) (hR : s.root i = some R) (hl : len = R.xs.length) (ht : treeLL R.xs = true) (hf : frzLL R.xs = zs) (h2 : outL s l = some ds) : outL s (opnd s x :: l) = some (.ro R.sz zs :: ds) := by
  subst hf; subst hl
  simp [outL, h0, out, hR, ht, h2]
section
variable {E : Env} {Θ : Tys} {ops : Array Oper} {o : Oper} {rest : List Oper} {sl : List (Nat × AV)} {rt : List (Nat × Option Root)} {us : List Nat} {K : St → Prop}
/-- a part of the element of a row that is being written -/
theorem st_storeX (hΘ : TOK E.P Θ) {t id e off T sz : Nat} {p y : Operand} {ti : TI} {xs : List (List AV)} {x cs x' : List AV} (ho : o.op = .store t p y) (hg : o.guard = none) (hdst : o.dst = none) (hti : Θ.lookup t = some ti) (hpt : opnd ⟨sl, rt, us⟩ p = .ptr id e off) (hR : St.root ⟨sl, rt, us⟩ id = some ⟨T, sz, xs.set e x⟩) (he : e < xs.length)
    (hcs : cellsOf (opnd ⟨sl, rt, us⟩ y) = cs) (hn : cs.length = ti.sz) (hl : off + cs.length ≤ x.length) (hok : cs.all (okCell ⟨sl, rt, us⟩) = true) (hx : wr x off cs = x') (h : RW E ops rest ⟨sl, (id, some ⟨T, sz, xs.set e x'⟩) :: rt, us⟩ K) : RW E ops (o :: rest) ⟨sl, rt, us⟩ K := by
  refine st_store hΘ ho hg hdst hti hpt hR (x := x) (by simp [he]) hcs hn hl hok hx ?_
  simp only [List.set_set]
  exact h
theorem st_store1F (hΘ : TOK E.P Θ) {t id off T sz : Nat} {p y : Operand} {ti : TI} {x cs x' : List AV} (ho : o.op = .store t p y) (hg : o.guard = none) (hdst : o.dst = none) (hti : Θ.lookup t = some ti) (hpt : opnd ⟨sl, rt, us⟩ p = .ptr id 0 off) (hR : St.root ⟨sl, rt, us⟩ id = some ⟨T, sz, [x]⟩)
    (hcs : cellsOf (opnd ⟨sl, rt, us⟩ y) = cs) (hn : cs.length = ti.sz) (hl : off + cs.length ≤ x.length) (hok : cs.all (okCell ⟨sl, rt, us⟩) = true) (hx : wr x off cs = x') (h : RW E ops rest ⟨sl, (id, some ⟨T, sz, [x']⟩) :: rt, us⟩ K) : RW E ops (o :: rest) ⟨sl, rt, us⟩ K :=
  st_store hΘ ho hg hdst hti hpt hR (x := x) rfl hcs hn hl hok hx h
theorem ent_set {i T sz e : Nat} {xs : List (List AV)} {x : List AV} (hR : St.root ⟨sl, rt, us⟩ i = some ⟨T, sz, xs⟩) (he : xs[e]? = some x) : Ent E ⟨sl, rt, us⟩ ⟨sl, (i, some ⟨T, sz, xs.set e x⟩) :: rt, us⟩ := by
  have hx : xs.set e x = xs := by
    apply List.ext_getElem?
    intro j
    rw [List.getElem?_set]
    split
    · rename_i h
      subst h
      split
      · exact he.symm
      · rename_i h2
        rw [List.getElem?_eq_none (by omega)] at he; cases he
    · rfl
  rw [hx]
  rintro a w ⟨χ, hd, h⟩
  refine ⟨χ, hd, h.congr (fun t => rfl) (fun j => ?_) rfl⟩
  by_cases e : j = i
  · subst e; exact (St.root_setR_same ⟨sl, rt, us⟩ j ⟨T, sz, xs⟩).trans hR.symm
  · exact St.root_setR_ne ⟨sl, rt, us⟩ e ⟨T, sz, xs⟩
end
theorem finA {Θ : Tys} {rs : List ResultVar} {s : St} {cs : List AV} {res : AV} (h : resVs Θ s rs = some [.agg cs]) (hp : pkL s cs = some cs) (hi : pkIL cs = []) (hr : AV.agg cs = res) : (Exit.ret = .normal ∨ Exit.ret = .ret) ∧ Res Θ rs res s := by
  subst hr; exact ⟨.inr rfl, _, h, by simp [one, pk, hp], by simp [one, pkI, hi]⟩
open Classical in
theorem meetsM_of1 {P : Program} {Θ : Tys} (hΘ : TOK P Θ) {f : FuncId} {fn : Func} {c : Code} (hf : P.funcs[f]? = some fn) (hname : (fn.name == "runtime.NumGoroutine") = false) (hb : fn.body = some c) {T sz : Nat} {xs xs' : List (List AV)} {a res : AV} (hn : 2 ≤ fn.ntmps)
    (h : ∀ E : Env, E.P = P → E.n = fn.ntmps → (∃ v, E.fx = some v) → TWp E c (fun e s => (e = .normal ∨ e = .ret) ∧ ResM Θ fn.results.toList T sz xs' res s) ⟨[(0, .sl 0 0 xs.length), (1, a)], [(0, some ⟨T, sz, xs⟩)], [0, JJ]⟩) : MeetsM P f T sz xs [a] xs' res := meetsM_of hΘ hf hname hb (by simpa using hn) h
open Classical in
theorem meetsM_of0 {P : Program} {Θ : Tys} (hΘ : TOK P Θ) {f : FuncId} {fn : Func} {c : Code} (hf : P.funcs[f]? = some fn) (hname : (fn.name == "runtime.NumGoroutine") = false) (hb : fn.body = some c) {T sz : Nat} {xs xs' : List (List AV)} {res : AV} (hn : 1 ≤ fn.ntmps)
    (h : ∀ E : Env, E.P = P → E.n = fn.ntmps → (∃ v, E.fx = some v) → TWp E c (fun e s => (e = .normal ∨ e = .ret) ∧ ResM Θ fn.results.toList T sz xs' res s) ⟨[(0, .sl 0 0 xs.length)], [(0, some ⟨T, sz, xs⟩)], [0, JJ]⟩) : MeetsM P f T sz xs [] xs' res := meetsM_of hΘ hf hname hb (by simpa using hn) h
end Go.T
