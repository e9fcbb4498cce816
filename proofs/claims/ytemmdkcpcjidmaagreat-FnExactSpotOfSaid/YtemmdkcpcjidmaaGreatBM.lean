/- Lemmas for FnExactSpotOf; no condition. -/

import Derived.Test.YtemmdkcpcjidmaaGreatBB
import Derived.Test.YtemmdkcpcjidmaaGreatTZB
set_option linter.unusedVariables false
namespace Go.T
open Go Go.RowKit Go.Proofs
def XE (X Y : Xs) : Prop := (∀ i, X.1.lookup i = Y.1.lookup i) ∧ ∀ i, i ∈ X.2 ↔ i ∈ Y.2
theorem XE.refl (X : Xs) : XE X X := ⟨fun _ => rfl, fun _ => Iff.rfl⟩
theorem XE.trans {X Y Z : Xs} (h : XE X Y) (k : XE Y Z) : XE X Z := ⟨fun i => (h.1 i).trans (k.1 i), fun i => (h.2 i).trans (k.2 i)⟩
theorem Qcs.xe {E : Env} {sl : List (Nat × AV)} {X Y : Xs} (e : XE X Y) {a : Act} {w : World} {χ : Nat → Option Nat} {hd : Nat → Value} (h : Qcs E ⟨sl, X.1, X.2⟩ a w χ hd) : Qcs E ⟨sl, Y.1, Y.2⟩ a w χ hd := by
 have hr : ∀ i, (⟨sl, Y.1, Y.2⟩ : St).root i = (⟨sl, X.1, X.2⟩ : St).root i := fun i => by simp only [St.root, e.1 i]
 have ht : tab ⟨sl, Y.1, Y.2⟩ hd = tab ⟨sl, X.1, X.2⟩ hd := by funext i; simp [tab, hr]
 have hU : (fun i => i ∈ (⟨sl, Y.1, Y.2⟩ : St).us) = (fun i => i ∈ (⟨sl, X.1, X.2⟩ : St).us) := by
  funext i; exact propext (e.2 i).symm
 refine ⟨h.defers, h.size, h.os, h.tape, h.output, h.hsz, h.frame, fun p hp => ⟨(e.2 _).1 (h.fx p hp).1, (h.fx p hp).2⟩, (e.2 _).1 h.jj, by rw [hr]; exact h.rj, h.jk, h.col, ?_, ?_⟩
 ·intro i R hR
  rw [hr] at hR
  obtain ⟨h1, h2⟩ := h.rts i R hR
  refine ⟨(e.2 _).1 h1, ?_⟩
  rw [hU, ht]; exact h2
 ·intro t
  rw [hU, ht]; exact h.slots t
theorem STo.xe {E : Env} {ops : Array Oper} {o : Oper} {sl : List (Nat × AV)} {X Y Z : Xs} {d : Nat} {r : AV} (h : STo E ops o sl X Y d r) (e : XE Y Z) : STo E ops o sl X Z d r := by
 intro sl2 hle a w Q K hr hk
 exact h sl2 hle a w Q K hr (fun a' w' hr' => hk a' w' (by obtain ⟨χ, hd, h0⟩ := hr'; exact ⟨χ, hd, h0.xe e⟩))
def Qq6 (l : List (Nat × Option Qat)) : List Nat := l.map (·.1)
def adX : Xs → List (Nat × Option Qat) → Xs
 | X, [] => X
 | X, (i, R) :: l => adX ((i, R) :: X.1, i :: X.2) l
def sm (p : Nat × Qat) : Nat × Option Qat := (p.1, some p.2)
theorem Qtz : ∀ (l : List (Nat × Qat)) (X : Xs), adX X (l.map sm) = Xgo X l
 | [], X => rfl
 | (i, R) :: l, X => by
  rw [List.map_cons, Xgo, ← Qtz l]; rfl
theorem Qw0 : ∀ (l : List (Nat × Option Qat)) (X : Xs), adX X l = (l.reverse ++ X.1, (Qq6 l).reverse ++ X.2)
 | [], X => by simp [adX, Qq6]
 | (i, R) :: l, X => by
  rw [adX, Qw0 l]
  simp [Qq6]
theorem Qlw {β : Type} {i : Nat} : ∀ {l : List (Nat × β)}, i ∉ l.map (·.1) → l.lookup i = none
 | [], h => rfl
 | (j, x) :: l, h => by
  simp only [List.map_cons, List.mem_cons, not_or] at h
  rw [Qak h.1]
  exact Qlw h.2
theorem XE.add {X Y : Xs} (h : XE X Y) (l : List (Nat × Option Qat)) : XE (adX X l) (adX Y l) := by
 rw [Qw0, Qw0]
 refine ⟨fun i => ?_, fun i => ?_⟩
 ·simp only [List.lookup_append, h.1 i]
 ·simp only [List.mem_append, h.2 i]
theorem XE.swap {X : Xs} {a l : List (Nat × Option Qat)} (hd : ∀ i ∈ Qq6 a, i ∉ Qq6 l) : XE (adX (adX X a) l) (adX (adX X l) a) := by
  simp only [Qw0]
  refine ⟨fun i => ?_, fun i => ?_⟩
  · simp only [List.lookup_append]
    by_cases hi : i ∈ Qq6 a
    · have := Qlw (i := i) (l := l.reverse) (by
        have := hd i hi
        simpa [Qq6] using this)
      rw [this]; simp
    · have := Qlw (i := i) (l := a.reverse) (by simpa [Qq6] using hi)
      rw [this]; simp
  · simp only [List.mem_append]
    constructor
    · rintro (h | h | h)
      · exact .inr (.inl h)
      · exact .inl h
      · exact .inr (.inr h)
    · rintro (h | h | h)
      · exact .inr (.inl h)
      · exact .inl h
      · exact .inr (.inr h)
def stB (X : Xs) : List (List (Nat × Option Qat)) → List Bool → Xs
 | l :: Ls, true :: bs => stB (adX X l) Ls bs
 | _ :: Ls, false :: bs => stB X Ls bs
 | _, _ => X
theorem Xe2 : ∀ (Ls : List (List (Nat × Option Qat))) (bs : List Bool) {X Y : Xs}, XE X Y → XE (stB X Ls bs) (stB Y Ls bs)
 | [], _, X, Y, h => by simpa only [stB] using h
 | l :: Ls, [], X, Y, h => by simpa only [stB] using h
 | l :: Ls, true :: bs, X, Y, h => by simp only [stB]; exact Xe2 Ls bs (h.add l)
 | l :: Ls, false :: bs, X, Y, h => by simp only [stB]; exact Xe2 Ls bs h
theorem Qzx : ∀ (Ls : List (List (Nat × Option Qat))) (bs : List Bool) (X : Xs) (l : List (Nat × Option Qat)), (∀ p ∈ Ls.zip bs, p.2 = true → ∀ i ∈ Qq6 l, i ∉ Qq6 p.1) → XE (adX (stB X Ls bs) l) (stB (adX X l) Ls bs)
 | [], _, X, l, h => by simp only [stB]; exact XE.refl _
 | L :: Ls, [], X, l, h => by simp only [stB]; exact XE.refl _
 | L :: Ls, true :: bs, X, l, h => by
  simp only [stB]
  refine (Qzx Ls bs (adX X L) l (fun M hM => h M (List.mem_cons_of_mem _ hM))).trans (Xe2 Ls bs (XE.swap ?_))
  intro i hi hl
  exact h (L, true) List.mem_cons_self rfl i hl hi
 | L :: Ls, false :: bs, X, l, h => by
  simp only [stB]
  exact Qzx Ls bs X l (fun M hM => h M (List.mem_cons_of_mem _ hM))
def Xjc (A : List (List Nat)) : List Nat → List (List (Nat × Option Qat)) → Bool
 | k :: Ms, l :: Ls => ((Ms.zip Ls).all fun p => (Qrx A p.1).contains k || (Qq6 l).all fun j => !(Qq6 p.2).contains j) && Xjc A Ms Ls
 | _, _ => true
theorem Qpy {i : Nat} : ∀ {Ms : List Nat} {bs : List Bool}, i ∉ Ms → bs.length = Ms.length → Xar i Ms bs = bs
 | [], [], _, _ => rfl
 | [], b :: bs, _, h => by simp at h
 | k :: Ms, [], _, h => by simp at h
 | k :: Ms, b :: bs, hi, h => by
  simp only [List.mem_cons, not_or] at hi
  simp only [Xar, List.zip_cons_cons, List.map_cons]
  have := Qpy hi.2 (by simpa using h)
  simp only [Xar] at this
  rw [this]
  have e : (k == i) = false := by simp; exact fun e => hi.1 e.symm
  rw [e, Bool.or_false]
theorem Qxa {A : List (List Nat)} {i : Nat} {L : List (Nat × Option Qat)} : ∀ {Ms : List Nat} {Ls : List (List (Nat × Option Qat))} {bs : List Bool} {X : Xs}, Ms.Nodup → Ls.length = Ms.length → bs.length = Ms.length → Xjc A Ms Ls = true → (Ms.zip Ls).lookup i = some L → (∀ p ∈ Ms.zip bs, p.1 = i ∨ (Qrx A p.1).contains i = true → p.2 = false) →
  XE (adX (stB X Ls bs) L) (stB X Ls (Xar i Ms bs))
 | [], Ls, bs, X, _, _, _, _, h, _ => by simp at h
 | k :: Ms, [], bs, X, _, h, _, _, _, _ => by simp at h
 | k :: Ms, l :: Ls, [], X, _, _, h, _, _, _ => by simp at h
 | k :: Ms, l :: Ls, b :: bs, X, hn, h1, h2, h3, h4, h5 => by
  obtain ⟨hk, hn⟩ := List.nodup_cons.1 hn
  have h1' : Ls.length = Ms.length := by simpa using h1
  have h2' : bs.length = Ms.length := by simpa using h2
  simp only [Xjc, Bool.and_eq_true] at h3
  have h3d := List.all_eq_true.1 h3.1
  have en : Xar i (k :: Ms) (b :: bs) = (b || k == i) :: Xar i Ms bs := rfl
  rw [en]
  by_cases hik : i = k
  ·subst hik
   have hb : b = false := h5 (i, b) (by simp) (.inl rfl)
   subst hb
   rw [List.zip_cons_cons, Qay] at h4
   cases h4
   rw [Qpy hk h2']
   simp only [beq_self_eq_true, Bool.or_true, stB]
   refine Qzx Ls bs X _ fun p hp hpt j hj hj2 => ?_
   obtain ⟨q, hq⟩ := List.mem_iff_getElem?.1 hp
   rw [List.getElem?_zip_eq_some] at hq
   obtain ⟨m, hm⟩ : ∃ m, Ms[q]? = some m := ⟨Ms[q]'(by have := (List.getElem?_eq_some_iff.1 hq.1).1; omega), by simp⟩
   have hmem : (m, p.1) ∈ Ms.zip Ls := List.mem_of_getElem? (i := q) (by rw [List.getElem?_zip_eq_some]; exact ⟨hm, hq.1⟩)
   have hmb : (m, p.2) ∈ Ms.zip bs := List.mem_of_getElem? (i := q) (by rw [List.getElem?_zip_eq_some]; exact ⟨hm, hq.2⟩)
   have h6 := h3d _ hmem
   rw [Bool.or_eq_true] at h6
   rcases h6 with h6 | h6
   ·have := h5 (m, p.2) (by rw [List.zip_cons_cons]; exact List.mem_cons_of_mem _ hmb) (.inr h6)
    rw [hpt] at this; cases this
   ·have := List.all_eq_true.1 h6 j hj
    simp at this
    exact this hj2
  ·rw [List.zip_cons_cons, Qak hik] at h4
   have e : (k == i) = false := by simp; exact fun e => hik e.symm
   rw [e, Bool.or_false]
   have h5' : ∀ p ∈ Ms.zip bs, p.1 = i ∨ (Qrx A p.1).contains i = true → p.2 = false := fun p hp => h5 p (by rw [List.zip_cons_cons]; exact List.mem_cons_of_mem _ hp)
   cases b
   ·simp only [stB]
    exact Qxa hn h1' h2' h3.2 h4 h5'
   ·simp only [stB]
    exact Qxa hn h1' h2' h3.2 h4 h5'
theorem Qvw {β : Type} {i : Nat} : ∀ {l : List (Nat × β)}, (l.map (·.1)).Nodup → l.reverse.lookup i = l.lookup i
 | [], _ => rfl
 | (j, x) :: l, h => by
  rw [List.map_cons, List.nodup_cons] at h
  rw [List.reverse_cons, List.lookup_append, Qvw h.2]
  by_cases e : i = j
  ·subst e
   rw [Qlw h.1]
   simp [List.lookup]
  ·have : (i == j) = false := by simpa using e
   simp [List.lookup, this]
theorem Qyn : ∀ (ρ : List Nat) (ks : List Bool) (rs : List Qat), ∃ t, ρ = (Qp3 ρ ks rs).map (·.1) ++ t
 | [], _, _ => ⟨[], by simp [Qp3]⟩
 | i :: ρ, [], _ => ⟨i :: ρ, by simp [Qp3]⟩
 | i :: ρ, _ :: _, [] => ⟨i :: ρ, by simp [Qp3]⟩
 | i :: ρ, k :: ks, R :: rs => by
  obtain ⟨t, e⟩ := Qyn ρ ks rs
  refine ⟨t, ?_⟩
  rw [Qp3, List.map_cons, List.cons_append, ← e]
theorem Xj8 {ρ : List Nat} {ks : List Bool} {rs : List Qat} {rt : List (Nat × Option Qat)} {us : List Nat} {l : List (Nat × Qat)} (hn : ndB ρ = true) (hu : ρ.all (us.contains ·) = true) : XE (Xgo (Qp3 ρ ks rs ++ rt, us) l) (adX (rt, us) (Qp3 ρ ks rs ++ l.map sm)) := by
 rw [← Qtz, Qw0, Qw0]
 obtain ⟨t, e⟩ := Qyn ρ ks rs
 have hnd : ((Qp3 ρ ks rs).map (·.1)).Nodup := by
  have := Qmw hn
  rw [e, List.nodup_append] at this
  exact this.1
 refine ⟨fun i => ?_, fun i => ?_⟩
 ·simp only [List.reverse_append, List.append_assoc, List.lookup_append, Qvw hnd]
 ·have hk : ∀ x, x ∈ Qq6 (Qp3 ρ ks rs) → x ∈ us := by
   intro x hx
   have h1 : x ∈ ρ := by rw [e]; exact List.mem_append_left _ hx
   have := (List.all_eq_true.1 hu) x h1
   simpa using this
  simp only [Qq6, List.map_append, List.reverse_append, List.mem_append, List.mem_reverse]
  constructor
  ·rintro (h | h)
   ·exact .inl (.inl h)
   ·exact .inr h
  ·rintro ((h | h) | h)
   ·exact .inl h
   ·exact .inr (hk i h)
   ·exact .inr h
def exML (Θ : Tys) (P : Program) (n : Nat) (s : St) (o : Oper) (d : Nat) (h : Hn) : Option (AV × List (Nat × Option Qat) × List Prop) :=
 if d < n then if Ql1 s o.op then match h.h with
  | .callR zss res ids x' l => if frB s.us ids then match o.op with
   | .call ⟨.value x, args, _⟩ => match Qar s x with
    | .fn f caps => match Qln s [] (args.toList.map (Qar s) ++ caps) zss with
     | some (outs, ps, []) => some (x', l.map sm, Qa4 P f outs res :: (Qc5 res = true) :: ((rtf res ids).1 = x') :: ((rtf res ids).2.1 = l) :: ps)
     | _ => none
    | _ => none
   | _ => none
   else none
  | .call zss res ids => if frB s.us ids then match o.op with
   | .call ⟨.value x, args, _⟩ => match Qar s x with
    | .fn f caps => match Qln s [] (args.toList.map (Qar s) ++ caps) zss with
     | some (outs, ps, []) => some ((ovr (rtf res ids).1 h.o).1, (rtf res ids).2.1.map sm, Qa4 P f outs res :: (Qc5 res = true) :: ((ovr (rtf res ids).1 h.o).2 ++ ps))
     | _ => none
    | _ => none
   | _ => none
   else none
  | .callX ρ ks rs rs' zss res ids x' l => if (ndB ρ && (ks.length == ρ.length) && Qrh rs rs' && frB s.us ids) && ρ.all (s.us.contains ·) then match o.op with
   | .call ⟨.value x, args, _⟩ => match Qar s x with
    | .fn f caps => match Qln s ρ.zipIdx (args.toList.map (Qar s) ++ caps) zss with
     | some (outs, ps, []) => some (x', Qp3 ρ ks rs' ++ l.map sm, Qiw P f rs outs ks rs' res :: Qs2 s ρ rs :: Xmr rs :: Xcb rs rs' :: ((rtf (Qks (Qmk ρ ks) res) ids).1 = x') :: ((rtf (Qks (Qmk ρ ks) res) ids).2.1 = l) :: ps)
     | _ => none
    | _ => none
   | _ => none
   else none
  | .callS res ids x' l => if frB s.us ids then match o.op with
   | .call ⟨.value x, args, _⟩ => match Qar s x with
    | .fn f caps => some (x', l.map sm, [Qa4 P f (args.toList.map (Qar s) ++ caps) res, Qcr (args.toList.map (Qar s) ++ caps) = true, (rtf res ids).1 = x', (rtf res ids).2.1 = l])
    | _ => none
   | _ => none
   else none
  | .api => none
  | .app id zs => if frB s.us [id] then match o.op with
   | .call ⟨.builtin .append, args, tys⟩ => match args.toList, tys.toList with
    | [x, y], [t, t'] => if t = t' then match Θ.lookup t with
     | some ⟨_, _, .slice el, _⟩ => match Θ.lookup el with
      | some te => if zOK te then match Qrj s el te.sz (Qar s x), Qrc s te.sz (Qar s y) with
       | some (xs, k), some ys => match k with
        | some j => if s.us.contains j then some (.sl id 0 zs.length, [(j, none), (id, some ⟨el, te.sz, zs⟩)], [xs ++ ys = zs, ys.all (fun r => r.all AV.plain) = true, zs.length * te.bytes ≤ 140737488355328, zs.length ≤ 140737488355328]) else none
        | none => some (.sl id 0 zs.length, [(id, some ⟨el, te.sz, zs⟩)], [xs ++ ys = zs, ys.all (fun r => r.all AV.plain) = true, zs.length * te.bytes ≤ 140737488355328, zs.length ≤ 140737488355328])
       | _, _ => none
       else none
      | none => none
     | _ => none
     else none
    | _, _ => none
   | _ => none
   else none
  | hh => match idOf hh with
   | some id => if frB s.us [id] then match Xoh Θ s o.op hh id with
    | some (R, r, ps) => some ((ovr r h.o).1, [(id, (Qlp R hh).1)].map sm, (Qlp R hh).2 ++ ((ovr r h.o).2 ++ ps))
    | none => none
    else none
   | none => none
  else none
 else none
theorem Xho {Θ : Tys} {P : Program} {n : Nat} {s : St} {o : Oper} {d : Nat} {h : Hn} {r : AV} {l : List (Nat × Option Qat)} {ps : List Prop} (he : exML Θ P n s o d h = some (r, l, ps)) : ∃ Y, exM Θ P n s o d h = some (r, Y, ps) ∧ XE Y (adX (s.rt, s.us) l) := by
 unfold exML at he
 unfold exM
 split at he
 case isFalse => cases he
 rename_i h1
 rw [if_pos h1]
 split at he
 case isFalse => cases he
 rename_i h2
 rw [if_pos h2]
 split at he
 ·rename_i zss res ids x' l' hh
  split at he
  case isFalse => cases he
  rename_i h3
  simp only [hh, if_pos h3]
  split at he
  case h_2 => cases he
  rename_i hop
  simp only [hop]
  split at he
  case h_2 => cases he
  rename_i hx
  simp only [hx]
  split at he
  case h_2 => cases he
  rename_i ho
  simp only [ho]
  cases he
  exact ⟨_, rfl, by rw [Qtz]; exact XE.refl _⟩
 ·rename_i zss res ids hh
  split at he
  case isFalse => cases he
  rename_i h3
  simp only [hh, if_pos h3]
  split at he
  case h_2 => cases he
  rename_i hop
  simp only [hop]
  split at he
  case h_2 => cases he
  rename_i hx
  simp only [hx]
  split at he
  case h_2 => cases he
  rename_i ho
  simp only [ho]
  cases he
  exact ⟨_, rfl, by rw [Qtz]; exact XE.refl _⟩
 ·rename_i ρ ks rs rs' zss res ids x' l' hh
  split at he
  case isFalse => cases he
  rename_i h3
  obtain ⟨h3, h4⟩ := Bool.and_eq_true_iff.1 h3
  simp only [hh, if_pos h3]
  split at he
  case h_2 => cases he
  rename_i hop
  simp only [hop]
  split at he
  case h_2 => cases he
  rename_i hx
  simp only [hx]
  split at he
  case h_2 => cases he
  rename_i ho
  simp only [ho]
  cases he
  simp only [Bool.and_eq_true] at h3
  exact ⟨_, rfl, Xj8 h3.1.1.1 h4⟩
 ·rename_i res ids x' l' hh
  split at he
  case isFalse => cases he
  rename_i h3
  simp only [hh, if_pos h3]
  split at he
  case h_2 => cases he
  rename_i hop
  simp only [hop]
  split at he
  case h_2 => cases he
  rename_i hx
  simp only [hx]
  cases he
  exact ⟨_, rfl, by rw [Qtz]; exact XE.refl _⟩
 ·cases he
 ·rename_i id zs hh
  split at he
  case isFalse => cases he
  rename_i h3
  simp only [hh, if_pos h3]
  split at he
  case h_2 => cases he
  rename_i args tys hop
  simp only [hop]
  split at he
  case h_2 => cases he
  rename_i x y t t' ha ht
  simp only [ha, ht]
  split at he
  case isFalse => cases he
  rename_i htt
  rw [if_pos htt]
  split at he
  case h_2 => cases he
  rename_i el _ hti
  simp only [hti]
  split at he
  case h_2 => cases he
  rename_i te hte
  simp only [hte]
  split at he
  case isFalse => cases he
  rename_i hz
  rw [if_pos hz]
  split at he
  case h_2 => cases he
  rename_i xs k ys hd hs
  simp only [hd, hs]
  split at he
  ·rename_i j
   split at he
   case isFalse => cases he
   rename_i hj
   cases he
   refine ⟨_, rfl, fun i => rfl, fun i => ?_⟩
   simp only [adX, St.killO, St.kill, St.add, List.mem_cons]
   simp at hj
   constructor
   ·rintro (h | h)
    ·exact .inl h
    ·exact .inr (.inr h)
   ·rintro (h | h | h)
    ·exact .inl h
    ·exact .inr (by rw [h]; exact hj)
    ·exact .inr h
  ·cases he
   exact ⟨_, rfl, XE.refl _⟩
 ·rename_i hh hn1 hn2 hn3 hn4
  split at he
  case h_2 => cases he
  rename_i id hid
  split at he
  case isFalse => cases he
  rename_i h3
  split at he
  case h_2 => cases he
  rename_i R r0 qs hnw
  cases he
  cases hh0 : h.h <;> simp only [hh0, idOf] at hid hnw h3 ⊢ <;> first | (cases hid; done) | (cases hid; simp only [if_pos h3, hnw]; exact ⟨_, rfl, XE.refl _⟩)
def exSt (Θ : Tys) (s : St) (o : Oper) (h : Hn) : Option (List (Nat × Option Qat) × List Prop) :=
 if Ql1 s o.op then match o.op, o.dst with
 | .store t p y, none => match Θ.lookup t, Qar s p with
  | some ti, .ptr i e oo => if s.us.contains i then match s.root i with
   | some R => match h.h with
    | .sto x xs' => if (cellsOf (Qar s y)).all (Qen s) then some ([(i, some ⟨R.T, R.sz, xs'⟩)], [R.xs[e]? = some x, R.xs.set e (wr x oo (cellsOf (Qar s y))) = xs', (cellsOf (Qar s y)).length = ti.sz, oo + (cellsOf (Qar s y)).length ≤ x.length]) else none
    | .stoS x xs' => some ([(i, some ⟨R.T, R.sz, xs'⟩)], [R.xs[e]? = some x, R.xs.set e (wr x oo (cellsOf (Qar s y))) = xs', (cellsOf (Qar s y)).length = ti.sz, oo + (cellsOf (Qar s y)).length ≤ x.length, (cellsOf (Qar s y)).all Qwn = true])
    | .no => match R.xs[e]? with
     | some x => if (cellsOf (Qar s y)).all (Qen s) then (if (cellsOf (Qar s y)).length = ti.sz then (if oo + (cellsOf (Qar s y)).length ≤ x.length then some ([(i, some ⟨R.T, R.sz, R.xs.set e (wr x oo (cellsOf (Qar s y)))⟩)], []) else none) else none) else none
     | none => none
    | _ => none
   | none => none
   else none
  | _, _ => none
 | _, _ => none
 else none
theorem Xbw {E : Env} {Θ : Tys} (hΘ : TOK E.P Θ) {sl : List (Nat × AV)} {X : Xs} {o : Oper} {h : Hn} {L : List (Nat × Option Qat)} {ps : List Prop} (he : exSt Θ ⟨sl, X.1, X.2⟩ o h = some (L, ps)) (hp : Qan ps) :
  ∃ Y, XE Y (adX X L) ∧ ∀ sl2, Qty sl sl2 → Qnq E o ⟨sl2, X.1, X.2⟩ ⟨sl2, Y.1, Y.2⟩ := by
 unfold exSt at he
 split at he
 case isFalse => cases he
 rename_i hnd
 split at he
 case h_2 => cases he
 rename_i t p y hop hdst
 have key : ∀ sl2, Qty sl sl2 → Qar ⟨sl2, X.1, X.2⟩ p = Qar ⟨sl, X.1, X.2⟩ p ∧ Qar ⟨sl2, X.1, X.2⟩ y = Qar ⟨sl, X.1, X.2⟩ y := by
  intro sl2 hle
  simp only [Ql1, List.all_eq_true, hop] at hnd
  exact ⟨Qhr hle (hnd p (by simp [Op.operands])), Qhr hle (hnd y (by simp [Op.operands]))⟩
 have hok2 : ∀ sl2, Qen ⟨sl2, X.1, X.2⟩ = Qen ⟨sl, X.1, X.2⟩ := by intro sl2; funext c; cases c <;> rfl
 split at he
 case h_2 => cases he
 rename_i ti i e oo hti hpt
 split at he
 case isFalse => cases he
 rename_i hus
 split at he
 case h_2 => cases he
 rename_i R hR
 have done : ∀ (x : List AV), R.xs[e]? = some x → (cellsOf (Qar ⟨sl, X.1, X.2⟩ y)).length = ti.sz → oo + (cellsOf (Qar ⟨sl, X.1, X.2⟩ y)).length ≤ x.length → (cellsOf (Qar ⟨sl, X.1, X.2⟩ y)).all (Qen ⟨sl, X.1, X.2⟩) = true →
   ∃ Y, XE Y (adX X [(i, some ⟨R.T, R.sz, R.xs.set e (wr x oo (cellsOf (Qar ⟨sl, X.1, X.2⟩ y)))⟩)]) ∧ ∀ sl2, Qty sl sl2 → Qnq E o ⟨sl2, X.1, X.2⟩ ⟨sl2, Y.1, Y.2⟩ := by
  intro x h1 h2 h3 h4
  refine ⟨((i, some ⟨R.T, R.sz, R.xs.set e (wr x oo (cellsOf (Qar ⟨sl, X.1, X.2⟩ y)))⟩) :: X.1, X.2), ⟨fun j => rfl, fun j => ?_⟩, fun sl2 hle => ?_⟩
  ·simp only [adX, List.mem_cons]
   simp at hus
   constructor
   ·intro h; exact .inr h
   ·rintro (h | h)
    ·rw [h]; exact hus
    ·exact h
  ·obtain ⟨k1, k2⟩ := key sl2 hle
   have := Qn9 hΘ (o := o) (s := ⟨sl2, X.1, X.2⟩) hop hdst hti (by rw [k1]; exact hpt) (R := R) hR h1 (by rw [k2]; exact h2) (by rw [k2]; exact h3) (by rw [k2, hok2]; exact h4)
   rw [k2] at this
   exact this
 split at he
 ·rename_i x xs' _
  split at he
  case isFalse => cases he
  rename_i hok
  cases he
  obtain ⟨h1, h2, h3, h4, _⟩ := hp
  subst h2
  exact done x h1 h3 h4 hok
 ·rename_i x xs' _
  cases he
  obtain ⟨h1, h2, h3, h4, h5, _⟩ := hp
  subst h2
  exact done x h1 h3 h4 (Xfb h5)
 ·split at he
  case h_2 => cases he
  rename_i x hx
  split at he
  case isFalse => cases he
  rename_i h1
  split at he
  case isFalse => cases he
  rename_i h2
  split at he
  case isFalse => cases he
  rename_i h3
  cases he
  exact done x hx h2 h3 h1
 ·cases he
theorem Xk0 {E : Env} {ops : Array Oper} {o : Oper} {sl : List (Nat × AV)} {X Y Z : Xs} (hw : Qnr ops E.n o ⟨sl, X.1, X.2⟩ = some true) (h : ∀ sl2, Qty sl sl2 → Qnq E o ⟨sl2, X.1, X.2⟩ ⟨sl2, Y.1, Y.2⟩) (e : XE Y Z) : STn E ops o sl X Z := by
 intro sl2 hle a w Q K hr hk
 rw [if_pos (Qhw (Qsx hw hle) hr)]
 exact .inl (h sl2 hle a w hr K Q (fun a' w' hr' => hk a' w' (by obtain ⟨χ, hd, h0⟩ := hr'; exact ⟨χ, hd, h0.xe e⟩)))
def Xlw : Nat → List (List Bool)
 | 0 => [[]]
 | n + 1 => (Xlw n).flatMap fun bs => [false :: bs, true :: bs]
theorem Qwh : ∀ (bs : List Bool), bs ∈ Xlw bs.length
 | [] => by simp [Xlw]
 | b :: bs => by
  simp only [List.length_cons, Xlw, List.mem_flatMap]
  exact ⟨bs, Qwh bs, by cases b <;> simp⟩
def exAt (Θ : Tys) (P : Program) (n : Nat) (ops : Array Oper) (msk sl : List (Nat × AV)) (Ms : List Nat) (Ls : List (List (Nat × Option Qat))) (X0 : Xs) (rd : List (Nat × AV)) (i : Nat) (o : Oper) (d : Nat) (h : Hn) (r : AV) (bs : List Bool) : Option (List Prop) :=
  match Qnr ops n o ⟨Qce ops.toList rd o ++ (msk ++ sl), (stB X0 Ls bs).1, (stB X0 Ls bs).2⟩ with
  | some true => if Ms.contains i then (match exML Θ P n ⟨Qce ops.toList rd o ++ (msk ++ sl), (stB X0 Ls bs).1, (stB X0 Ls bs).2⟩ o d h, (Ms.zip Ls).lookup i with
      | some (r2, l, ps), some L => some ((r2 = r) :: (l = L) :: ps)
      | _, _ => none)
    else match exV Θ P n ⟨Qce ops.toList rd o ++ (msk ++ sl), (stB X0 Ls bs).1, (stB X0 Ls bs).2⟩ o d h with
      | some (r2, ps) => some ((r2 = r) :: ps)
      | none => none
  | some false => if Ms.contains i then none else if d < n then some [AV.lit undef = r] else none
  | none => none
theorem Xcm {E : Env} {Θ : Tys} (hΘ : TOK E.P Θ) {ops : Array Oper} {msk sl : List (Nat × AV)} {Ms : List Nat} {A : List (List Nat)} {Ls : List (List (Nat × Option Qat))} {X0 : Xs} {rd : List (Nat × AV)} {i : Nat} {o : Oper} {d : Nat} {h : Hn} {r : AV} {bs : List Bool} {ps : List Prop} (hd : o.dst = some d)
  (hn : Ms.Nodup) (h1 : Ls.length = Ms.length) (h2 : bs.length = Ms.length) (h3 : Xjc A Ms Ls = true) (hok : okS Ms A i bs = true) (he : exAt Θ E.P E.n ops msk sl Ms Ls X0 rd i o d h r bs = some ps) (hp : Qan ps) : STo E ops o (Qce ops.toList rd o ++ (msk ++ sl)) (stB X0 Ls bs) (stB X0 Ls (Xar i Ms bs)) d r := by
 have hbi : ∀ p ∈ Ms.zip bs, p.1 = i ∨ (Qrx A p.1).contains i = true → p.2 = false := by
  intro p hp' hpi
  unfold okS at hok
  have := List.all_eq_true.1 hok p hp'
  simp only [Bool.and_eq_true, Bool.or_eq_true, Bool.not_eq_true'] at this
  rcases this.1.2 with h | h
  ·exfalso
   rw [Bool.or_eq_false_iff] at h
   rcases hpi with e | e
   ·rw [e] at h; simp at h
   ·rw [e] at h; cases h.2
  ·exact h
 unfold exAt at he
 split at he
 ·rename_i hw
  split at he
  ·rename_i hM
   split at he
   case h_2 => cases he
   rename_i r2 l qs L hl hL
   cases he
   obtain ⟨e1, e2, e3⟩ := hp
   subst e1; subst e2
   obtain ⟨Y, hY, hXE⟩ := Xho hl
   have := Xdh hw (Qyr hΘ hd hY e3)
   exact this.xe (hXE.trans (Qxa hn h1 h2 h3 hL hbi))
  ·rename_i hM
   split at he
   case h_2 => cases he
   rename_i r2 qs hv
   cases he
   obtain ⟨e1, e3⟩ := hp
   subst e1
   rw [Qpy (by simpa using hM) h2]
   exact STo.of (Qwo hw (Qqd hΘ hd hv e3).2)
 ·rename_i hw
  split at he
  ·cases he
  rename_i hM
  split at he
  case isFalse => cases he
  rename_i hdn
  cases he
  obtain ⟨e1, _⟩ := hp
  subst e1
  rw [Qpy (by simpa using hM) h2]
  exact STo.of (Xb7 hd hdn hw)
 ·cases he
def Xk1 (Θ : Tys) (P : Program) (n : Nat) (ops : Array Oper) (msk sl : List (Nat × AV)) (Ms : List Nat) (Ls : List (List (Nat × Option Qat))) (X0 : Xs) (rd : List (Nat × AV)) (i : Nat) (o : Oper) (h : Hn) (bs : List Bool) : Option (List Prop) :=
 match Qnr ops n o ⟨Qce ops.toList rd o ++ (msk ++ sl), (stB X0 Ls bs).1, (stB X0 Ls bs).2⟩ with
 | some true => match exSt Θ ⟨Qce ops.toList rd o ++ (msk ++ sl), (stB X0 Ls bs).1, (stB X0 Ls bs).2⟩ o h, (Ms.zip Ls).lookup i with
  | some (l, ps), some L => some ((l = L) :: ps)
  | _, _ => none
 | _ => none
theorem Xad {E : Env} {Θ : Tys} (hΘ : TOK E.P Θ) {ops : Array Oper} {msk sl : List (Nat × AV)} {Ms : List Nat} {A : List (List Nat)} {Ls : List (List (Nat × Option Qat))} {X0 : Xs} {rd : List (Nat × AV)} {i : Nat} {o : Oper} {h : Hn} {bs : List Bool} {ps : List Prop}
  (hn : Ms.Nodup) (h1 : Ls.length = Ms.length) (h2 : bs.length = Ms.length) (h3 : Xjc A Ms Ls = true) (hok : okS Ms A i bs = true) (he : Xk1 Θ E.P E.n ops msk sl Ms Ls X0 rd i o h bs = some ps) (hp : Qan ps) : STn E ops o (Qce ops.toList rd o ++ (msk ++ sl)) (stB X0 Ls bs) (stB X0 Ls (Xar i Ms bs)) := by
 have hbi : ∀ p ∈ Ms.zip bs, p.1 = i ∨ (Qrx A p.1).contains i = true → p.2 = false := by
  intro p hp' hpi
  unfold okS at hok
  have := List.all_eq_true.1 hok p hp'
  simp only [Bool.and_eq_true, Bool.or_eq_true, Bool.not_eq_true'] at this
  rcases this.1.2 with h | h
  ·exfalso
   rw [Bool.or_eq_false_iff] at h
   rcases hpi with e | e
   ·rw [e] at h; simp at h
   ·rw [e] at h; cases h.2
  ·exact h
 unfold Xk1 at he
 split at he
 case h_2 => cases he
 rename_i hw
 split at he
 case h_2 => cases he
 rename_i l qs L hl hL
 cases he
 obtain ⟨e1, e3⟩ := hp
 subst e1
 obtain ⟨Y, hY, hop⟩ := Xbw hΘ hl e3
 exact Xk0 hw hop (hY.trans (Qxa hn h1 h2 h3 hL hbi))
def Xe8 (f : List Bool → Option (List Prop)) : List (List Bool) → Option (List Prop)
 | [] => some []
 | bs :: rest => match f bs, Xe8 f rest with
  | some ps, some qs => some (ps ++ qs)
  | _, _ => none
theorem Qo9 {f : List Bool → Option (List Prop)} : ∀ {l : List (List Bool)} {ps : List Prop}, Xe8 f l = some ps → Qan ps → ∀ bs ∈ l, ∃ qs, f bs = some qs ∧ Qan qs
 | [], ps, _, _, bs, h => by cases h
 | b :: l, ps, he, hp, bs, h => by
  simp only [Xe8] at he
  split at he
  case h_2 => cases he
  rename_i p1 p2 h1 h2
  cases he
  obtain ⟨q1, q2⟩ := Qaw hp
  rcases List.mem_cons.1 h with rfl | h
  ·exact ⟨_, h1, q1⟩
  ·exact Qo9 h2 q2 bs h
def Qz5 (Θ : Tys) (P : Program) (n : Nat) (ops : Array Oper) (msk sl : List (Nat × AV)) (Ms : List Nat) (A : List (List Nat)) (Ls : List (List (Nat × Option Qat))) (X0 : Xs) (rd : List (Nat × AV)) : List Oper → Nat → Nat → List Hn → Option (Nat × List Hn × List Prop)
 | [], i, k, hs => some (k, hs, [])
 | o :: rest, i, k, hs => match o.dst with
  | some d => match rd.lookup d with
   | some r => match Xe8 (exAt Θ P n ops msk sl Ms Ls X0 rd i o d (pop k hs).1 r) ((Xlw Ms.length).filter (okS Ms A i)) with
    | some ps => match Qz5 Θ P n ops msk sl Ms A Ls X0 rd rest (i + 1) (k + 1) (pop k hs).2 with
     | some (k', hs', qs) => some (k', hs', ps ++ qs)
     | none => none
    | none => none
   | none => none
  | none => match Xe8 (Xk1 Θ P n ops msk sl Ms Ls X0 rd i o (pop k hs).1) ((Xlw Ms.length).filter (okS Ms A i)) with
   | some ps => match Qz5 Θ P n ops msk sl Ms A Ls X0 rd rest (i + 1) (k + 1) (pop k hs).2 with
    | some (k', hs', qs) => some (k', hs', ps ++ qs)
    | none => none
   | none => none
theorem Qmp {E : Env} {Θ : Tys} (hΘ : TOK E.P Θ) {ops : Array Oper} {msk sl : List (Nat × AV)} {Ms : List Nat} {A : List (List Nat)} {Ls : List (List (Nat × Option Qat))} {X0 : Xs} {rd : List (Nat × AV)} (hn : Ms.Nodup) (h1 : Ls.length = Ms.length) (h3 : Xjc A Ms Ls = true) :
  ∀ {l : List Oper} {i k k' : Nat} {hs hs' : List Hn} {ps : List Prop}, Qz5 Θ E.P E.n ops msk sl Ms A Ls X0 rd l i k hs = some (k', hs', ps) → Qan ps →
  ∀ j o, l[j]? = some o → (∃ d r, o.dst = some d ∧ rd.lookup d = some r ∧ ∀ bs, bs.length = Ms.length → okS Ms A (i + j) bs = true → STo E ops o (Qce ops.toList rd o ++ (msk ++ sl)) (stB X0 Ls bs) (stB X0 Ls (Xar (i + j) Ms bs)) d r) ∨ (o.dst = none ∧ ∀ bs, bs.length = Ms.length → okS Ms A (i + j) bs = true → STn E ops o (Qce ops.toList rd o ++ (msk ++ sl)) (stB X0 Ls bs) (stB X0 Ls (Xar (i + j) Ms bs)))
 | [], i, k, k', hs, hs', ps, _, _, j, o, h => by simp at h
 | o0 :: rest, i, k, k', hs, hs', ps, he, hp, j, o, h => by
  simp only [Qz5] at he
  split at he
  ·rename_i d hd
   split at he
   case h_2 => cases he
   rename_i r hr
   split at he
   case h_2 => cases he
   rename_i p1 ha
   split at he
   case h_2 => cases he
   rename_i k2 hs2 p2 hrest
   cases he
   obtain ⟨q1, q2⟩ := Qaw hp
   cases j with
   | zero =>
    have : o0 = o := by simpa using h
    subst this
    refine .inl ⟨d, r, hd, hr, fun bs hb hok => ?_⟩
    obtain ⟨qs, e1, e2⟩ := Qo9 ha q1 bs (by rw [List.mem_filter]; exact ⟨by rw [← hb]; exact Qwh bs, by simpa using hok⟩)
    exact Xcm hΘ hd hn h1 hb h3 hok e1 e2
   | succ j =>
    have := Qmp hΘ hn h1 h3 hrest q2 j o (by simpa using h)
    rw [show i + 1 + j = i + (j + 1) by omega] at this
    exact this
  ·rename_i hd
   split at he
   case h_2 => cases he
   rename_i p1 ha
   split at he
   case h_2 => cases he
   rename_i k2 hs2 p2 hrest
   cases he
   obtain ⟨q1, q2⟩ := Qaw hp
   cases j with
   | zero =>
    have : o0 = o := by simpa using h
    subst this
    refine .inr ⟨hd, fun bs hb hok => ?_⟩
    obtain ⟨qs, e1, e2⟩ := Qo9 ha q1 bs (by rw [List.mem_filter]; exact ⟨by rw [← hb]; exact Qwh bs, by simpa using hok⟩)
    exact Xad hΘ hn h1 hb h3 hok e1 e2
   | succ j =>
    have := Qmp hΘ hn h1 h3 hrest q2 j o (by simpa using h)
    rw [show i + 1 + j = i + (j + 1) by omega] at this
    exact this
def Xdc (Θ : Tys) (P : Program) (n : Nat) (ops : Array Oper) (msk sl : List (Nat × AV)) (Ms : List Nat) : List Oper → Nat → Nat → Xs → List (Nat × AV) → List (List (Nat × Option Qat)) → List Hn → Option (List (Nat × AV) × List (List (Nat × Option Qat)))
 | [], i, k, X, done, Ls, hs => some (done, Ls)
 | o :: rest, i, k, X, done, Ls, hs => match o.dst with
  | some d => match Qnr ops n o ⟨Qce ops.toList done o ++ (msk ++ sl), X.1, X.2⟩ with
   | some true => if Ms.contains i then match exML Θ P n ⟨Qce ops.toList done o ++ (msk ++ sl), X.1, X.2⟩ o d (pop k hs).1 with
     | some (r, l, _) => Xdc Θ P n ops msk sl Ms rest (i + 1) (k + 1) (adX X l) ((d, r) :: done) (Ls ++ [l]) (pop k hs).2
     | none => none
    else match exV Θ P n ⟨Qce ops.toList done o ++ (msk ++ sl), X.1, X.2⟩ o d (pop k hs).1 with
     | some (r, _) => Xdc Θ P n ops msk sl Ms rest (i + 1) (k + 1) X ((d, r) :: done) Ls (pop k hs).2
     | none => none
   | some false => Xdc Θ P n ops msk sl Ms rest (i + 1) (k + 1) X ((d, .lit undef) :: done) Ls (pop k hs).2
   | none => none
  | none => if Ms.contains i then match exSt Θ ⟨Qce ops.toList done o ++ (msk ++ sl), X.1, X.2⟩ o (pop k hs).1 with
    | some (l, _) => Xdc Θ P n ops msk sl Ms rest (i + 1) (k + 1) (adX X l) done (Ls ++ [l]) (pop k hs).2
    | none => none
   else none
def exDS (Θ : Tys) (P : Program) (n : Nat) (ops : Array Oper) (m k : Nat) (s : St) (Ms : List Nat) (A : List (List Nat)) (hs : List Hn) : Option (Nat × St × List Hn × List Prop) :=
 if Xkn ops.toList m && Xbx ops.toList m A && Region.seqB .any ops (ops.toList.length - m) m (Qn4 ops.toList.length m) && Xd0 ops.toList m A && Ms.all (fun i => decide (i < m)) && decide (Ms.Nodup) then
  match Xdc Θ P n ops (Qg2 (ops.toList.take m)) s.sl Ms (ops.toList.take m) 0 k (s.rt, s.us) [] [] hs with
  | some (rd, Ls) => if rdB ops.toList m rd && decide (Ls.length = Ms.length) && Xjc A Ms Ls then match Qz5 Θ P n ops (Qg2 (ops.toList.take m)) s.sl Ms A Ls (s.rt, s.us) rd (ops.toList.take m) 0 k hs with
   | some (k3, hs3, ts) => match Qwi Θ P n ops (ops.toList.drop m) k3 ⟨rd ++ s.sl, (stB (s.rt, s.us) Ls (Ms.map fun _ => true)).1, (stB (s.rt, s.us) Ls (Ms.map fun _ => true)).2⟩ hs3 with
    | some (k4, s4, hs4, us) => some (k4, s4, hs4, ts ++ us)
    | none => none
   | none => none
   else none
  | none => none
 else none
theorem Xg2 {X : Xs} {Ms : List Nat} : ∀ (Ls : List (List (Nat × Option Qat))), stB X Ls (Ms.map fun _ => false) = X := by
 induction Ms with
 | nil => intro Ls; cases Ls <;> rfl
 | cons k Ms ih => intro Ls; cases Ls with
  | nil => rfl
  | cons l Ls => simp only [List.map_cons, stB]; exact ih Ls
theorem Xck {E : Env} {Θ : Tys} (hΘ : TOK E.P Θ) (hmo : E.P.follows .mixedOrders = true) {id : Nat} {ops : Array Oper} {m k k' : Nat} {s s' : St} {Ms : List Nat} {A : List (List Nat)} {hs hs' : List Hn} {ps : List Prop} (h : exDS Θ E.P E.n ops m k s Ms A hs = some (k', s', hs', ps)) (hp : Qan ps) {Q : Exit → St → Prop} (hq : Q .normal s') : TWp E (.region id ops true) Q s := by
 unfold exDS at h
 split at h
 case isFalse => cases h
 rename_i hok
 simp only [Bool.and_eq_true, decide_eq_true_eq] at hok
 obtain ⟨⟨⟨⟨⟨hh, ht⟩, hseq⟩, hA⟩, hMs⟩, hMn⟩ := hok
 split at h
 case h_2 => cases h
 rename_i rd Ls he
 split at h
 case isFalse => cases h
 rename_i hok2
 simp only [Bool.and_eq_true, decide_eq_true_eq] at hok2
 obtain ⟨⟨hrd, hL⟩, hK⟩ := hok2
 split at h
 case h_2 => cases h
 rename_i k3 hs3 ts hx
 split at h
 case h_2 => cases h
 rename_i k4 s4 hs4 us ho
 cases h
 obtain ⟨h3, h4⟩ := Qaw hp
 obtain ⟨sl, rt, us0⟩ := s
 have hone : Xhs E ops.toList m sl (stB (rt, us0) Ls) Ms A rd := by
  intro i o hi ho'
  have := Qmp hΘ hMn hL hK hx h3 i o (by rw [List.getElem?_take, if_pos hi]; exact ho')
  rw [Nat.zero_add] at this
  exact this
 have := Xc9 (E := E) (id := id) (ops := ops) (Q := Q) m hmo hh ht hseq hA hMs hMn hrd hone (Qi9 hΘ ho h4 hq)
 rw [Xg2] at this
 exact this
def chB (A : List (List Nat)) : List Nat → Bool
 | a :: b :: l => (Qrx A b).contains a && chB A (b :: l)
 | _ => true
def Xka (o : Oper) : Bool := match o.op, o.dst with
 | .store _ _ _, none => true
 | _, _ => false
def msN (ops : Array Oper) (k m : Nat) (hs : List Hn) : List Nat := if (ops.toList.take m).any Xka then (List.range m).filter fun i => hs.any (fun h => h.k == k + i && Xj3 h.h) || (match ops.toList[i]? with | some o => Xka o | none => false) else msOf k m hs
def Xlu (Θ : Tys) (P : Program) (n : Nat) (ops : Array Oper) (draw : Bool) (k : Nat) (s : St) (hs : List Hn) : Option (Nat × St × List Hn × List Prop) :=
  if draw then match ghs k hs s with
    | some (s1, hs1, ps) => if ops.toList.any memOp || decide ((msN ops k (Xa3 ops) hs1).length ≠ 0) || !Qvx ops (Xgd ops) then (if chB (Qzd ops.toList []) (msN ops k (Xa3 ops) hs1) && !(ops.toList.take (Xa3 ops)).any Xka then (match exDM Θ P n ops (Xa3 ops) k s1 (msN ops k (Xa3 ops) hs1) (Qzd ops.toList []) hs1 with
      | some (k3, s3, hs3, rs) => some (k3, s3, hs3, ps ++ rs)
      | none => none)
      else (match exDS Θ P n ops (Xa3 ops) k s1 (msN ops k (Xa3 ops) hs1) (Qzd ops.toList []) hs1 with
      | some (k3, s3, hs3, rs) => some (k3, s3, hs3, ps ++ rs)
      | none => none))
      else if Qvx ops (Xgd ops) then match Qvg Θ P n ops s1.sl s1.rt s1.us (ops.toList.take (ops.toList.length - Xgd ops)) k [] hs1 with
      | some (k2, rd, hs2, qs) => match Qwi Θ P n ops (ops.toList.drop (ops.toList.length - Xgd ops)) k2 ⟨rd ++ s1.sl, s1.rt, s1.us⟩ hs2 with
        | some (k3, s3, hs3, rs) => some (k3, s3, hs3, ps ++ (qs ++ rs))
        | none => none
      | none => none
      else none
    | none => none
  else Qwi Θ P n ops ops.toList k s hs
theorem Xaf {E : Env} {Θ : Tys} (hΘ : TOK E.P Θ) (hm : E.P.follows .mixedOrders = true) {id : Nat} {ops : Array Oper} {draw : Bool} {k k' : Nat} {s s' : St} {hs hs' : List Hn} {ps : List Prop} (h : Xlu Θ E.P E.n ops draw k s hs = some (k', s', hs', ps)) (hp : Qan ps) {Q : Exit → St → Prop} (hq : Q .normal s') : TWp E (.region id ops draw) Q s := by
 unfold Xlu at h
 split at h
 ·rename_i hdr
  subst hdr
  split at h
  case h_2 => cases h
  rename_i s1 hs1 qs hg
  split at h
  ·split at h
   ·split at h
    case h_2 => cases h
    rename_i k3 s3 hs3 rs hx
    cases h
    obtain ⟨h1, h2⟩ := Qaw hp
    exact Qtw (Qhn hg h1) (Xcu hΘ hm hx h2 hq)
   ·split at h
    case h_2 => cases h
    rename_i k3 s3 hs3 rs hx
    cases h
    obtain ⟨h1, h2⟩ := Qaw hp
    exact Qtw (Qhn hg h1) (Xck hΘ hm hx h2 hq)
  split at h
  case isFalse => cases h
  rename_i hok
  simp only [Qvx, Bool.and_eq_true] at hok
  split at h
  case h_2 => cases h
  rename_i k2 rd hs2 rs hh
  split at h
  case h_2 => cases h
  rename_i k3 s3 hs3 ts ho
  cases h
  obtain ⟨h1, h2⟩ := Qaw hp
  obtain ⟨h3, h4⟩ := Qaw h2
  refine Qtw (Qhn hg h1) ?_
  obtain ⟨sl, rt, us⟩ := s1
  exact Xdj (Xgd ops) hm hok.1.1 hok.1.2 hok.2 (Qmn hΘ hh h3) (Qi9 hΘ ho h4 hq)
 ·rename_i hdr
  have : draw = false := by simpa using hdr
  subst this
  exact Xgh (Qi9 hΘ h hp hq)
end Go.T
set_option linter.unusedVariables false
namespace Go.T
open Go Go.RowKit Go.Proofs
def LWw (P : Program) (c : Code) (Q : Exit → Act → World → Prop) (a : Act) (w : World) : Prop :=
 ∀ (b : Frame) (k : List Item) (cs : List Frame), ∃ e a' w', Q e a' w' ∧ Arrives P (lone (b.at a (.code c :: .inLoop c :: k)) cs w) b k cs e a' w'
theorem Xh9 {P : Program} {c : Code} {Q : Exit → Act → World → Prop} {a : Act} {w : World} (h : LWw P c Q a w) : (Code.loop c).wp P Q a w := by
 intro b k cs
 obtain ⟨e, a', w', hq, harr⟩ := h b k cs
 exact ⟨e, a', w', hq, .of_steps (.one step_loop) harr⟩
theorem Xe6 {P : Program} {c : Code} {Q : Exit → Act → World → Prop} {a : Act} {w : World} (h : c.wp P (Exit.then (LWw P c Q) Q) a w) : LWw P c Q a w := by
 intro b k cs
 obtain ⟨e, a₁, w₁, hq, harr⟩ := h b (.inLoop c :: k) cs
 cases e with
 | normal =>
  obtain ⟨e₂, a₂, w₂, hq₂, harr₂⟩ := hq b k cs
  exact ⟨e₂, a₂, w₂, hq₂, .of_steps (Steps.trans harr (.one step_inLoop)) harr₂⟩
 | exit id => exact ⟨_, a₁, w₁, hq, .pass (x := .inLoop c) rfl (fun _ _ => .inl (by simp)) harr⟩
 | goto l => exact ⟨_, a₁, w₁, hq, .pass (x := .inLoop c) rfl (fun _ _ => .inl (by simp)) harr⟩
 | ret => exact ⟨_, a₁, w₁, hq, .pass (x := .inLoop c) rfl (fun _ _ => .inl (by simp)) harr⟩
 | panic ch => exact ⟨_, a₁, w₁, hq, .pass (x := .inLoop c) rfl (fun _ _ => .inl (by simp)) harr⟩
 | outgrown => exact ⟨_, a₁, w₁, hq, .pass (x := .inLoop c) rfl (fun _ _ => .inl (by simp)) harr⟩
def LW (E : Env) (c : Code) (Q : Exit → St → Prop) (s : St) : Prop := ∀ a w, Rel E s a w → LWw E.P c (fun e a' w' => ∃ s', Q e s' ∧ Rel E s' a' w') a w
theorem Xjk {E : Env} {c : Code} {Q : Exit → St → Prop} {s : St} (h : LW E c Q s) : TWp E (.loop c) Q s := fun a w hr => Xh9 (h a w hr)
theorem Xh5 {E : Env} {c : Code} {Q : Exit → St → Prop} {s : St} (h : TWp E c (thn (LW E c Q) Q) s) : LW E c Q s := by
 intro a w hr
 refine Xe6 (wp_mono (h a w hr) ?_)
 rintro e a' w' ⟨s', h1, h2⟩
 cases e with
 | normal => exact h1 a' w' h2
 | _ => exact ⟨s', h1, h2⟩
def cAt : Code → List Bool → Option Code
 | c, [] => some c
 | .seq a _, false :: p => cAt a p
 | .seq _ b, true :: p => cAt b p
 | .cond _ a _, false :: p => cAt a p
 | .cond _ _ b, true :: p => cAt b p
 | .block _ b, false :: p => cAt b p
 | .loop b, false :: p => cAt b p
 | _, _ => none
def kAt (E : Env) : Code → List Bool → (Exit → St → Prop) → Exit → St → Prop
 | _, [], Q => Q
 | .seq a b, false :: p, Q => kAt E a p (thn (TWp E b Q) Q)
 | .seq _ b, true :: p, Q => kAt E b p Q
 | .cond _ a _, false :: p, Q => kAt E a p Q
 | .cond _ _ b, true :: p, Q => kAt E b p Q
 | .block id b, false :: p, Q => kAt E b p (inB id Q)
 | .loop b, false :: p, Q => kAt E b p (thn (LW E b Q) Q)
 | _, _, Q => Q
def nxt : Code → List Bool → Option (List Bool)
 | _, [] => none
 | .seq a _, false :: p => match nxt a p with
  | some q => some (false :: q)
  | none => some [true]
 | .seq _ b, true :: p => (nxt b p).map (true :: ·)
 | .cond _ a _, false :: p => (nxt a p).map (false :: ·)
 | .cond _ _ b, true :: p => (nxt b p).map (true :: ·)
 | .block _ b, false :: p => (nxt b p).map (false :: ·)
 | .loop b, false :: p => match nxt b p with
  | some q => some (false :: q)
  | none => some []
 | _, _ => none
def ext (id : Nat) : Code → List Bool → Option (Option (List Bool))
 | _, [] => none
 | .seq a _, false :: p => match ext id a p with
  | some (some q) => some (some (false :: q))
  | some none => some (some [true])
  | none => none
 | .seq _ b, true :: p => (ext id b p).map (Option.map (true :: ·))
 | .cond _ a _, false :: p => (ext id a p).map (Option.map (false :: ·))
 | .cond _ _ b, true :: p => (ext id b p).map (Option.map (true :: ·))
 | .block i b, false :: p => match ext id b p with
  | some q => some (q.map (false :: ·))
  | none => if id = i then some none else none
 | .loop b, false :: p => match ext id b p with
  | some (some q) => some (some (false :: q))
  | some none => some (some [])
  | none => none
 | _, _ => none
def WAt (E : Env) (c : Code) (Q : Exit → St → Prop) (p : List Bool) (s : St) : Prop :=
 match cAt c p with
 | some (.loop b) => LW E b (kAt E c p Q) s
 | some d => TWp E d (kAt E c p Q) s
 | none => False
theorem Qmi {E : Env} {c d : Code} {Q : Exit → St → Prop} {p : List Bool} {s : St} (hc : cAt c p = some d) (h : WAt E c Q p s) : TWp E d (kAt E c p Q) s := by
 unfold WAt at h
 rw [hc] at h
 split at h
 ·rename_i hd; cases hd; exact Xjk h
 ·rename_i hd; cases hd; exact h
 ·cases ‹some d = none›
theorem Qrp {E : Env} {c d : Code} {Q : Exit → St → Prop} {p : List Bool} {s : St} (hc : cAt c p = some d) (hd : ∀ b, d ≠ .loop b) (h : TWp E d (kAt E c p Q) s) : WAt E c Q p s := by
 unfold WAt
 rw [hc]
 split
 ·rename_i he; cases he; exact absurd rfl (hd _)
 ·rename_i he; cases he; exact h
 ·cases ‹some d = none›
theorem Xb5 {E : Env} {c : Code} {Q : Exit → St → Prop} {s : St} (h : WAt E c Q [] s) : TWp E c Q s := by
 have h1 : cAt c [] = some c := by cases c <;> rfl
 have h2 : kAt E c [] Q = Q := by cases c <;> rfl
 have := Qmi h1 h
 rwa [h2] at this
def WN (E : Env) (c : Code) (Q : Exit → St → Prop) (p : Option (List Bool)) (s : St) : Prop :=
 match p with
 | some p => WAt E c Q p s
 | none => Q .normal s
theorem Qmu {E : Env} {c d : Code} {Q Q' : Exit → St → Prop} {b : Bool} (hc : ∀ p, cAt c (b :: p) = cAt d p) (hk : ∀ p, kAt E c (b :: p) Q = kAt E d p Q') (hq : ∀ s, Q .normal s → Q' .normal s) {p : Option (List Bool)} {s : St} (h : WN E c Q (p.map (b :: ·)) s) : WN E d Q' p s := by
 cases p with
 | none => exact hq s h
 | some p =>
  simp only [Option.map_some, WN, WAt, hc, hk] at h ⊢
  exact h
theorem Qhl {E : Env} : ∀ {c : Code} {p : List Bool} {Q : Exit → St → Prop} {s : St}, WN E c Q (nxt c p) s → kAt E c p Q .normal s
 | c, [], Q, s, h => by cases c <;> exact h
 | .seq a b, false :: p, Q, s, h => by
  simp only [kAt]
  refine Qhl ?_
  simp only [nxt] at h
  cases hn : nxt a p with
  | none =>
   rw [hn] at h
   have := Qmi (d := b) (by cases b <;> rfl) h
   have h2 : kAt E (.seq a b) [true] Q = Q := by cases b <;> rfl
   rw [h2] at this
   exact this
  | some q => rw [hn] at h; exact h
 | .seq a b, true :: p, Q, s, h => by simp only [kAt]; exact Qhl (Qmu (fun _ => rfl) (fun _ => rfl) (fun _ h => h) h)
 | .cond _ a b, false :: p, Q, s, h => by simp only [kAt]; exact Qhl (Qmu (fun _ => rfl) (fun _ => rfl) (fun _ h => h) h)
 | .cond _ a b, true :: p, Q, s, h => by simp only [kAt]; exact Qhl (Qmu (fun _ => rfl) (fun _ => rfl) (fun _ h => h) h)
 | .block id b, false :: p, Q, s, h => by simp only [kAt]; simp only [nxt] at h; exact Qhl (Qmu (c := .block id b) (Q := Q) (Q' := inB id Q) (fun _ => rfl) (fun _ => rfl) (fun _ h => h) h)
 | .loop b, false :: p, Q, s, h => by
  simp only [kAt]
  refine Qhl ?_
  simp only [nxt] at h
  cases hn : nxt b p with
  | none => rw [hn] at h; exact h
  | some q => rw [hn] at h; exact h
 | .block id b, true :: p, Q, s, h => by simpa only [kAt, nxt, WN] using h
 | .loop b, true :: p, Q, s, h => by simpa only [kAt, nxt, WN] using h
 | .skip, _ :: _, Q, s, h => by simpa only [kAt, nxt, WN] using h
 | .region _ _ _, _ :: _, Q, s, h => by simpa only [kAt, nxt, WN] using h
 | .rangeFunc _ _ _ _, _ :: _, Q, s, h => by simpa only [kAt, nxt, WN] using h
 | .exit _, _ :: _, Q, s, h => by simpa only [kAt, nxt, WN] using h
 | .scope _, _ :: _, Q, s, h => by simpa only [kAt, nxt, WN] using h
 | .label _, _ :: _, Q, s, h => by simpa only [kAt, nxt, WN] using h
 | .goto _, _ :: _, Q, s, h => by simpa only [kAt, nxt, WN] using h
 | .ret, _ :: _, Q, s, h => by simpa only [kAt, nxt, WN] using h
 | .refuse _, _ :: _, Q, s, h => by simpa only [kAt, nxt, WN] using h
theorem Qhe {E : Env} {id : Nat} : ∀ {c : Code} {p : List Bool} {Q : Exit → St → Prop} {s : St} {q : Option (List Bool)}, ext id c p = some q → WN E c Q q s → kAt E c p Q (.exit id) s
 | c, [], Q, s, q, h, _ => by cases c <;> simp [ext] at h
 | .seq a b, false :: p, Q, s, q, h, hw => by
  simp only [kAt]
  simp only [ext] at h
  split at h
  ·rename_i q' he; cases h; exact Qhe he hw
  ·rename_i he
   cases h
   refine Qhe he ?_
   have := Qmi (d := b) (by cases b <;> rfl) hw
   have h2 : kAt E (.seq a b) [true] Q = Q := by cases b <;> rfl
   rw [h2] at this
   exact this
  ·cases h
 | .seq a b, true :: p, Q, s, q, h, hw => by
  simp only [kAt]
  simp only [ext, Option.map_eq_some_iff] at h
  obtain ⟨q', he, rfl⟩ := h
  exact Qhe he (Qmu (fun _ => rfl) (fun _ => rfl) (fun _ h => h) hw)
 | .cond _ a b, false :: p, Q, s, q, h, hw => by
  simp only [kAt]
  simp only [ext, Option.map_eq_some_iff] at h
  obtain ⟨q', he, rfl⟩ := h
  exact Qhe he (Qmu (fun _ => rfl) (fun _ => rfl) (fun _ h => h) hw)
 | .cond _ a b, true :: p, Q, s, q, h, hw => by
  simp only [kAt]
  simp only [ext, Option.map_eq_some_iff] at h
  obtain ⟨q', he, rfl⟩ := h
  exact Qhe he (Qmu (fun _ => rfl) (fun _ => rfl) (fun _ h => h) hw)
 | .block i b, false :: p, Q, s, q, h, hw => by
  simp only [kAt]
  simp only [ext] at h
  split at h
  ·rename_i q' he
   cases h
   exact Qhe he (Qmu (c := .block i b) (Q := Q) (Q' := inB i Q) (fun _ => rfl) (fun _ => rfl) (fun _ h => h) hw)
  ·rename_i he
   split at h
   case isFalse => cases h
   rename_i hi
   cases h
   refine ext_none he ?_
   simp only [inB]
   rw [if_pos hi]
   exact hw
 | .loop b, false :: p, Q, s, q, h, hw => by
  simp only [kAt]
  simp only [ext] at h
  split at h
  ·rename_i q' he; cases h; exact Qhe he hw
  ·rename_i he; cases h; exact Qhe he hw
  ·cases h
 | .block id b, true :: p, Q, s, q, h, _ => by simp [ext] at h
 | .loop b, true :: p, Q, s, q, h, _ => by simp [ext] at h
 | .skip, _ :: _, Q, s, q, h, _ => by simp [ext] at h
 | .region _ _ _, _ :: _, Q, s, q, h, _ => by simp [ext] at h
 | .rangeFunc _ _ _ _, _ :: _, Q, s, q, h, _ => by simp [ext] at h
 | .exit _, _ :: _, Q, s, q, h, _ => by simp [ext] at h
 | .scope _, _ :: _, Q, s, q, h, _ => by simp [ext] at h
 | .label _, _ :: _, Q, s, q, h, _ => by simp [ext] at h
 | .goto _, _ :: _, Q, s, q, h, _ => by simp [ext] at h
 | .ret, _ :: _, Q, s, q, h, _ => by simp [ext] at h
 | .refuse _, _ :: _, Q, s, q, h, _ => by simp [ext] at h where
 ext_none {E : Env} {id : Nat} : ∀ {c : Code} {p : List Bool} {Q : Exit → St → Prop} {s : St}, ext id c p = none → Q (.exit id) s → kAt E c p Q (.exit id) s
 | c, [], Q, s, h, hq => by cases c <;> exact hq
 | .seq a b, false :: p, Q, s, h, hq => by
  simp only [kAt]
  simp only [ext] at h
  split at h
  ·cases h
  ·cases h
  ·rename_i he; exact ext_none he hq
 | .seq a b, true :: p, Q, s, h, hq => by
  simp only [kAt]
  simp only [ext, Option.map_eq_none_iff] at h
  exact ext_none h hq
 | .cond _ a b, false :: p, Q, s, h, hq => by
  simp only [kAt]
  simp only [ext, Option.map_eq_none_iff] at h
  exact ext_none h hq
 | .cond _ a b, true :: p, Q, s, h, hq => by
  simp only [kAt]
  simp only [ext, Option.map_eq_none_iff] at h
  exact ext_none h hq
 | .block i b, false :: p, Q, s, h, hq => by
  simp only [kAt]
  simp only [ext] at h
  split at h
  ·cases h
  ·rename_i he
   split at h
   ·cases h
   ·rename_i hi
    refine ext_none he ?_
    simp only [inB]
    rw [if_neg hi]; exact hq
 | .loop b, false :: p, Q, s, h, hq => by
  simp only [kAt]
  simp only [ext] at h
  split at h
  ·cases h
  ·cases h
  ·rename_i he; exact ext_none he hq
 | .block id b, true :: p, Q, s, h, hq => by simpa only [kAt] using hq
 | .loop b, true :: p, Q, s, h, hq => by simpa only [kAt] using hq
 | .skip, _ :: _, Q, s, h, hq => by simpa only [kAt] using hq
 | .region _ _ _, _ :: _, Q, s, h, hq => by simpa only [kAt] using hq
 | .rangeFunc _ _ _ _, _ :: _, Q, s, h, hq => by simpa only [kAt] using hq
 | .exit _, _ :: _, Q, s, h, hq => by simpa only [kAt] using hq
 | .scope _, _ :: _, Q, s, h, hq => by simpa only [kAt] using hq
 | .label _, _ :: _, Q, s, h, hq => by simpa only [kAt] using hq
 | .goto _, _ :: _, Q, s, h, hq => by simpa only [kAt] using hq
 | .ret, _ :: _, Q, s, h, hq => by simpa only [kAt] using hq
 | .refuse _, _ :: _, Q, s, h, hq => by simpa only [kAt] using hq
theorem Qkf {E : Env} : ∀ {c : Code} {p : List Bool} {Q : Exit → St → Prop} {s : St}, Q .ret s → kAt E c p Q .ret s
 | c, [], Q, s, hq => by cases c <;> exact hq
 | .seq a b, false :: p, Q, s, hq => by simp only [kAt]; exact Qkf hq
 | .seq a b, true :: p, Q, s, hq => by simp only [kAt]; exact Qkf hq
 | .cond _ a b, false :: p, Q, s, hq => by simp only [kAt]; exact Qkf hq
 | .cond _ a b, true :: p, Q, s, hq => by simp only [kAt]; exact Qkf hq
 | .block i b, false :: p, Q, s, hq => by simp only [kAt]; exact Qkf hq
 | .loop b, false :: p, Q, s, hq => by simp only [kAt]; exact Qkf hq
 | .block id b, true :: p, Q, s, hq => by simpa only [kAt] using hq
 | .loop b, true :: p, Q, s, hq => by simpa only [kAt] using hq
 | .skip, _ :: _, Q, s, hq => by simpa only [kAt] using hq
 | .region _ _ _, _ :: _, Q, s, hq => by simpa only [kAt] using hq
 | .rangeFunc _ _ _ _, _ :: _, Q, s, hq => by simpa only [kAt] using hq
 | .exit _, _ :: _, Q, s, hq => by simpa only [kAt] using hq
 | .scope _, _ :: _, Q, s, hq => by simpa only [kAt] using hq
 | .label _, _ :: _, Q, s, hq => by simpa only [kAt] using hq
 | .goto _, _ :: _, Q, s, hq => by simpa only [kAt] using hq
 | .ret, _ :: _, Q, s, hq => by simpa only [kAt] using hq
 | .refuse _, _ :: _, Q, s, hq => by simpa only [kAt] using hq
theorem Qjs : ∀ {c : Code} {p q : List Bool} {d : Code}, cAt c p = some d → cAt c (p ++ q) = cAt d q
 | c, [], q, d, h => by cases c <;> (simp only [cAt] at h; cases h; rfl)
 | .seq a b, false :: p, q, d, h => by simp only [cAt, List.cons_append] at h ⊢; exact Qjs h
 | .seq a b, true :: p, q, d, h => by simp only [cAt, List.cons_append] at h ⊢; exact Qjs h
 | .cond _ a b, false :: p, q, d, h => by simp only [cAt, List.cons_append] at h ⊢; exact Qjs h
 | .cond _ a b, true :: p, q, d, h => by simp only [cAt, List.cons_append] at h ⊢; exact Qjs h
 | .block i b, false :: p, q, d, h => by simp only [cAt, List.cons_append] at h ⊢; exact Qjs h
 | .loop b, false :: p, q, d, h => by simp only [cAt, List.cons_append] at h ⊢; exact Qjs h
 | .block id b, true :: p, q, d, h => by simp [cAt] at h
 | .loop b, true :: p, q, d, h => by simp [cAt] at h
 | .skip, _ :: _, q, d, h => by simp [cAt] at h
 | .region _ _ _, _ :: _, q, d, h => by simp [cAt] at h
 | .rangeFunc _ _ _ _, _ :: _, q, d, h => by simp [cAt] at h
 | .exit _, _ :: _, q, d, h => by simp [cAt] at h
 | .scope _, _ :: _, q, d, h => by simp [cAt] at h
 | .label _, _ :: _, q, d, h => by simp [cAt] at h
 | .goto _, _ :: _, q, d, h => by simp [cAt] at h
 | .ret, _ :: _, q, d, h => by simp [cAt] at h
 | .refuse _, _ :: _, q, d, h => by simp [cAt] at h
theorem Qk9 {E : Env} : ∀ {c : Code} {p q : List Bool} {d : Code} {Q : Exit → St → Prop}, cAt c p = some d → kAt E c (p ++ q) Q = kAt E d q (kAt E c p Q)
 | c, [], q, d, Q, h => by cases c <;> (simp only [cAt] at h; cases h; rfl)
 | .seq a b, false :: p, q, d, Q, h => by simp only [cAt, kAt, List.cons_append] at h ⊢; exact Qk9 h
 | .seq a b, true :: p, q, d, Q, h => by simp only [cAt, kAt, List.cons_append] at h ⊢; exact Qk9 h
 | .cond _ a b, false :: p, q, d, Q, h => by simp only [cAt, kAt, List.cons_append] at h ⊢; exact Qk9 h
 | .cond _ a b, true :: p, q, d, Q, h => by simp only [cAt, kAt, List.cons_append] at h ⊢; exact Qk9 h
 | .block i b, false :: p, q, d, Q, h => by simp only [cAt, kAt, List.cons_append] at h ⊢; exact Qk9 h
 | .loop b, false :: p, q, d, Q, h => by simp only [cAt, kAt, List.cons_append] at h ⊢; exact Qk9 h
 | .block id b, true :: p, q, d, Q, h => by simp [cAt] at h
 | .loop b, true :: p, q, d, Q, h => by simp [cAt] at h
 | .skip, _ :: _, q, d, Q, h => by simp [cAt] at h
 | .region _ _ _, _ :: _, q, d, Q, h => by simp [cAt] at h
 | .rangeFunc _ _ _ _, _ :: _, q, d, Q, h => by simp [cAt] at h
 | .exit _, _ :: _, q, d, Q, h => by simp [cAt] at h
 | .scope _, _ :: _, q, d, Q, h => by simp [cAt] at h
 | .label _, _ :: _, q, d, Q, h => by simp [cAt] at h
 | .goto _, _ :: _, q, d, Q, h => by simp [cAt] at h
 | .ret, _ :: _, q, d, Q, h => by simp [cAt] at h
 | .refuse _, _ :: _, q, d, Q, h => by simp [cAt] at h
end Go.T
set_option linter.unusedVariables false
namespace Go.T
open Go Go.RowKit Go.Proofs
def FQ (R : St → Prop) : Exit → St → Prop := fun e s => (e = .normal ∨ e = .ret) ∧ R s
theorem Qti {E : Env} {c : Code} {Q : Exit → St → Prop} : kAt E c [] Q = Q := by cases c <;> rfl
theorem Qu6 {c : Code} : cAt c [] = some c := by cases c <;> rfl
theorem Xh6 {E : Env} {c a b : Code} {Q : Exit → St → Prop} {p : List Bool} {s : St} (hc : cAt c p = some (.seq a b)) (h : WAt E c Q (p ++ [false]) s) : WAt E c Q p s := by
 refine Qrp hc (by simp) (Xjq ?_)
 have h1 : cAt c (p ++ [false]) = some a := by rw [Qjs hc]; simp only [cAt, Qu6]
 have := Qmi h1 h
 rw [Qk9 hc] at this
 simpa only [kAt, Qti] using this
theorem Xbz {E : Env} {c b : Code} {id : Nat} {Q : Exit → St → Prop} {p : List Bool} {s : St} (hc : cAt c p = some (.block id b)) (h : WAt E c Q (p ++ [false]) s) : WAt E c Q p s := by
 refine Qrp hc (by simp) (Xf5 ?_)
 have h1 : cAt c (p ++ [false]) = some b := by rw [Qjs hc]; simp only [cAt, Qu6]
 have := Qmi h1 h
 rw [Qk9 hc] at this
 simpa only [kAt, Qti] using this
theorem Xf6 {E : Env} {c b : Code} {Q : Exit → St → Prop} {p : List Bool} {s : St} (hc : cAt c p = some (.loop b)) (h : WAt E c Q (p ++ [false]) s) : WAt E c Q p s := by
 have h1 : cAt c (p ++ [false]) = some b := by rw [Qjs hc]; simp only [cAt, Qu6]
 have := Qmi h1 h
 rw [Qk9 hc] at this
 simp only [kAt, Qti] at this
 unfold WAt
 rw [hc]
 exact Xh5 this
theorem Qy0 {E : Env} {c x y : Code} {o : Operand} {Q : Exit → St → Prop} {p : List Bool} {s : St} {v : Bool} (hc : cAt c p = some (.cond o x y)) (hv : Qar s o = .lit (.bool v)) (h : WAt E c Q (p ++ [!v]) s) : WAt E c Q p s := by
 refine Qrp hc (by simp) (Xhp hv (fun hb => ?_) (fun hb => ?_))
 ·subst hb
  have h1 : cAt c (p ++ [false]) = some x := by rw [Qjs hc]; simp only [cAt, Qu6]
  have := Qmi h1 h
  rw [Qk9 hc] at this
  simpa only [kAt, Qti] using this
 ·subst hb
  have h1 : cAt c (p ++ [true]) = some y := by rw [Qjs hc]; simp only [cAt, Qu6]
  have := Qmi h1 h
  rw [Qk9 hc] at this
  simpa only [kAt, Qti] using this
def lB : List Bool → List Bool → Bool
 | [], [] => true
 | true :: p, true :: q => lB p q
 | false :: p, false :: q => lB p q
 | _, _ => false
theorem Xld : ∀ {p q : List Bool}, lB p q = true → p = q
 | [], [], _ => rfl
 | true :: p, true :: q, h => by rw [Xld (p := p) (q := q) h]
 | false :: p, false :: q, h => by rw [Xld (p := p) (q := q) h]
 | [], _ :: _, h => by simp [lB] at h
 | _ :: _, [], h => by simp [lB] at h
 | true :: _, false :: _, h => by simp [lB] at h
 | false :: _, true :: _, h => by simp [lB] at h
def oB : Option (List Bool) → Option (List Bool) → Bool
 | none, none => true
 | some p, some q => lB p q
 | _, _ => false
theorem oB_eq {p q : Option (List Bool)} (h : oB p q = true) : p = q := by
 cases p <;> cases q <;> simp only [oB] at h
 ·rfl
 ·cases h
 ·cases h
 ·rw [Xld h]
def Xb6 (Θ : Tys) (P : Program) (n : Nat) (body : Code) (tgt : Option (List Bool)) : Nat → Bool → Option (List Bool) → Nat → St → List Hn → Option (Nat × St × List Hn × List Prop)
 | 0, _, _, _, _, _ => none
 | f + 1, st, pt, k, s, hs =>
  if st && oB pt tgt then some (k, s, hs, []) else
  match pt with
  | none => none
  | some p => match cAt body p with
   | some (.seq _ _) => Xb6 Θ P n body tgt f true (some (p ++ [false])) k s hs
   | some (.block _ _) => Xb6 Θ P n body tgt f true (some (p ++ [false])) k s hs
   | some (.loop _) => Xb6 Θ P n body tgt f true (some (p ++ [false])) k s hs
   | some .skip => Xb6 Θ P n body tgt f true (nxt body p) k s hs
   | some (.region _ ops draw) => match Xlu Θ P n ops draw k s hs with
    | some (k1, s1, hs1, ps) => match Xb6 Θ P n body tgt f true (nxt body p) k1 s1 hs1 with
     | some (k2, s2, hs2, qs) => some (k2, s2, hs2, ps ++ qs)
     | none => none
    | none => none
   | some (.cond c _ _) => match Qar s c with
    | .lit (.bool v) => match (pop k hs).1.h with
     | .br b => match Xb6 Θ P n body tgt f true (some (p ++ [!b])) (k + 1) s (pop k hs).2 with
      | some (k2, s2, hs2, qs) => some (k2, s2, hs2, (v = b) :: qs)
      | none => none
     | .no => Xb6 Θ P n body tgt f true (some (p ++ [!v])) (k + 1) s hs
     | _ => none
    | _ => none
   | some (.exit id) => match ext id body p with
    | some q => Xb6 Θ P n body tgt f true q k s hs
    | none => none
   | some .ret => match tgt with
    | none => some (k, s, hs, [])
    | some _ => none
   | _ => none
theorem Qex {E : Env} {Θ : Tys} (hΘ : TOK E.P Θ) (hm : E.P.follows .mixedOrders = true) {body : Code} {tgt : Option (List Bool)} {R : St → Prop} : ∀ {f : Nat} {st : Bool} {pt : Option (List Bool)} {k k' : Nat} {s s' : St} {hs hs' : List Hn} {ps : List Prop},
  Xb6 Θ E.P E.n body tgt f st pt k s hs = some (k', s', hs', ps) → Qan ps → WN E body (FQ R) tgt s' → WN E body (FQ R) pt s
 | 0, st, pt, k, k', s, s', hs, hs', ps, h, _, _ => by simp [Xb6] at h
 | f + 1, st, pt, k, k', s, s', hs, hs', ps, h, hp, hw => by
  simp only [Xb6] at h
  split at h
  ·rename_i hst
   simp only [Bool.and_eq_true] at hst
   rw [oB_eq hst.2]
   cases h
   exact hw
  ·split at h
   ·cases h
   rename_i p
   split at h
   ·rename_i hc; exact Xh6 hc (Qex hΘ hm h hp hw)
   ·rename_i hc; exact Xbz hc (Qex hΘ hm h hp hw)
   ·rename_i hc; exact Xf6 hc (Qex hΘ hm h hp hw)
   ·rename_i hc
    refine Qrp hc (by simp) (Xhu (Qhl ?_))
    exact Qex hΘ hm h hp hw
   ·rename_i hc
    split at h
    case h_2 => cases h
    rename_i hr
    split at h
    case h_2 => cases h
    rename_i he
    cases h
    obtain ⟨h1, h2⟩ := Qaw hp
    exact Qrp hc (by simp) (Xaf hΘ hm hr h1 (Qhl (Qex hΘ hm he h2 hw)))
   ·rename_i hc
    split at h
    case h_2 => cases h
    rename_i v hv
    split at h
    ·rename_i b hb
     split at h
     case h_2 => cases h
     rename_i he
     cases h
     obtain ⟨h1, h2⟩ := hp
     subst h1
     exact Qy0 hc hv (Qex hΘ hm he h2 hw)
    ·exact Qy0 hc hv (Qex hΘ hm h hp hw)
    ·cases h
   ·rename_i hc
    split at h
    case h_2 => cases h
    rename_i q hq
    exact Qrp hc (by simp) (Xgw (Qhe hq (Qex hΘ hm h hp hw)))
   ·rename_i hc
    split at h
    case h_2 => cases h
    cases h
    exact Qrp hc (by simp) (Xjj (Qkf ⟨.inr rfl, hw.2⟩))
   ·cases h
def Xob (s : St) (π0 : List (Nat × Nat)) : List (Nat × Nat) → Option (List (Nat × Nat × Qat) × List Prop)
 | [] => some ([], [])
 | (i, j) :: r => match s.root i, Xob s π0 r with
  | some R, some (l, ps) => some ((i, j, R) :: l, (Qac π0 R.xs) :: ps)
  | _, _ => none
theorem Qvu {s : St} {π0 : List (Nat × Nat)} : ∀ {π : List (Nat × Nat)} {l : List (Nat × Nat × Qat)} {ps : List Prop}, Xob s π0 π = some (l, ps) → Qan ps → okRt s π0 l ∧ piR l = π
 | [], l, ps, h, hp => by simp only [Xob] at h; cases h; exact ⟨trivial, rfl⟩
 | (i, j) :: r, l, ps, h, hp => by
  simp only [Xob] at h
  split at h
  case h_2 => cases h
  rename_i R l' qs hR hr
  cases h
  obtain ⟨h1, h2⟩ := Qvu hr hp.2
  exact ⟨⟨⟨hR, hp.1⟩, h1⟩, by simp only [piR] at h2; simp only [piR, List.map_cons, h2]⟩
def kpC (s : St) (π : List (Nat × Nat)) (kp : List Nat) (t : Nat) : AV := if kp.contains t then s.get t else Qks π (s.get t)
def kpP (s : St) (kp : List Nat) : List Nat → List Prop
 | [] => []
 | t :: ts => if kp.contains t then (Qyu (s.get t) = true) :: kpP s kp ts else kpP s kp ts
theorem Xlm {s : St} {π : List (Nat × Nat)} {kp : List Nat} : ∀ {ts : List Nat}, Qan (kpP s kp ts) → Xgu s π (ts.map fun t => (t, kpC s π kp t))
 | [], _ => trivial
 | t :: ts, h => by
  simp only [kpP] at h
  split at h
  ·rename_i hk
   exact ⟨by simp only [kpC, hk, if_true]; exact Qzm π _ h.1, Xlm h.2⟩
  ·rename_i hk
   exact ⟨by simp only [kpC, hk]; rfl, Xlm h⟩
def toC (fr : List Nat) (s : St) (π : List (Nat × Nat)) (ts kp : List Nat) : Option (St × List Prop) :=
 if okPi π && (fr.all fun i => π.lookup i == some i) then match Xob s π π with
  | some (l, ps) => some (⟨ts.map fun t => (t, kpC s π kp t), l.map fun x => (x.2.1, some x.2.2), π.map (·.2) ++ [JJ]⟩, ps ++ kpP s kp ts)
  | none => none
 else none
theorem Xgb {E : Env} {fr : List Nat} (hfx : ∀ p, p ∈ E.fx → p.1 ∈ fr) {s s' : St} {π : List (Nat × Nat)} {ts kp : List Nat} {ps : List Prop} (h : toC fr s π ts kp = some (s', ps)) (hp : Qan ps) : Ent E s s' := by
  unfold toC at h
  split at h
  case isFalse => cases h
  rename_i hc
  simp only [Bool.and_eq_true] at hc
  split at h
  case h_2 => cases h
  rename_i l qs hr
  cases h
  obtain ⟨hp1, hp2⟩ := Qaw hp
  obtain ⟨h1, h2⟩ := Qvu hr hp1
  have := Xmy E (ts.map fun t => (t, kpC s π kp t)) l (by rw [h2]; exact hc.1) (by
    rw [h2]
    simp only [fxB, List.all_eq_true]
    intro p hpm
    have := hc.2
    rw [List.all_eq_true] at this
    exact this _ (hfx p hpm)) (by rw [h2]; exact Xlm hp2) (by rw [h2]; exact h1)
  rw [h2] at this
  exact this
def Xk8 (Θ : Tys) (P : Program) (n : Nat) (body : Code) (fr : List Nat) (pt tgt : List Bool) (s : St) (hs : List Hn) (π : List (Nat × Nat)) (ts kp : List Nat) : Option (St × List Prop) :=
 match Xb6 Θ P n body (some tgt) 10000 false (some pt) 0 s hs with
 | some (k, s1, hs1, ps) => match ghs k hs1 s1 with
  | some (s2, [], qs) => match toC fr s2 π ts kp with
   | some (s3, rs) => some (s3, ps ++ (qs ++ rs))
   | none => none
  | _ => none
 | none => none
theorem go_to {E : Env} {Θ : Tys} (hΘ : TOK E.P Θ) (hm : E.P.follows .mixedOrders = true) {body : Code} {fr : List Nat} (hfx : ∀ p, p ∈ E.fx → p.1 ∈ fr) {R : St → Prop} {P : Program} (hP : E.P = P) {n : Nat} (hn : E.n = n) {pt tgt : List Bool} {s s' : St} {hs : List Hn} {π : List (Nat × Nat)} {ts kp : List Nat} {ps : List Prop}
  (h : Xk8 Θ P n body fr pt tgt s hs π ts kp = some (s', ps)) (hp : Qan ps) (hk : WAt E body (FQ R) tgt s') : WAt E body (FQ R) pt s := by
 subst hP; subst hn
 unfold Xk8 at h
 split at h
 case h_2 => cases h
 rename_i k s1 hs1 qs he
 split at h
 case h_2 => cases h
 rename_i s2 rs hg
 split at h
 case h_2 => cases h
 rename_i s3 us ht
 cases h
 obtain ⟨h1, h2⟩ := Qaw hp
 obtain ⟨h3, h4⟩ := Qaw h2
 refine Qex hΘ hm he h1 ?_
 have hent := (Qhn hg h3).trans (Xgb hfx ht h4)
 show WAt E body (FQ R) tgt s1
 unfold WAt at hk ⊢
 split at hk
 ·exact fun a w hr => hk a w (hent a w hr)
 ·exact Qtw hent hk
 ·exact hk
inductive PH where
 | raw
 | own
 | ownS
 | ro
 | ref
 | agg (l : List PH)
def Xd6 (Θ : Tys) (s : St) (h : H) : ResultVar → Option (AV × List Prop)
 | .tmp t => some (s.get t, [])
 | .cell p t => Xgy Θ s t h (s.get p)
def Qto (Θ : Tys) (s : St) : List H → List ResultVar → Option (List AV × List Prop)
 | _, [] => some ([], [])
 | h :: hs, r :: rs => match Xd6 Θ s h r, Qto Θ s hs rs with
  | some (x, ps), some (xs, qs) => some (x :: xs, ps ++ qs)
  | _, _ => none
 | [], r :: rs => match Xd6 Θ s .no r, Qto Θ s [] rs with
  | some (x, ps), some (xs, qs) => some (x :: xs, ps ++ qs)
  | _, _ => none
theorem Qug {Θ : Tys} {s : St} {h : H} {r : ResultVar} {x : AV} {ps : List Prop} (he : Xd6 Θ s h r = some (x, ps)) (hp : Qan ps) : resV Θ s r = some x := by
 cases r with
 | tmp t => simp only [Xd6] at he; cases he; rfl
 | cell p t => simp only [Xd6] at he; exact Qur he hp
theorem Qmt {Θ : Tys} {s : St} : ∀ {hs : List H} {rs : List ResultVar} {xs : List AV} {ps : List Prop}, Qto Θ s hs rs = some (xs, ps) → Qan ps → Qxi Θ s rs = some xs
 | hs, [], xs, ps, he, hp => by cases hs <;> (simp only [Qto] at he; cases he; rfl)
 | h :: hs, r :: rs, xs, ps, he, hp => by
  simp only [Qto] at he
  split at he
  case h_2 => cases he
  rename_i h1 h2
  cases he
  obtain ⟨p1, p2⟩ := Qaw hp
  simp only [Qxi, Qug h1 p1, Qmt h2 p2]
 | [], r :: rs, xs, ps, he, hp => by
  simp only [Qto] at he
  split at he
  case h_2 => cases he
  rename_i h1 h2
  cases he
  obtain ⟨p1, p2⟩ := Qaw hp
  simp only [Qxi, Qug h1 p1, Qmt h2 p2]
mutual
def pkC (s : St) (ks : List Bool) : PH → AV → AV → Option (List Prop × List Nat)
 | .raw, x, y => some ([x = y, Qa3 y = true], [])
 | .own, x, y => match y with
  | .own T sz zs => match x with
   | .lit (.slice none 0 0) => match zs with
    | [] => some ([], [])
    | _ => none
   | .sl i 0 len => match s.root i with
    | some R => if R.T = T then (if R.sz = sz then (if ks[i]? == some true then none else some ([Qa2 (R.xs.take len) = true, R.xs.take len = zs, Qa5 zs = true], [i])) else none) else none
    | none => none
   | _ => none
  | _ => none
 | .ownS, x, y => match y with
  | .own T sz zs => match x with
   | .sl i 0 len => match s.root i with
    | some R => if R.T = T then (if R.sz = sz then (if ks.isEmpty then some ([Qa2 (R.xs.take len) = true, R.xs.take len = zs], [i]) else none) else none) else none
    | none => none
   | _ => none
  | _ => none
 | .ro, x, y => match x, y with
  | .ro sz xs, .ro sz' xs' => if sz = sz' then (if ks.isEmpty then some ([xs = xs'], []) else none) else none
  | _, _ => none
 | .ref, x, y => match x, y with
  | .sl i off len, .sl i' off' len' => if i = i' then (if ks[i]? == some true then some ([off = off', len = len'], []) else none) else none
  | _, _ => none
 | .agg l, x, y => match x, y with
  | .agg cs, .agg ds => Xhg s ks l cs ds
  | .tup cs, .tup ds => Xhg s ks l cs ds
  | _, _ => none
def Xhg (s : St) (ks : List Bool) : List PH → List AV → List AV → Option (List Prop × List Nat)
 | [], [], [] => some ([], [])
 | h :: hs, c :: cs, d :: ds => match pkC s ks h c d, Xhg s ks hs cs ds with
  | some (ps, is), some (qs, js) => some (ps ++ qs, is ++ js)
  | _, _ => none
 | _, _, _ => none
end
mutual
theorem Xbg {w : World} {S U S2 U2 : Nat → Prop} {ρ ρ2 : Tab} : ∀ (x : AV) (u : Value) (f : List Nat), Qa3 x = true → repR w S U ρ x u f → repR w S2 U2 ρ2 x u []
 | .lit v, u, f, _, hr => by simp only [repR, rep] at hr ⊢; exact ⟨trivial, hr.2⟩
 | .agg cs, u, f, h, hr => by
  simp only [Qa3] at h
  simp only [repR] at hr ⊢
  obtain ⟨vs, rfl, hr⟩ := hr
  exact ⟨vs, rfl, Qta cs vs f h hr⟩
 | .tup cs, u, f, h, hr => by
  simp only [Qa3] at h
  simp only [repR] at hr ⊢
  obtain ⟨vs, rfl, hr⟩ := hr
  exact ⟨vs, rfl, Qta cs vs f h hr⟩
 | .dead, _, _, h, _ => by simp [Qa3] at h
 | .ro _ _, _, _, h, _ => by simp [Qa3] at h
 | .own _ _ _, _, _, h, _ => by simp [Qa3] at h
 | .sl _ _ _, _, _, h, _ => by simp [Qa3] at h
 | .ptr _ _ _, _, _, h, _ => by simp [Qa3] at h
 | .rop _ _, _, _, h, _ => by simp [Qa3] at h
 | .fn _ _, _, _, h, _ => by simp [Qa3] at h
theorem Qta {w : World} {S U S2 U2 : Nat → Prop} {ρ ρ2 : Tab} : ∀ (xs : List AV) (us : List Value) (f : List Nat), Qww xs = true → Qam w S U ρ xs us f → Qam w S2 U2 ρ2 xs us []
 | [], us, f, _, hr => by simp only [Qam] at hr ⊢; exact ⟨hr.1, trivial⟩
 | c :: cs, us, f, h, hr => by
  simp only [Qww, Bool.and_eq_true] at h
  simp only [Qam] at hr ⊢
  obtain ⟨u, us', f1, f2, rfl, rfl, h1, h2⟩ := hr
  exact ⟨u, us', [], [], rfl, rfl, Xbg c u f1 h.1 h1, Qta cs us' f2 h.2 h2⟩
end
def roS (ks : List Bool) (χ : Nat → Option Nat) (w : World) : Nat → Prop := fun b => ks.isEmpty = true ∧ Qbp χ w b
mutual
theorem Qzn {E : Env} {s : St} {ks : List Bool} {a : Act} {w : World} {χ : Nat → Option Nat} {hd : Nat → Value} {ρ : Tab} (h : Qcs E s a w χ hd) (hρ : ∀ i, ks[i]? = some true → ρ i = tab s hd i) :
  ∀ (p : PH) (x y : AV) (ps : List Prop) (is : List Nat) (u : Value), repR w (Qbp χ w) (· ∈ s.us) (tab s hd) x u [] → pkC s ks p x y = some (ps, is) → Qan ps → is.Nodup → ∃ g, repR w (roS ks χ w) (fun i => ks[i]? = some true) ρ y u g ∧ g.Nodup ∧ (∀ b ∈ g, ∃ i ∈ is, χ b = some i ∧ i ≠ JJ ∧ ks[i]? ≠ some true)
 | .raw, x, y, ps, is, u, hr, he, hp, hn => by
  simp only [pkC] at he
  cases he
  obtain ⟨rfl, h2, _⟩ := hp
  exact ⟨[], Xbg _ _ _ h2 hr, by simp, by simp⟩
 | .own, x, y, ps, is, u, hr, he, hp, hn => by
  simp only [pkC] at he
  split at he
  case h_2 => cases he
  rename_i T sz zs
  split at he
  ·split at he
   case h_2 => cases he
   cases he
   have := Qgn hr
   subst this
   exact ⟨[], by simp only [repR, rep]; exact ⟨[], [], World.ownsRow_nil w 0 _ _, by simp [Qei], by simp [Value.ownBlock]⟩, by simp, by simp⟩
  ·rename_i i len
   split at he
   case h_2 => cases he
   rename_i R hR
   split at he
   case isFalse => cases he
   rename_i hT
   split at he
   case isFalse => cases he
   rename_i hS
   split at he
   case isTrue => cases he
   rename_i hk
   cases he
   obtain ⟨h1, h2, h3, _⟩ := hp
   obtain ⟨g, g1, g2, g3⟩ := Qwz h (.sl i 0 len) (.own T sz zs) u [] hr rfl (by simp only [pk, hR]; rw [if_pos h1, h2, hT, hS]) (by simp [pkI])
   refine ⟨g, ?_, g2, fun b hb => ?_⟩
   ·simp only [repR]
    exact Qsw _ _ _ g1 h3
   ·obtain ⟨j, hj, h4, h5⟩ := g3 b hb
    have : j = i := by simpa [pkI] using hj
    subst this
    exact ⟨j, by simp, h4, h5, by simpa using hk⟩
  ·cases he
 | .ownS, x, y, ps, is, u, hr, he, hp, hn => by
  simp only [pkC] at he
  split at he
  case h_2 => cases he
  rename_i T sz zs
  split at he
  case h_2 => cases he
  rename_i i len
  split at he
  case h_2 => cases he
  rename_i R hR
  split at he
  case isFalse => cases he
  rename_i hT
  split at he
  case isFalse => cases he
  rename_i hS
  split at he
  case isFalse => cases he
  rename_i hk
  cases he
  obtain ⟨h1, h2, _⟩ := hp
  obtain ⟨g, g1, g2, g3⟩ := Qwz h (.sl i 0 len) (.own T sz zs) u [] hr rfl (by simp only [pk, hR]; rw [if_pos h1, h2, hT, hS]) (by simp [pkI])
  refine ⟨g, ?_, g2, fun b hb => ?_⟩
  ·simp only [repR]
   exact Qbr _ _ _ g1 (fun b hb => ⟨hk, hb⟩) (fun _ _ => rfl) (fun _ _ => rfl)
  ·obtain ⟨j, hj, h4, h5⟩ := g3 b hb
   have : j = i := by simpa [pkI] using hj
   subst this
   refine ⟨j, by simp, h4, h5, ?_⟩
   have : ks = [] := by simpa using hk
   rw [this]; simp
 | .ro, x, y, ps, is, u, hr, he, hp, hn => by
  simp only [pkC] at he
  split at he
  case h_2 => cases he
  split at he
  case isFalse => cases he
  rename_i hs
  split at he
  case isFalse => cases he
  rename_i hk
  cases he
  obtain ⟨h1, _⟩ := hp
  subst h1; subst hs
  simp only [repR] at hr ⊢
  exact ⟨[], Qbr _ _ _ hr (fun b hb => ⟨hk, hb⟩) (fun _ _ => rfl) (by simp), by simp, by simp⟩
 | .ref, x, y, ps, is, u, hr, he, hp, hn => by
  simp only [pkC] at he
  split at he
  case h_2 => cases he
  rename_i i off len i' off' len'
  split at he
  case isFalse => cases he
  rename_i hi
  split at he
  case isFalse => cases he
  rename_i hk
  cases he
  obtain ⟨h1, h2, _⟩ := hp
  subst h1; subst h2; subst hi
  have hk : ks[i]? = some true := by simpa using hk
  simp only [repR] at hr ⊢
  exact ⟨[], ⟨rfl, hk, by rw [hρ i hk]; exact hr.2.2⟩, by simp, by simp⟩
 | .agg l, x, y, ps, is, u, hr, he, hp, hn => by
  simp only [pkC] at he
  split at he
  ·rename_i cs ds
   simp only [repR] at hr ⊢
   obtain ⟨vs, rfl, hr⟩ := hr
   obtain ⟨g, g1, g2, g3⟩ := Qqu h hρ l cs ds ps is vs hr he hp hn
   exact ⟨g, ⟨vs, rfl, g1⟩, g2, g3⟩
  ·rename_i cs ds
   simp only [repR] at hr ⊢
   obtain ⟨vs, rfl, hr⟩ := hr
   obtain ⟨g, g1, g2, g3⟩ := Qqu h hρ l cs ds ps is vs hr he hp hn
   exact ⟨g, ⟨vs, rfl, g1⟩, g2, g3⟩
  ·cases he
theorem Qqu {E : Env} {s : St} {ks : List Bool} {a : Act} {w : World} {χ : Nat → Option Nat} {hd : Nat → Value} {ρ : Tab} (h : Qcs E s a w χ hd) (hρ : ∀ i, ks[i]? = some true → ρ i = tab s hd i) :
  ∀ (l : List PH) (xs ys : List AV) (ps : List Prop) (is : List Nat) (us : List Value), Qam w (Qbp χ w) (· ∈ s.us) (tab s hd) xs us [] → Xhg s ks l xs ys = some (ps, is) → Qan ps → is.Nodup → ∃ g, Qam w (roS ks χ w) (fun i => ks[i]? = some true) ρ ys us g ∧ g.Nodup ∧ (∀ b ∈ g, ∃ i ∈ is, χ b = some i ∧ i ≠ JJ ∧ ks[i]? ≠ some true)
 | [], [], [], ps, is, us, hr, he, hp, hn => by
  simp only [Qam] at hr ⊢
  exact ⟨[], ⟨hr.1, rfl⟩, by simp, by simp⟩
 | p :: l, c :: cs, d :: ds, ps, is, us, hr, he, hp, hn => by
  simp only [Xhg] at he
  split at he
  case h_2 => cases he
  rename_i qs js rs ks' h1 h2
  cases he
  simp only [Qam] at hr ⊢
  obtain ⟨u, us', f1, f2, rfl, hf', k1, k2⟩ := hr
  obtain ⟨rfl, rfl⟩ := List.append_eq_nil_iff.1 hf'.symm
  obtain ⟨p1, p2⟩ := Qaw hp
  rw [List.nodup_append] at hn
  obtain ⟨g1, a1, a2, a3⟩ := Qzn h hρ p c d qs js u k1 h1 p1 hn.1
  obtain ⟨g2, b1, b2, b3⟩ := Qqu h hρ l cs ds rs ks' us' k2 h2 p2 hn.2.1
  refine ⟨g1 ++ g2, ⟨u, us', g1, g2, rfl, rfl, a1, b1⟩, ?_, ?_⟩
  ·rw [List.nodup_append]
   refine ⟨a2, b2, ?_⟩
   intro b hb b' hb' e
   subst e
   obtain ⟨i, hi, hi2, _⟩ := a3 b hb
   obtain ⟨j, hj, hj2, _⟩ := b3 b hb'
   rw [hi2] at hj2; cases hj2
   exact hn.2.2 i hi i hj rfl
  ·intro b hb
   rcases List.mem_append.1 hb with hb | hb
   ·obtain ⟨i, hi, hx⟩ := a3 b hb; exact ⟨i, List.mem_append_left _ hi, hx⟩
   ·obtain ⟨i, hi, hx⟩ := b3 b hb; exact ⟨i, List.mem_append_right _ hi, hx⟩
 | [], [], _ :: _, _, _, _, _, he, _, _ => by simp [Xhg] at he
 | [], _ :: _, _, _, _, _, _, he, _, _ => by simp [Xhg] at he
 | _ :: _, [], _, _, _, _, _, he, _, _ => by simp [Xhg] at he
 | _ :: _, _ :: _, [], _, _, _, _, he, _, _ => by simp [Xhg] at he
end
def Xh2 (s : St) (ks : List Bool) : Nat → List Qat → Option (List Prop)
 | _, [] => some []
 | i, R :: rs => match Xh2 s ks (i + 1) rs with
  | some ps => if ks[i]? == some true then match s.root i with
    | some Q => if Q.T = R.T then (if Q.sz = R.sz then some ((Q.xs = R.xs) :: (Qa2 R.xs = true) :: (Qa5 R.xs = true) :: ps) else none) else none
    | none => none
   else some ps
  | none => none
def Kept (s : St) (ks : List Bool) (rs : List Qat) : Prop := ∀ (i : Nat) (R : Qat), rs[i]? = some R → ks[i]? = some true → s.root i = some R ∧ Qa2 R.xs = true ∧ Qa5 R.xs = true
theorem Xbq {s : St} {ks : List Bool} : ∀ {rs : List Qat} {k : Nat} {ps : List Prop}, Xh2 s ks k rs = some ps → Qan ps → ∀ (i : Nat) (R : Qat), rs[i]? = some R → ks[k + i]? = some true → s.root (k + i) = some R ∧ Qa2 R.xs = true ∧ Qa5 R.xs = true
 | [], k, ps, h, hp, i, R, hR, _ => by simp at hR
 | X :: rs, k, ps, h, hp, i, R, hR, hk => by
  simp only [Xh2] at h
  split at h
  case h_2 => cases h
  rename_i qs hq
  cases i with
  | zero =>
   simp at hR
   subst hR
   rw [Nat.add_zero] at hk ⊢
   rw [hk] at h
   simp only [beq_self_eq_true, if_true] at h
   split at h
   case h_2 => cases h
   rename_i Q hQ
   split at h
   case isFalse => cases h
   rename_i hT
   split at h
   case isFalse => cases h
   rename_i hS
   cases h
   obtain ⟨h1, h2, h3, _⟩ := hp
   refine ⟨?_, h2, h3⟩
   rw [hQ]
   obtain ⟨qT, qS, qx⟩ := Q
   obtain ⟨rT, rS, rx⟩ := X
   simp only at hT hS h1
   rw [hT, hS, h1]
  | succ i =>
   have hp' : Qan qs := by
    split at h
    ·split at h
     case h_2 => cases h
     split at h
     case isFalse => cases h
     split at h
     case isFalse => cases h
     cases h
     exact hp.2.2.2
    ·cases h; exact hp
   have := Xbq hq hp' i R (by simpa using hR) (by rw [show k + 1 + i = k + (i + 1) by omega]; exact hk)
   rw [show k + 1 + i = k + (i + 1) by omega] at this
   exact this
def Qf2 (Θ : Tys) (rv : List ResultVar) (ks : List Bool) (rs : List Qat) (res : AV) (E : Env) (s : St) : Prop :=
 ∃ s', Ent E s s' ∧ ∃ xs, Qxi Θ s' rv = some xs ∧ Kept s' ks rs ∧
  ∀ a w χ hd ρ, Qcs E s' a w χ hd → (∀ i, ks[i]? = some true → ρ i = tab s' hd i) → ∀ u, repR w (Qbp χ w) (· ∈ s'.us) (tab s' hd) (one xs) u [] →
   ∃ g, repR w (roS ks χ w) (fun i => ks[i]? = some true) ρ res u g ∧ g.Nodup ∧ ∀ b ∈ g, ∃ i, χ b = some i ∧ i ≠ JJ ∧ ks[i]? ≠ some true
def Xew (Θ : Tys) (P : Program) (n : Nat) (body : Code) (rv : List ResultVar) (ks : List Bool) (rs : List Qat) (pt : List Bool) (s : St) (hs : List Hn) (rh : List H) (ph : PH) (res : AV) : Option (List Prop) :=
 match Xb6 Θ P n body none 10000 false (some pt) 0 s hs with
 | some (k, s1, hs1, ps) => match ghs k hs1 s1 with
  | some (s2, [], qs) => match Qto Θ s2 rh rv with
   | some (xs, rs') => match Xh2 s2 ks 0 rs, pkC s2 ks ph (one xs) res with
    | some ks', some (ts, is) => if ndB is then some (ps ++ (qs ++ (rs' ++ (ks' ++ ts)))) else none
    | _, _ => none
   | none => none
  | _ => none
 | none => none
theorem go_ret {E : Env} {Θ : Tys} (hΘ : TOK E.P Θ) (hm : E.P.follows .mixedOrders = true) {body : Code} {P : Program} (hP : E.P = P) {n : Nat} (hn : E.n = n) {rv : List ResultVar} {ks : List Bool} {rs : List Qat} {pt : List Bool} {s : St} {hs : List Hn} {rh : List H} {ph : PH} {res : AV} {ps : List Prop}
  (h : Xew Θ P n body rv ks rs pt s hs rh ph res = some ps) (hp : Qan ps) : WAt E body (FQ (Qf2 Θ rv ks rs res E)) pt s := by
 subst hP; subst hn
 unfold Xew at h
 split at h
 case h_2 => cases h
 rename_i k s1 hs1 qs he
 split at h
 case h_2 => cases h
 rename_i s2 rs' hg
 split at h
 case h_2 => cases h
 rename_i xs vs hx
 split at h
 case h_2 => cases h
 rename_i kps ts is hkp hpk
 split at h
 case isFalse => cases h
 rename_i hnd
 cases h
 obtain ⟨h1, h2⟩ := Qaw hp
 obtain ⟨h3, h4⟩ := Qaw h2
 obtain ⟨h5, h6⟩ := Qaw h4
 obtain ⟨h7, h8⟩ := Qaw h6
 refine Qex (tgt := none) hΘ hm he h1 ?_
 refine ⟨.inl rfl, s2, Qhn hg h3, xs, Qmt hx h5, fun i R hR hk => ?_, ?_⟩
 ·have := Xbq hkp h7 i R hR (by rw [Nat.zero_add]; exact hk)
  rw [Nat.zero_add] at this
  exact this
 ·intro a w χ hd ρ hr hρ u hu
  obtain ⟨g, g1, g2, g3⟩ := Qzn hr hρ _ _ _ _ _ u hu hpk h8 (Qmw hnd)
  exact ⟨g, g1, g2, fun b hb => by obtain ⟨i, _, hi⟩ := g3 b hb; exact ⟨i, hi⟩⟩
end Go.T
set_option linter.unusedVariables false
namespace Go.T
open Go Go.RowKit Go.Proofs
mutual
theorem Xe1 {w : World} {S U : Nat → Prop} {ρ : Tab} (hU : ∀ i, ¬ U i) : ∀ (x : AV) (u : Value) (f : List Nat), repR w S U ρ x u f → rep w S x u f
 | .sl i _ _, u, f, hr => by simp only [repR] at hr; exact absurd hr.2.1 (hU i)
 | .ptr i _ _, u, f, hr => by simp only [repR] at hr; exact absurd hr.2.1 (hU i)
 | .agg cs, u, f, hr => by
  simp only [repR] at hr
  simp only [rep]
  obtain ⟨vs, hu, hr⟩ := hr
  exact ⟨vs, hu, Qsq hU cs vs f hr⟩
 | .tup cs, u, f, hr => by
  simp only [repR] at hr
  simp only [rep]
  obtain ⟨vs, hu, hr⟩ := hr
  exact ⟨vs, hu, Qsq hU cs vs f hr⟩
 | .fn g cs, u, f, hr => by
  simp only [repR] at hr
  simp only [rep]
  obtain ⟨vs, hu, hr⟩ := hr
  exact ⟨vs, hu, Qsq hU cs vs f hr⟩
 | .dead, u, f, hr => by simpa only [repR] using hr
 | .lit _, u, f, hr => by simpa only [repR] using hr
 | .ro _ _, u, f, hr => by simpa only [repR] using hr
 | .own _ _ _, u, f, hr => by simpa only [repR] using hr
 | .rop _ _, u, f, hr => by simpa only [repR] using hr
theorem Qsq {w : World} {S U : Nat → Prop} {ρ : Tab} (hU : ∀ i, ¬ U i) : ∀ (xs : List AV) (us : List Value) (f : List Nat), Qam w S U ρ xs us f → Qfi w S xs us f
 | [], us, f, hr => by simpa only [Qam, Qfi] using hr
 | c :: cs, us, f, hr => by
  simp only [Qam] at hr
  simp only [Qfi]
  obtain ⟨u, us', f1, f2, hv, hf, h1, h2⟩ := hr
  exact ⟨u, us', f1, f2, hv, hf, Xe1 hU c u f1 h1, Qsq hU cs us' f2 h2⟩
end
open Classical in
theorem Xdx {P : Program} {Θ : Tys} (hΘ : TOK P Θ) {f : FuncId} {fn : Func} {c : Code} (hf : P.funcs[f]? = some fn) (hname : (fn.name == "runtime.NumGoroutine") = false) (hb : fn.body = some c) {args : List AV} {res : AV} (hn : args.length ≤ fn.ntmps)
  (h : ∀ E : Env, E.P = P → E.n = fn.ntmps → (∀ p, p ∈ E.fx → p.1 ∈ ([] : List Nat)) → WAt E c (FQ (Qf2 Θ fn.results.toList [] [] res E)) [] (Xac args)) : Qa4 P f args res := by
 refine ⟨enters_of hf hname hb, ?_⟩
 intro w S vals hv hS
 have hvl := Qtg _ _ _ hv
 refine calls_of_wp hf hb ?_
 let E : Env := ⟨P, w, fn.ntmps, fun _ => False, fun b => b < w.heap.size ∧ ¬ S b, []⟩
 let χ : Nat → Option Nat := fun b => if b < w.heap.size ∧ ¬ S b then some JJ else none
 have hfree : ∀ b, S b → Qbp χ w b := fun b hb => ⟨by simp [χ, hb], hS b hb⟩
 have hrel : Qcs E (Xac args) { tmps := vals.toArray ++ Array.replicate (fn.ntmps - vals.toArray.size) undef, defers := [] } w χ (fun _ => undef) := by
  refine ⟨rfl, by simp [E]; omega, rfl, Tp.refl _, rfl, Nat.le_refl _, fun _ _ _ => rfl, (fun _ h => by cases h), by simp [Xac], rfl, fun b hb => by simp only [χ]; rw [if_pos hb], ?_, ?_, ?_⟩
  ·intro b r hbr
   simp only [χ] at hbr
   split at hbr
   ·rename_i hh; cases hbr; exact ⟨fun e => absurd rfl e, hh.1⟩
   ·cases hbr
  ·intro i R hR
   simp [St.root, Xac] at hR
  ·intro t
   rw [Xdk]
   cases ht : args[t]? with
   | none => exact Qdo _
   | some x =>
    obtain ⟨v, hvt, hr⟩ := Xbd _ _ _ _ hv ht
    have : (vals.toArray ++ Array.replicate (fn.ntmps - vals.toArray.size) undef).getD t undef = v := by
     have hlt : t < vals.length := (List.getElem?_eq_some_iff.1 hvt).1
     rw [Array.getD_eq_getD_getElem?, Array.getElem?_append_left (by simpa using hlt)]
     simp [hvt]
    simp only [Option.getD_some]
    rw [this]
    exact Qu2 _ _ _ (Qbr _ _ _ hr hfree (fun _ _ => rfl) (fun _ _ => rfl))
 refine wp_mono (Xb5 (h E rfl rfl (fun p hp => by cases hp)) _ w ⟨χ, _, hrel⟩) ?_
 rintro e a' w' ⟨s0, ⟨he, s', hent, xs, hxs, _, hpk⟩, hr0⟩
 obtain ⟨χ', hd', hr⟩ := hent a' w' hr0
 obtain ⟨v, hv1, hv2⟩ := Qtn (E := E) hΘ hr hxs
 obtain ⟨g, hg1, hg2, hg3⟩ := hpk a' w' χ' hd' (fun _ => none) hr (fun i hi => by simp at hi) v hv2
 have hg1 := Xe1 (fun i hi => by simp at hi) _ _ _ hg1
 have hR : ∃ v2 fp, Ending.returned v = .returned v2 ∧ Below w.heap.size w w' ∧ w.drawn ≤ w'.drawn ∧ rep w' (fun b => (S b ∨ w.heap.size ≤ b) ∧ b < w'.heap.size ∧ b ∉ fp) res v2 fp ∧ fp.Nodup ∧ ∀ b ∈ fp, w.heap.size ≤ b := by
  refine ⟨v, g, rfl, ⟨hr.os, hr.tape.1, hr.output, hr.hsz, fun k hk => hr.frame k hk (fun h => h)⟩, hr.tape.2, ?_, hg2, ?_⟩
  ·refine Qbr _ _ _ hg1 (fun b hb => ⟨?_, hb.2.2, ?_⟩) (fun _ _ => rfl) (fun _ _ => rfl)
   ·by_cases hlt : b < w.heap.size
    ·left
     apply Classical.byContradiction
     intro hns
     have := hr.jk b ⟨hlt, hns⟩
     rw [hb.2.1] at this; cases this
    ·right; omega
   ·intro hm
    obtain ⟨i, hi, _⟩ := hg3 b hm
    rw [hb.2.1] at hi; cases hi
  ·intro b hb
   obtain ⟨i, hi, hij, _⟩ := hg3 b hb
   rcases (hr.col b i hi).1 hij with h1 | h1
   ·exact h1
   ·exact h1.elim
 rcases he with rfl | rfl
 ·exact ⟨hr.defers, v, hv1, hR⟩
 ·exact ⟨hr.defers, v, hv1, hR⟩
def Qs3 (args : List AV) (rs : List Qat) : St := ⟨(args.zipIdx).map (fun p => (p.2, p.1)), rs.zipIdx.map (fun p => (p.2, some p.1)), (List.range rs.length) ++ [JJ]⟩
theorem Qmm : ∀ (rs : List Qat) (k i : Nat), ((rs.zipIdx k).map (fun p => (p.2, some p.1))).lookup (k + i) = (rs[i]?).map some
 | [], k, i => by simp
 | R :: rs, k, i => by
  rw [List.zipIdx_cons, List.map_cons]
  cases i with
  | zero => simp
  | succ i =>
   rw [Qak (by simp), show k + (i + 1) = (k + 1) + i by omega, Qmm rs (k + 1) i]
   rfl
theorem Qoo (args : List AV) (rs : List Qat) (i : Nat) : (Qs3 args rs).root i = rs[i]? := by
 have := Qmm rs 0 i
 rw [Nat.zero_add] at this
 simp only [St.root, Qs3, this]
 cases rs[i]? <;> rfl
theorem Xc5 (args : List AV) (rs : List Qat) (t : Nat) : (Qs3 args rs).get t = (args[t]?).getD .dead := by
 have := Qls args 0 t
 rw [Nat.zero_add] at this
 simp only [St.get, Qs3, this]
open Classical in
theorem Qpi {P : Program} {Θ : Tys} (hΘ : TOK P Θ) {f : FuncId} {fn : Func} {c : Code} (hf : P.funcs[f]? = some fn) (hname : (fn.name == "runtime.NumGoroutine") = false) (hb : fn.body = some c) {rs rs' : List Qat} {ks : List Bool} {args : List AV} {res : AV} (hn : args.length ≤ fn.ntmps) (hkl : ks.length = rs.length) (hrl : rs.length < JJ) (hne : ks.isEmpty = false) {fr : List Nat} (hfr : ∀ i, i < rs.length → ks[i]? = some true → i ∈ fr)
    (h : ∀ E : Env, E.P = P → E.n = fn.ntmps → (∀ p, p ∈ E.fx → p.1 ∈ fr) → WAt E c (FQ (Qf2 Θ fn.results.toList ks rs' res E)) [] (Qs3 args rs)) : Qiw P f rs args ks rs' res := by
  refine ⟨enters_of hf hname hb, ?_⟩
  intro w S hd fp vals hrow hnil hdj hsep hS hargs
  have hvl := Qbc _ _ _ hargs
  refine calls_of_wp hf hb ?_
  have hpos : ∀ i b, b ∈ fp i → i < rs.length := by
    intro i b hb
    apply Classical.byContradiction
    intro hne
    rw [hnil i (by rw [List.getElem?_eq_none_iff]; omega)] at hb; cases hb
  have hlt : ∀ i b, b ∈ fp i → b < w.heap.size := by
    intro i b hb
    have hi := hpos i b hb
    obtain ⟨_, ⟨vs, fp0, ho, hr, he⟩, _⟩ := hrow i (rs[i]) (by simp [hi])
    rw [he] at hb
    rcases List.mem_append.1 hb with hb | hb
    · exact Qnh ho b hb
    · exact Qxk _ _ _ _ hr b hb
  let fx : List (Nat × Value) := ((List.range rs.length).filter fun i => ks[i]? == some true).map fun i => (i, hd i)
  let E : Env := ⟨P, w, fn.ntmps, fun b => ∃ i, b ∈ fp i, fun b => b < w.heap.size ∧ ¬ S b ∧ ¬ ∃ i, b ∈ fp i, fx⟩
  have hfxm : ∀ p, p ∈ fx → p.1 < rs.length ∧ ks[p.1]? = some true ∧ p.2 = hd p.1 := by
    intro p hp
    simp only [fx, List.mem_map, List.mem_filter, List.mem_range] at hp
    obtain ⟨i, ⟨h1, h2⟩, rfl⟩ := hp
    exact ⟨h1, by simpa using h2, rfl⟩
  let χ : Nat → Option Nat := fun b => if hb : ∃ i, b ∈ fp i then some (Classical.choose hb) else if b < w.heap.size ∧ ¬ S b then some JJ else none
  have hχ : ∀ i b, b ∈ fp i → χ b = some i := by
    intro i b hb
    have hex : ∃ i, b ∈ fp i := ⟨i, hb⟩
    simp only [χ]
    rw [dif_pos hex, hdj _ _ b (Classical.choose_spec hex) hb]
  have hfree : ∀ b, S b → Qbp χ w b := fun b hb => ⟨by
    simp only [χ]
    rw [dif_neg (fun ⟨i, hi⟩ => hsep i b hi hb), if_neg (fun h => h.2 hb)], hS b hb⟩
  let s0 := Qs3 args rs
  have htab : tab s0 hd = hdT rs hd := by
    funext i
    simp only [tab, s0, Qoo, hdT]
  have hus : ∀ i, i < rs.length → i ∈ s0.us := fun i hi => by simp [s0, Qs3, hi]
  have hrel : Qcs E s0 { tmps := vals.toArray ++ Array.replicate (fn.ntmps - vals.toArray.size) undef, defers := [] } w χ hd := by
    refine ⟨rfl, by simp [E]; omega, rfl, Tp.refl _, rfl, Nat.le_refl _, fun _ _ _ => rfl, fun p hp => ⟨hus _ (hfxm p hp).1, (hfxm p hp).2.2.symm⟩, by simp [s0, Qs3], ?_, ?_, ?_, ?_, ?_⟩
    · rw [Qoo, List.getElem?_eq_none_iff]; omega
    · intro b hb
      simp only [χ]
      rw [dif_neg hb.2.2, if_pos ⟨hb.1, hb.2.1⟩]
    · intro b r hbr
      simp only [χ] at hbr
      split at hbr
      · rename_i hh
        cases hbr
        exact ⟨fun _ => .inr hh, hlt _ b (Classical.choose_spec hh)⟩
      · split at hbr
        · rename_i hh; cases hbr; exact ⟨fun e => absurd rfl e, hh.1⟩
        · cases hbr
    · intro i R hR
      rw [Qoo] at hR
      obtain ⟨hz, ⟨vs, fp0, ho, hr, he⟩, hnd⟩ := hrow i R hR
      refine ⟨hus i (List.getElem?_eq_some_iff.1 hR).1, fp i, ⟨hz, vs, fp0, ho, Qih _ _ _ (Qf9 _ _ _ _ hr (fun b hb => hb.elim) (fun b hb => hb.elim) (fun _ _ => rfl)), he⟩, hnd, fun b hb => hχ i b hb⟩
    · intro t
      rw [Xc5]
      cases ht : args[t]? with
      | none => exact Qdo _
      | some x =>
        obtain ⟨v, hvt, hr⟩ := Qp7 _ _ _ _ hargs ht
        have : (vals.toArray ++ Array.replicate (fn.ntmps - vals.toArray.size) undef).getD t undef = v := by
          have hlt : t < vals.length := (List.getElem?_eq_some_iff.1 hvt).1
          rw [Array.getD_eq_getD_getElem?, Array.getElem?_append_left (by simpa using hlt)]
          simp [hvt]
        simp only [Option.getD_some]
        rw [this]
        exact Qcn _ _ _ hr hfree (fun _ _ => rfl) (by simp) (fun i hi => hus i hi) (fun i _ y hy => by rw [htab] at hy; exact hy)
  refine wp_mono (Xb5 (h E rfl rfl (fun p hp => hfr _ (hfxm p hp).1 (hfxm p hp).2.1)) _ w ⟨χ, _, hrel⟩) ?_
  rintro e a' w' ⟨s1, ⟨he, s', hent, xs, hxs, hkept, hpk⟩, hr0⟩
  obtain ⟨χ', hd', hr⟩ := hent a' w' hr0
  obtain ⟨v, hv1, hv2⟩ := Qtn (E := E) hΘ hr hxs
  have hhd : ∀ i, i < rs.length → ks[i]? = some true → hd' i = hd i := by
    intro i hi hk
    exact (hr.fx (i, hd i) (by
      simp only [E, fx, List.mem_map, List.mem_filter, List.mem_range]
      exact ⟨i, ⟨hi, by simp [hk]⟩, rfl⟩)).2
  have hkpos : ∀ i, ks[i]? = some true → i < rs.length := fun i hk => by have := (List.getElem?_eq_some_iff.1 hk).1; omega
  obtain ⟨g, hg1, hg2, hg3⟩ := hpk a' w' χ' hd' (tab s' hd') hr (fun i _ => rfl) v hv2
  have hcolE : ∀ b i, χ' b = some i → i ≠ JJ → ((∃ j, b ∈ fp j) ∨ w.heap.size ≤ b) ∧ b < w'.heap.size := by
    intro b i hb hi
    have := hr.col b i hb
    refine ⟨?_, this.2⟩
    rcases this.1 hi with h1 | h1
    · exact .inr h1
    · exact .inl h1
  let fp' : Nat → List Nat := fun i => if hk : ks[i]? = some true ∧ ∃ R, rs'[i]? = some R ∧ s'.root i = some R then Classical.choose (hr.rts i (Classical.choose hk.2) (Classical.choose_spec hk.2).2).2 else []
  have hfp' : ∀ i R, rs'[i]? = some R → ks[i]? = some true → Qkz w' (Qbp χ' w') (· ∈ s'.us) (tab s' hd') R (hd' i) (fp' i) ∧ (fp' i).Nodup ∧ ∀ b ∈ fp' i, χ' b = some i := by
    intro i R hR hk
    have hk2 : ks[i]? = some true ∧ ∃ R, rs'[i]? = some R ∧ s'.root i = some R := ⟨hk, R, hR, (hkept i R hR hk).1⟩
    have e : fp' i = Classical.choose (hr.rts i (Classical.choose hk2.2) (Classical.choose_spec hk2.2).2).2 := by simp only [fp']; rw [dif_pos hk2]
    have := Classical.choose_spec (hr.rts i (Classical.choose hk2.2) (Classical.choose_spec hk2.2).2).2
    have eR : Classical.choose hk2.2 = R := by
      exact Option.some.inj ((Classical.choose_spec hk2.2).1.symm.trans hR)
    rw [← e] at this
    rw [eR] at this
    exact this
  have hfpm : ∀ i b, b ∈ fp' i → ks[i]? = some true ∧ χ' b = some i := by
    intro i b hb
    by_cases hk2 : ks[i]? = some true ∧ ∃ R, rs'[i]? = some R ∧ s'.root i = some R
    · obtain ⟨hk, R, hR, _⟩ := hk2
      exact ⟨hk, (hfp' i R hR hk).2.2 b hb⟩
    · simp only [fp'] at hb
      rw [dif_neg hk2] at hb; cases hb
  have hR : ∃ (v2 : Value) (fp2 : Nat → List Nat) (g : List Nat), Ending.returned v = .returned v2 ∧ w'.os = w.os ∧ Tp w w' ∧ w'.output = w.output ∧ w.heap.size ≤ w'.heap.size ∧
      (∀ k, k < w.heap.size → (∀ i, k ∉ fp i) → w'.heap[k]? = w.heap[k]?) ∧
      (∀ (i : Nat) (R' : Qat), rs'[i]? = some R' → ks[i]? = some true → Row w' R'.T R'.sz (hd i) R'.xs (fp2 i) ∧ (fp2 i).Nodup) ∧
      (∀ i : Nat, ks[i]? ≠ some true → fp2 i = []) ∧ (∀ i b, b ∈ fp2 i → (∃ j, b ∈ fp j) ∨ w.heap.size ≤ b) ∧
      repR w' NS (fun i => ks[i]? = some true) (hdT rs' hd) res v2 g ∧ g.Nodup ∧ (∀ b ∈ g, ((∃ j, b ∈ fp j) ∨ w.heap.size ≤ b) ∧ b < w'.heap.size) ∧
      (∀ i j b, b ∈ fp2 i → b ∈ fp2 j → i = j) ∧ (∀ i b, b ∈ fp2 i → b ∉ g ∧ b < w'.heap.size) := by
    refine ⟨v, fp', g, rfl, hr.os, hr.tape, hr.output, hr.hsz, fun k hk1 hk2 => hr.frame k hk1 (fun ⟨i, hi⟩ => hk2 i hi), ?_, ?_, ?_, ?_, hg2, ?_, ?_, ?_⟩
    · intro i R' hR' hk
      obtain ⟨⟨_, vs, fp0, ho, hrr, he⟩, h2, _⟩ := hfp' i R' hR' hk
      obtain ⟨_, t1, t2⟩ := hkept i R' hR' hk
      rw [hhd i (hkpos i hk) hk] at ho he
      exact ⟨⟨vs, fp0, ho, Qnc _ _ _ _ (Qf8 _ _ _ hrr t1) t2, he⟩, h2⟩
    · intro i hk
      simp only [fp']
      rw [dif_neg (fun h => hk h.1)]
    · intro i b hb
      obtain ⟨hk, hc⟩ := hfpm i b hb
      exact (hcolE b i hc (fun e => by have := hkpos i hk; omega)).1
    · refine Qcn _ _ _ hg1 (fun b hb => by have := hb.1; rw [hne] at this; cases this) (fun _ _ => rfl) (fun _ _ => rfl) (fun i hi => hi) (fun i hi y hy => ?_)
      have hi2 := hkpos i hi
      simp only [hdT, Option.map_eq_some_iff] at hy
      obtain ⟨R, hR, rfl⟩ := hy
      simp only [tab, (hkept i R hR hi).1, Option.map_some, hhd i hi2 hi]
    · intro b hb
      obtain ⟨i, hi, hij, _⟩ := hg3 b hb
      exact hcolE b i hi hij
    · intro i j b hi hj
      have h1 := (hfpm i b hi).2
      rw [(hfpm j b hj).2] at h1
      cases h1; rfl
    · intro i b hb
      obtain ⟨hk, hc⟩ := hfpm i b hb
      refine ⟨fun hg => ?_, (hcolE b i hc (fun e => by have := hkpos i hk; omega)).2⟩
      obtain ⟨j, hj, _, hnk⟩ := hg3 b hg
      rw [hc] at hj; cases hj
      exact hnk hk
  rcases he with rfl | rfl
  · exact ⟨hr.defers, v, hv1, hR⟩
  · exact ⟨hr.defers, v, hv1, hR⟩
end Go.T
