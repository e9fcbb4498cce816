/- Lemmas for FnExactAddPairs; no condition. -/

import Derived.Test.YtihgcgccajikpaaBC
import Derived.Test.YtihgcgccajikpaaTZB
set_option linter.unusedVariables false
namespace Go.T
open Go Go.RowKit Go.Proofs

/- ------------------------------------------------ roots that are added in whatever order -/
def XE (X Y : Xs) : Prop := (∀ i, X.1.lookup i = Y.1.lookup i) ∧ ∀ i, i ∈ X.2 ↔ i ∈ Y.2
theorem XE.refl (X : Xs) : XE X X := ⟨fun _ => rfl, fun _ => Iff.rfl⟩
theorem XE.trans {X Y Z : Xs} (h : XE X Y) (k : XE Y Z) : XE X Z := ⟨fun i => (h.1 i).trans (k.1 i), fun i => (h.2 i).trans (k.2 i)⟩
theorem Rel0.xe {E : Env} {sl : List (Nat × AV)} {X Y : Xs} (e : XE X Y) {a : Act} {w : World} {χ : Nat → Option Nat} {hd : Nat → Value} (h : Rel0 E ⟨sl, X.1, X.2⟩ a w χ hd) : Rel0 E ⟨sl, Y.1, Y.2⟩ a w χ hd := by
  have hr : ∀ i, (⟨sl, Y.1, Y.2⟩ : St).root i = (⟨sl, X.1, X.2⟩ : St).root i := fun i => by simp only [St.root, e.1 i]
  have ht : tab ⟨sl, Y.1, Y.2⟩ hd = tab ⟨sl, X.1, X.2⟩ hd := by funext i; simp [tab, hr]
  have hU : (fun i => i ∈ (⟨sl, Y.1, Y.2⟩ : St).us) = (fun i => i ∈ (⟨sl, X.1, X.2⟩ : St).us) := by
    funext i; exact propext (e.2 i).symm
  refine ⟨h.defers, h.size, h.os, h.tape, h.output, h.hsz, h.frame, fun p hp => ⟨(e.2 _).1 (h.fx p hp).1, (h.fx p hp).2⟩, (e.2 _).1 h.jj, by rw [hr]; exact h.rj, h.jk, h.col, ?_, ?_⟩
  · intro i R hR
    rw [hr] at hR
    obtain ⟨h1, h2⟩ := h.rts i R hR
    refine ⟨(e.2 _).1 h1, ?_⟩
    rw [hU, ht]; exact h2
  · intro t
    rw [hU, ht]; exact h.slots t
theorem STo.xe {E : Env} {ops : Array Oper} {o : Oper} {sl : List (Nat × AV)} {X Y Z : Xs} {d : Nat} {r : AV} (h : STo E ops o sl X Y d r) (e : XE Y Z) : STo E ops o sl X Z d r := by
  intro sl2 hle a w Q K hr hk
  exact h sl2 hle a w Q K hr (fun a' w' hr' => hk a' w' (by obtain ⟨χ, hd, h0⟩ := hr'; exact ⟨χ, hd, h0.xe e⟩))
def keysX (l : List (Nat × Root)) : List Nat := l.map (·.1)
theorem addX_eq : ∀ (l : List (Nat × Root)) (X : Xs), addX X l = ((l.map fun p => (p.1, some p.2)).reverse ++ X.1, (keysX l).reverse ++ X.2)
  | [], X => by simp [addX, keysX]
  | (i, R) :: l, X => by
    rw [addX, addX_eq l]
    simp [keysX]
theorem lookup_none {β : Type} {i : Nat} : ∀ {l : List (Nat × β)}, i ∉ l.map (·.1) → l.lookup i = none
  | [], h => rfl
  | (j, x) :: l, h => by
    simp only [List.map_cons, List.mem_cons, not_or] at h
    rw [lookup_cons_ne h.1]
    exact lookup_none h.2
theorem XE.add {X Y : Xs} (h : XE X Y) (l : List (Nat × Root)) : XE (addX X l) (addX Y l) := by
  rw [addX_eq, addX_eq]
  refine ⟨fun i => ?_, fun i => ?_⟩
  · simp only [List.lookup_append, h.1 i]
  · simp only [List.mem_append, h.2 i]
theorem XE.swap {X : Xs} {a l : List (Nat × Root)} (hd : ∀ i ∈ keysX a, i ∉ keysX l) : XE (addX (addX X a) l) (addX (addX X l) a) := by
  simp only [addX_eq]
  refine ⟨fun i => ?_, fun i => ?_⟩
  · simp only [List.lookup_append]
    by_cases hi : i ∈ keysX a
    · have := lookup_none (i := i) (l := (l.map fun p => (p.1, some p.2)).reverse) (by
        have := hd i hi
        simpa [keysX] using this)
      rw [this]; simp
    · have := lookup_none (i := i) (l := (a.map fun p => (p.1, some p.2)).reverse) (by simpa [keysX] using hi)
      rw [this]; simp
  · simp only [List.mem_append]
    constructor
    · rintro (h | h | h)
      · exact .inr (.inl h)
      · exact .inl h
      · exact .inr (.inr h)
    · rintro (h | h | h)
      · exact .inr (.inl h)
      · exact .inl h
      · exact .inr (.inr h)
def stB (X : Xs) : List (List (Nat × Root)) → List Bool → Xs
  | l :: Ls, true :: bs => stB (addX X l) Ls bs
  | _ :: Ls, false :: bs => stB X Ls bs
  | _, _ => X
theorem stB_xe : ∀ (Ls : List (List (Nat × Root))) (bs : List Bool) {X Y : Xs}, XE X Y → XE (stB X Ls bs) (stB Y Ls bs)
  | [], _, X, Y, h => by simpa only [stB] using h
  | l :: Ls, [], X, Y, h => by simpa only [stB] using h
  | l :: Ls, true :: bs, X, Y, h => by simp only [stB]; exact stB_xe Ls bs (h.add l)
  | l :: Ls, false :: bs, X, Y, h => by simp only [stB]; exact stB_xe Ls bs h
theorem stB_add : ∀ (Ls : List (List (Nat × Root))) (bs : List Bool) (X : Xs) (l : List (Nat × Root)), (∀ L ∈ Ls, ∀ i ∈ keysX l, i ∉ keysX L) → XE (addX (stB X Ls bs) l) (stB (addX X l) Ls bs)
  | [], _, X, l, h => by simp only [stB]; exact XE.refl _
  | L :: Ls, [], X, l, h => by simp only [stB]; exact XE.refl _
  | L :: Ls, true :: bs, X, l, h => by
    simp only [stB]
    refine (stB_add Ls bs (addX X L) l (fun M hM => h M (List.mem_cons_of_mem _ hM))).trans (stB_xe Ls bs (XE.swap ?_))
    intro i hi hl
    exact h L List.mem_cons_self i hl hi
  | L :: Ls, false :: bs, X, l, h => by
    simp only [stB]
    exact stB_add Ls bs X l (fun M hM => h M (List.mem_cons_of_mem _ hM))
def keysL (Ls : List (List (Nat × Root))) : List Nat := Ls.flatMap keysX
theorem nxtS_self {i : Nat} : ∀ {Ms : List Nat} {bs : List Bool}, i ∉ Ms → bs.length = Ms.length → nxtS i Ms bs = bs
  | [], [], _, _ => rfl
  | [], b :: bs, _, h => by simp at h
  | k :: Ms, [], _, h => by simp at h
  | k :: Ms, b :: bs, hi, h => by
    simp only [List.mem_cons, not_or] at hi
    simp only [nxtS, List.zip_cons_cons, List.map_cons]
    have := nxtS_self hi.2 (by simpa using h)
    simp only [nxtS] at this
    rw [this]
    have e : (k == i) = false := by simp; exact fun e => hi.1 e.symm
    rw [e, Bool.or_false]
theorem stB_nxt {i : Nat} {L : List (Nat × Root)} : ∀ {Ms : List Nat} {Ls : List (List (Nat × Root))} {bs : List Bool} {X : Xs}, Ms.Nodup → Ls.length = Ms.length → bs.length = Ms.length → (keysL Ls).Nodup → (Ms.zip Ls).lookup i = some L → (∀ p ∈ Ms.zip bs, p.1 = i → p.2 = false) →
    XE (addX (stB X Ls bs) L) (stB X Ls (nxtS i Ms bs))
  | [], Ls, bs, X, _, _, _, _, h, _ => by simp at h
  | k :: Ms, [], bs, X, _, h, _, _, _, _ => by simp at h
  | k :: Ms, l :: Ls, [], X, _, _, h, _, _, _ => by simp at h
  | k :: Ms, l :: Ls, b :: bs, X, hn, h1, h2, h3, h4, h5 => by
    obtain ⟨hk, hn⟩ := List.nodup_cons.1 hn
    have h1' : Ls.length = Ms.length := by simpa using h1
    have h2' : bs.length = Ms.length := by simpa using h2
    have h3' : (keysL Ls).Nodup ∧ ∀ L' ∈ Ls, ∀ j ∈ keysX l, j ∉ keysX L' := by
      simp only [keysL, List.flatMap_cons] at h3
      obtain ⟨_, n2, n3⟩ := List.nodup_append.1 h3
      exact ⟨n2, fun L' hL' j hj hj' => n3 j hj j (List.mem_flatMap.2 ⟨L', hL', hj'⟩) rfl⟩
    have en : nxtS i (k :: Ms) (b :: bs) = (b || k == i) :: nxtS i Ms bs := rfl
    rw [en]
    by_cases hik : i = k
    · subst hik
      have hb : b = false := h5 (i, b) (by simp) rfl
      subst hb
      rw [List.zip_cons_cons, lookup_cons_same] at h4
      cases h4
      rw [nxtS_self hk h2']
      simp only [beq_self_eq_true, Bool.or_true, stB]
      exact stB_add Ls bs X _ h3'.2
    · rw [List.zip_cons_cons, lookup_cons_ne hik] at h4
      have e : (k == i) = false := by simp; exact fun e => hik e.symm
      rw [e, Bool.or_false]
      have h5' : ∀ p ∈ Ms.zip bs, p.1 = i → p.2 = false := fun p hp => h5 p (by rw [List.zip_cons_cons]; exact List.mem_cons_of_mem _ hp)
      cases b
      · simp only [stB]
        exact stB_nxt hn h1' h2' h3'.1 h4 h5'
      · simp only [stB]
        exact stB_nxt hn h1' h2' h3'.1 h4 h5'

/- ------------------------------------------------ the executor -/
def exML (Θ : Tys) (P : Program) (n : Nat) (s : St) (o : Oper) (d : Nat) (h : Hn) : Option (AV × List (Nat × Root) × List Prop) :=
  if d < n then if ndOps s o.op then match h.h with
    | .callR zss res ids x' l => if frB s.us ids then match o.op with
      | .call ⟨.value x, args, _⟩ => match opnd s x with
        | .fn f caps => match outCL s [] (args.toList.map (opnd s) ++ caps) zss with
          | some (outs, ps, []) => some (x', l, Meets P f outs res :: (noRo res = true) :: ((rtf res ids).1 = x') :: ((rtf res ids).2.1 = l) :: ps)
          | _ => none
        | _ => none
      | _ => none
      else none
    | .call zss res ids => if frB s.us ids then match o.op with
      | .call ⟨.value x, args, _⟩ => match opnd s x with
        | .fn f caps => match outCL s [] (args.toList.map (opnd s) ++ caps) zss with
          | some (outs, ps, []) => some ((ovr (rtf res ids).1 h.o).1, (rtf res ids).2.1, Meets P f outs res :: (noRo res = true) :: ((ovr (rtf res ids).1 h.o).2 ++ ps))
          | _ => none
        | _ => none
      | _ => none
      else none
    | .api => none
    | hh => match idOf hh with
      | some id => if frB s.us [id] then match newC Θ s o.op hh id with
        | some (R, r, ps) => some ((ovr r h.o).1, [(id, (newRoot R hh).1)], (newRoot R hh).2 ++ ((ovr r h.o).2 ++ ps))
        | none => none
        else none
      | none => none
    else none
  else none
theorem exML_exM {Θ : Tys} {P : Program} {n : Nat} {s : St} {o : Oper} {d : Nat} {h : Hn} {r : AV} {l : List (Nat × Root)} {ps : List Prop} (he : exML Θ P n s o d h = some (r, l, ps)) : exM Θ P n s o d h = some (r, addX (s.rt, s.us) l, ps) := by
  unfold exML at he
  unfold exM
  split at he
  case isFalse => cases he
  rename_i h1
  rw [if_pos h1]
  split at he
  case isFalse => cases he
  rename_i h2
  rw [if_pos h2]
  split at he
  · rename_i zss res ids x' l' hh
    split at he
    case isFalse => cases he
    rename_i h3
    simp only [hh, if_pos h3]
    split at he
    case h_2 => cases he
    rename_i hop
    simp only [hop]
    split at he
    case h_2 => cases he
    rename_i hx
    simp only [hx]
    split at he
    case h_2 => cases he
    rename_i ho
    simp only [ho]
    cases he
    rfl
  · rename_i zss res ids hh
    split at he
    case isFalse => cases he
    rename_i h3
    simp only [hh, if_pos h3]
    split at he
    case h_2 => cases he
    rename_i hop
    simp only [hop]
    split at he
    case h_2 => cases he
    rename_i hx
    simp only [hx]
    split at he
    case h_2 => cases he
    rename_i ho
    simp only [ho]
    cases he
    rfl
  · cases he
  · rename_i hh hn1 hn2 hn3
    split at he
    case h_2 => cases he
    rename_i id hid
    split at he
    case isFalse => cases he
    rename_i h3
    split at he
    case h_2 => cases he
    rename_i R r0 qs hnw
    cases he
    cases hh0 : h.h <;> simp only [hh0, idOf] at hid hnw h3 ⊢ <;> first | (cases hid; done) | (cases hid; simp only [if_pos h3, hnw]; rfl)
def allB : Nat → List (List Bool)
  | 0 => [[]]
  | n + 1 => (allB n).flatMap fun bs => [false :: bs, true :: bs]
theorem mem_allB : ∀ (bs : List Bool), bs ∈ allB bs.length
  | [] => by simp [allB]
  | b :: bs => by
    simp only [List.length_cons, allB, List.mem_flatMap]
    exact ⟨bs, mem_allB bs, by cases b <;> simp⟩
def exAt (Θ : Tys) (P : Program) (n : Nat) (ops : Array Oper) (msk sl : List (Nat × AV)) (Ms : List Nat) (Ls : List (List (Nat × Root))) (X0 : Xs) (rd : List (Nat × AV)) (i : Nat) (o : Oper) (d : Nat) (h : Hn) (r : AV) (bs : List Bool) : Option (List Prop) :=
  match wantC ops n o ⟨pickF ops.toList rd o ++ (msk ++ sl), (stB X0 Ls bs).1, (stB X0 Ls bs).2⟩ with
  | some true => if Ms.contains i then (match exML Θ P n ⟨pickF ops.toList rd o ++ (msk ++ sl), (stB X0 Ls bs).1, (stB X0 Ls bs).2⟩ o d h, (Ms.zip Ls).lookup i with
      | some (r2, l, ps), some L => some ((r2 = r) :: (l = L) :: ps)
      | _, _ => none)
    else match exV Θ P n ⟨pickF ops.toList rd o ++ (msk ++ sl), (stB X0 Ls bs).1, (stB X0 Ls bs).2⟩ o d h with
      | some (r2, ps) => some ((r2 = r) :: ps)
      | none => none
  | some false => if Ms.contains i then none else if d < n then some [AV.lit undef = r] else none
  | none => none
theorem exAt_sound {E : Env} {Θ : Tys} (hΘ : TOK E.P Θ) {ops : Array Oper} {msk sl : List (Nat × AV)} {Ms : List Nat} {A : List (List Nat)} {Ls : List (List (Nat × Root))} {X0 : Xs} {rd : List (Nat × AV)} {i : Nat} {o : Oper} {d : Nat} {h : Hn} {r : AV} {bs : List Bool} {ps : List Prop} (hd : o.dst = some d)
    (hn : Ms.Nodup) (h1 : Ls.length = Ms.length) (h2 : bs.length = Ms.length) (h3 : (keysL Ls).Nodup) (hok : okS Ms A i bs = true) (he : exAt Θ E.P E.n ops msk sl Ms Ls X0 rd i o d h r bs = some ps) (hp : AllP ps) : STo E ops o (pickF ops.toList rd o ++ (msk ++ sl)) (stB X0 Ls bs) (stB X0 Ls (nxtS i Ms bs)) d r := by
  have hbi : ∀ p ∈ Ms.zip bs, p.1 = i → p.2 = false := by
    intro p hp' hpi
    unfold okS at hok
    have := List.all_eq_true.1 hok p hp'
    simp only [Bool.and_eq_true, Bool.or_eq_true, Bool.not_eq_true'] at this
    rcases this.1.2 with h | h
    · simp [hpi] at h
    · exact h
  unfold exAt at he
  split at he
  · rename_i hw
    split at he
    · rename_i hM
      split at he
      case h_2 => cases he
      rename_i r2 l qs L hl hL
      cases he
      obtain ⟨e1, e2, e3⟩ := hp
      subst e1; subst e2
      have := sto_yes hw (exM_sound hΘ hd (exML_exM hl) e3)
      exact this.xe (stB_nxt hn h1 h2 h3 hL hbi)
    · rename_i hM
      split at he
      case h_2 => cases he
      rename_i r2 qs hv
      cases he
      obtain ⟨e1, e3⟩ := hp
      subst e1
      rw [nxtS_self (by simpa using hM) h2]
      exact STo.of (vto_yes hw (exV_sound hΘ hd hv e3).2)
  · rename_i hw
    split at he
    · cases he
    rename_i hM
    split at he
    case isFalse => cases he
    rename_i hdn
    cases he
    obtain ⟨e1, _⟩ := hp
    subst e1
    rw [nxtS_self (by simpa using hM) h2]
    exact STo.of (vto_no hd hdn hw)
  · cases he
def exAts (f : List Bool → Option (List Prop)) : List (List Bool) → Option (List Prop)
  | [] => some []
  | bs :: rest => match f bs, exAts f rest with
    | some ps, some qs => some (ps ++ qs)
    | _, _ => none
theorem exAts_sound {f : List Bool → Option (List Prop)} : ∀ {l : List (List Bool)} {ps : List Prop}, exAts f l = some ps → AllP ps → ∀ bs ∈ l, ∃ qs, f bs = some qs ∧ AllP qs
  | [], ps, _, _, bs, h => by cases h
  | b :: l, ps, he, hp, bs, h => by
    simp only [exAts] at he
    split at he
    case h_2 => cases he
    rename_i p1 p2 h1 h2
    cases he
    obtain ⟨q1, q2⟩ := allP_app hp
    rcases List.mem_cons.1 h with rfl | h
    · exact ⟨_, h1, q1⟩
    · exact exAts_sound h2 q2 bs h
def chkAll (Θ : Tys) (P : Program) (n : Nat) (ops : Array Oper) (msk sl : List (Nat × AV)) (Ms : List Nat) (A : List (List Nat)) (Ls : List (List (Nat × Root))) (X0 : Xs) (rd : List (Nat × AV)) : List Oper → Nat → Nat → List Hn → Option (Nat × List Hn × List Prop)
  | [], i, k, hs => some (k, hs, [])
  | o :: rest, i, k, hs => match o.dst with
    | some d => match rd.lookup d with
      | some r => match exAts (exAt Θ P n ops msk sl Ms Ls X0 rd i o d (pop k hs).1 r) ((allB Ms.length).filter (okS Ms A i)) with
        | some ps => match chkAll Θ P n ops msk sl Ms A Ls X0 rd rest (i + 1) (k + 1) (pop k hs).2 with
          | some (k', hs', qs) => some (k', hs', ps ++ qs)
          | none => none
        | none => none
      | none => none
    | none => none
theorem chkAll_sound {E : Env} {Θ : Tys} (hΘ : TOK E.P Θ) {ops : Array Oper} {msk sl : List (Nat × AV)} {Ms : List Nat} {A : List (List Nat)} {Ls : List (List (Nat × Root))} {X0 : Xs} {rd : List (Nat × AV)} (hn : Ms.Nodup) (h1 : Ls.length = Ms.length) (h3 : (keysL Ls).Nodup) :
    ∀ {l : List Oper} {i k k' : Nat} {hs hs' : List Hn} {ps : List Prop}, chkAll Θ E.P E.n ops msk sl Ms A Ls X0 rd l i k hs = some (k', hs', ps) → AllP ps →
    ∀ j o, l[j]? = some o → ∃ d r, o.dst = some d ∧ rd.lookup d = some r ∧ ∀ bs, bs.length = Ms.length → okS Ms A (i + j) bs = true → STo E ops o (pickF ops.toList rd o ++ (msk ++ sl)) (stB X0 Ls bs) (stB X0 Ls (nxtS (i + j) Ms bs)) d r
  | [], i, k, k', hs, hs', ps, _, _, j, o, h => by simp at h
  | o0 :: rest, i, k, k', hs, hs', ps, he, hp, j, o, h => by
    simp only [chkAll] at he
    split at he
    case h_2 => cases he
    rename_i d hd
    split at he
    case h_2 => cases he
    rename_i r hr
    split at he
    case h_2 => cases he
    rename_i p1 ha
    split at he
    case h_2 => cases he
    rename_i k2 hs2 p2 hrest
    cases he
    obtain ⟨q1, q2⟩ := allP_app hp
    cases j with
    | zero =>
      have : o0 = o := by simpa using h
      subst this
      refine ⟨d, r, hd, hr, fun bs hb hok => ?_⟩
      obtain ⟨qs, e1, e2⟩ := exAts_sound ha q1 bs (by rw [List.mem_filter]; exact ⟨by rw [← hb]; exact mem_allB bs, by simpa using hok⟩)
      exact exAt_sound hΘ hd hn h1 hb h3 hok e1 e2
    | succ j =>
      have := chkAll_sound hΘ hn h1 h3 hrest q2 j o (by simpa using h)
      rw [show i + 1 + j = i + (j + 1) by omega] at this
      exact this
/-- the first pass: the values and the roots, as they come in the text's order -/
def pass1 (Θ : Tys) (P : Program) (n : Nat) (ops : Array Oper) (msk sl : List (Nat × AV)) (Ms : List Nat) : List Oper → Nat → Nat → Xs → List (Nat × AV) → List (List (Nat × Root)) → List Hn → Option (List (Nat × AV) × List (List (Nat × Root)))
  | [], i, k, X, done, Ls, hs => some (done, Ls)
  | o :: rest, i, k, X, done, Ls, hs => match o.dst with
    | some d => match wantC ops n o ⟨pickF ops.toList done o ++ (msk ++ sl), X.1, X.2⟩ with
      | some true => if Ms.contains i then match exML Θ P n ⟨pickF ops.toList done o ++ (msk ++ sl), X.1, X.2⟩ o d (pop k hs).1 with
          | some (r, l, _) => pass1 Θ P n ops msk sl Ms rest (i + 1) (k + 1) (addX X l) ((d, r) :: done) (Ls ++ [l]) (pop k hs).2
          | none => none
        else match exV Θ P n ⟨pickF ops.toList done o ++ (msk ++ sl), X.1, X.2⟩ o d (pop k hs).1 with
          | some (r, _) => pass1 Θ P n ops msk sl Ms rest (i + 1) (k + 1) X ((d, r) :: done) Ls (pop k hs).2
          | none => none
      | some false => pass1 Θ P n ops msk sl Ms rest (i + 1) (k + 1) X ((d, .lit undef) :: done) Ls (pop k hs).2
      | none => none
    | none => none
def exDS (Θ : Tys) (P : Program) (n : Nat) (ops : Array Oper) (m k : Nat) (s : St) (Ms : List Nat) (A : List (List Nat)) (hs : List Hn) : Option (Nat × St × List Hn × List Prop) :=
  if headB ops.toList m && tailA ops.toList m A && Region.seqB .any ops (ops.toList.length - m) m (lst0 ops.toList.length m) && ancB ops.toList m A && Ms.all (fun i => decide (i < m)) && decide (Ms.Nodup) then
    match pass1 Θ P n ops (maskF (ops.toList.take m)) s.sl Ms (ops.toList.take m) 0 k (s.rt, s.us) [] [] hs with
    | some (rd, Ls) => if rdB ops.toList m rd && decide (Ls.length = Ms.length) && decide ((keysL Ls).Nodup) then match chkAll Θ P n ops (maskF (ops.toList.take m)) s.sl Ms A Ls (s.rt, s.us) rd (ops.toList.take m) 0 k hs with
      | some (k3, hs3, ts) => match exOps Θ P n ops (ops.toList.drop m) k3 ⟨rd ++ s.sl, (stB (s.rt, s.us) Ls (Ms.map fun _ => true)).1, (stB (s.rt, s.us) Ls (Ms.map fun _ => true)).2⟩ hs3 with
        | some (k4, s4, hs4, us) => some (k4, s4, hs4, ts ++ us)
        | none => none
      | none => none
      else none
    | none => none
  else none
theorem stB_false {X : Xs} {Ms : List Nat} : ∀ (Ls : List (List (Nat × Root))), stB X Ls (Ms.map fun _ => false) = X := by
  induction Ms with
  | nil => intro Ls; cases Ls <;> rfl
  | cons k Ms ih => intro Ls; cases Ls with
    | nil => rfl
    | cons l Ls => simp only [List.map_cons, stB]; exact ih Ls
theorem exDS_sound {E : Env} {Θ : Tys} (hΘ : TOK E.P Θ) (hmo : E.P.follows .mixedOrders = true) {id : Nat} {ops : Array Oper} {m k k' : Nat} {s s' : St} {Ms : List Nat} {A : List (List Nat)} {hs hs' : List Hn} {ps : List Prop} (h : exDS Θ E.P E.n ops m k s Ms A hs = some (k', s', hs', ps)) (hp : AllP ps) {Q : Exit → St → Prop} (hq : Q .normal s') : TWp E (.region id ops true) Q s := by
  unfold exDS at h
  split at h
  case isFalse => cases h
  rename_i hok
  simp only [Bool.and_eq_true, decide_eq_true_eq] at hok
  obtain ⟨⟨⟨⟨⟨hh, ht⟩, hseq⟩, hA⟩, hMs⟩, hMn⟩ := hok
  split at h
  case h_2 => cases h
  rename_i rd Ls he
  split at h
  case isFalse => cases h
  rename_i hok2
  simp only [Bool.and_eq_true, decide_eq_true_eq] at hok2
  obtain ⟨⟨hrd, hL⟩, hK⟩ := hok2
  split at h
  case h_2 => cases h
  rename_i k3 hs3 ts hx
  split at h
  case h_2 => cases h
  rename_i k4 s4 hs4 us ho
  cases h
  obtain ⟨h3, h4⟩ := allP_app hp
  obtain ⟨sl, rt, us0⟩ := s
  have hone : MOneS E ops.toList m sl (stB (rt, us0) Ls) Ms A rd := by
    intro i o hi ho'
    have := chkAll_sound hΘ hMn hL hK hx h3 i o (by rw [List.getElem?_take, if_pos hi]; exact ho')
    rw [Nat.zero_add] at this
    exact this
  have := twp_drawS (E := E) (id := id) (ops := ops) (Q := Q) m hmo hh ht hseq hA hMs hMn hrd hone (exOps_sound hΘ ho h4 hq)
  rw [stB_false] at this
  exact this
/-- each after the one before -/
def chB (A : List (List Nat)) : List Nat → Bool
  | a :: b :: l => (ancs A b).contains a && chB A (b :: l)
  | _ => true
def exReg (Θ : Tys) (P : Program) (n : Nat) (ops : Array Oper) (draw : Bool) (k : Nat) (s : St) (hs : List Hn) : Option (Nat × St × List Hn × List Prop) :=
  if draw then match ghs k hs s with
    | some (s1, hs1, ps) => if ops.toList.any memOp || decide ((msOf k (drawM ops) hs1).length ≠ 0) then (if chB (ancTab ops.toList []) (msOf k (drawM ops) hs1) then (match exDM Θ P n ops (drawM ops) k s1 (msOf k (drawM ops) hs1) (ancTab ops.toList []) hs1 with
      | some (k3, s3, hs3, rs) => some (k3, s3, hs3, ps ++ rs)
      | none => none)
      else (match exDS Θ P n ops (drawM ops) k s1 (msOf k (drawM ops) hs1) (ancTab ops.toList []) hs1 with
      | some (k3, s3, hs3, rs) => some (k3, s3, hs3, ps ++ rs)
      | none => none))
      else if drawOK ops (drawK ops) then match exHead Θ P n ops s1.sl s1.rt s1.us (ops.toList.take (ops.toList.length - drawK ops)) k [] hs1 with
      | some (k2, rd, hs2, qs) => match exOps Θ P n ops (ops.toList.drop (ops.toList.length - drawK ops)) k2 ⟨rd ++ s1.sl, s1.rt, s1.us⟩ hs2 with
        | some (k3, s3, hs3, rs) => some (k3, s3, hs3, ps ++ (qs ++ rs))
        | none => none
      | none => none
      else none
    | none => none
  else exOps Θ P n ops ops.toList k s hs
theorem exReg_sound {E : Env} {Θ : Tys} (hΘ : TOK E.P Θ) (hm : E.P.follows .mixedOrders = true) {id : Nat} {ops : Array Oper} {draw : Bool} {k k' : Nat} {s s' : St} {hs hs' : List Hn} {ps : List Prop} (h : exReg Θ E.P E.n ops draw k s hs = some (k', s', hs', ps)) (hp : AllP ps) {Q : Exit → St → Prop} (hq : Q .normal s') : TWp E (.region id ops draw) Q s := by
  unfold exReg at h
  split at h
  · rename_i hdr
    subst hdr
    split at h
    case h_2 => cases h
    rename_i s1 hs1 qs hg
    split at h
    · split at h
      · split at h
        case h_2 => cases h
        rename_i k3 s3 hs3 rs hx
        cases h
        obtain ⟨h1, h2⟩ := allP_app hp
        exact twp_ent (ghs_sound hg h1) (exDM_sound hΘ hm hx h2 hq)
      · split at h
        case h_2 => cases h
        rename_i k3 s3 hs3 rs hx
        cases h
        obtain ⟨h1, h2⟩ := allP_app hp
        exact twp_ent (ghs_sound hg h1) (exDS_sound hΘ hm hx h2 hq)
    split at h
    case isFalse => cases h
    rename_i hok
    simp only [drawOK, Bool.and_eq_true] at hok
    split at h
    case h_2 => cases h
    rename_i k2 rd hs2 rs hh
    split at h
    case h_2 => cases h
    rename_i k3 s3 hs3 ts ho
    cases h
    obtain ⟨h1, h2⟩ := allP_app hp
    obtain ⟨h3, h4⟩ := allP_app h2
    refine twp_ent (ghs_sound hg h1) ?_
    obtain ⟨sl, rt, us⟩ := s1
    exact twp_drawN (drawK ops) hm hok.1.1 hok.1.2 hok.2 (exHead_sound hΘ hh h3) (exOps_sound hΘ ho h4 hq)
  · rename_i hdr
    have : draw = false := by simpa using hdr
    subst this
    exact twp_rwl (exOps_sound hΘ h hp hq)
end Go.T
