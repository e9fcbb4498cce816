/- Lemmas for FnExactWarnsGuarded; no condition. -/

import Derived.Test.YtihgcgccajikpaaBN

/- Plain facts about the families of the laws: sizes, copies, comparing, marking; no condition. -/

set_option linter.unusedVariables false
namespace Go.T
open Go

section
variable {α : Type}
/-- a list compared with itself, element by element -/
theorem eqL {p : List α} {e : α → α → Option Bool} {F : Nat → Int → Option Bool}
    (hF : ∀ n v, F (n + 1) v = if (decide (v < (p.length : Int))) = true then Option.bind (rd p v) fun x => Option.bind (rd p v) fun y => Option.bind (e x y) fun r => if (!r) = true then some false else F n (w64 (v + 1)) else some true)
    (hp : p.length < 1099511627776) (he : ∀ x ∈ p, e x x = some true) : F FU 0 = some true := by
  have key : ∀ (n k : Nat), k ≤ p.length → p.length < n + k → F n k = some true := by
    intro n
    induction n with
    | zero => intro k h1 h2; omega
    | succ n ih =>
      intro k h1 h2
      rw [hF]
      by_cases hk : k < p.length
      · simp only [PS, hk, rd_at hk, w64_s (k := k) (by omega), ih (k + 1) hk (by omega), he _ (List.getElem_mem hk)]
      · simp [hk]
  exact key FU 0 (by omega) (by have := FU_gt hp; omega)
theorem eqLs [BEq α] [LawfulBEq α] {p : List α} {F : Nat → Int → Option Bool}
    (hF : ∀ n v, F (n + 1) v = if (decide (v < (p.length : Int))) = true then Option.bind (rd p v) fun x => Option.bind (rd p v) fun y => if (x != y) = true then some false else F n (w64 (v + 1)) else some true)
    (hp : p.length < 1099511627776) : F FU 0 = some true :=
  eqL (e := fun x y => some (x == y)) (fun n v => by rw [hF]; rfl) hp (fun x _ => by simp)
theorem eqLs' [BEq α] [LawfulBEq α] {p : List α} {F : Nat → Int → Option Bool}
    (hF : ∀ n v, F (n + 1) v = if (decide (v < (p.length : Int))) = true then Option.bind (rd p v) fun x => Option.bind (rd p v) fun y => if (!(x == y)) = true then some false else F n (w64 (v + 1)) else some true)
    (hp : p.length < 1099511627776) : F FU 0 = some true :=
  eqL (e := fun x y => some (x == y)) (fun n v => by rw [hF]; rfl) hp (fun x _ => by simp)
/-- a list copied, element by element -/
theorem toL {p : List α} {t : α → Option α} {F : Nat → List α → Int → Option (List α)}
    (hF : ∀ n a v, F (n + 1) a v = if (decide (v < (p.length : Int))) = true then Option.bind (rd p v) fun x => Option.bind (t x) fun r => Option.bind (rd a v) fun _ => F n (a.set (Int.toNat v) r) (w64 (v + 1)) else some a)
    (hp : p.length < 1099511627776) (ht : ∀ x ∈ p, t x = some x) (z : α) : (Option.bind (mk z (p.length : Int)) fun l => F FU l 0) = some p := by
  have key : ∀ (n k : Nat) (a : List α), k ≤ p.length → p.length < n + k → a.length = p.length → a.take k = p.take k → F n a k = some p := by
    intro n
    induction n with
    | zero => intro k a h1 h2; omega
    | succ n ih =>
      intro k a h1 h2 h3 h4
      rw [hF]
      by_cases hk : k < p.length
      · have hk' : k < a.length := by omega
        have := ih (k + 1) (a.set k p[k]) hk (by omega) (by simp [h3]) (by
          rw [List.take_add_one, List.take_add_one, List.take_set_of_le (Nat.le_refl k), h4]; simp [hk, hk'])
        simp only [PS, hk, rd_at hk, rd_at hk', ht _ (List.getElem_mem hk), w64_s (k := k) (by omega), this]
      · have : k = p.length := by omega
        subst this
        rw [List.take_length, ← h3, List.take_length] at h4
        simp [h4]
  rw [mk_ok hp, Option.bind_some]
  exact key FU 0 _ (by omega) (by have := FU_gt hp; omega) (by simp) (by simp)
theorem toLs {p : List α} {F : Nat → List α → Int → Option (List α)}
    (hF : ∀ n a v, F (n + 1) a v = if (decide (v < (p.length : Int))) = true then Option.bind (rd p v) fun x => Option.bind (rd a v) fun _ => F n (a.set (Int.toNat v) x) (w64 (v + 1)) else some a)
    (hp : p.length < 1099511627776) (z : α) : (Option.bind (mk z (p.length : Int)) fun l => F FU l 0) = some p :=
  toL (t := some) hF hp (fun _ _ => rfl) z
/-- the rows' numbers, one behind the other -/
inductive Chain (held : α → Int → Int → Prop) : List α → Int → Int → Prop
  | nil (v : Int) : Chain held [] v v
  | cons {y : α} {l : List α} {v v1 v2 : Int} : held y v v1 → 0 ≤ v1 → Chain held l v1 v2 → Chain held (y :: l) v v2
theorem markL {F : Nat → List α → Int → Int → Option (Int × List α)} {H : α → Int → Int → Prop} {ok : α → Prop} {b : Int} (hb : 0 ≤ b) {B : Nat}
    (hE : ∀ n a v k, k = (a.length : Int) → F (n + 1) a v k = some (v, a))
    (hS : ∀ n (a : List α) v k (hk : k < a.length), ok a[k] → 0 ≤ v → v + b < 4611686018427387904 → ∃ v' y, F (n + 1) a v k = F n (a.set k y) v' (w64 ((k : Int) + 1)) ∧ H y v v' ∧ v ≤ v' ∧ v' ≤ v + b)
    (hB : (B : Int) < 1099511627776) : ∀ (a : List α) (v : Int), a.length ≤ B → (∀ x ∈ a, ok x) → 0 ≤ v → v + b * B < 4611686018427387904 → ∃ v' a', F FU a v 0 = some (v', a') ∧ a'.length = a.length ∧ Chain H a' v v' ∧ v ≤ v' ∧ v' ≤ v + b * B := by
  have key : ∀ (n k : Nat) (a : List α) (v : Int), k ≤ a.length → a.length < n + k → a.length < 1099511627776 → (∀ x ∈ a.drop k, ok x) → 0 ≤ v → v + b * ((a.length : Int) - k) < 4611686018427387904 →
      ∃ v' l, F n a v k = some (v', a.take k ++ l) ∧ l.length = a.length - k ∧ Chain H l v v' ∧ v ≤ v' ∧ v' ≤ v + b * ((a.length : Int) - k) := by
    intro n
    induction n with
    | zero => intro k a v h1 h2; omega
    | succ n ih =>
      intro k a v h1 h2 h3 h4 h5 h6
      by_cases hk : k < a.length
      · have hd : a.drop k = a[k] :: a.drop (k + 1) := List.drop_eq_getElem_cons hk
        have e1 : b * ((a.length : Int) - k) = b + b * ((a.length : Int) - ((k + 1 : Nat) : Int)) := by
          rw [show (a.length : Int) - k = 1 + ((a.length : Int) - ((k + 1 : Nat) : Int)) by omega, Int.mul_add, Int.mul_one]
        have e2 : 0 ≤ b * ((a.length : Int) - ((k + 1 : Nat) : Int)) := Int.mul_nonneg hb (by omega)
        obtain ⟨v1, y, f1, f2, f3, f4⟩ := hS n a v k hk (h4 _ (by rw [hd]; exact List.mem_cons_self)) h5 (by omega)
        obtain ⟨v2, l, g1, g2, g3, g4, g5⟩ := ih (k + 1) (a.set k y) v1 (by rw [List.length_set]; omega) (by rw [List.length_set]; omega) (by rw [List.length_set]; exact h3) (fun x hx => h4 x (by
          rw [List.drop_set_of_lt (by omega)] at hx
          rw [hd]; exact List.mem_cons_of_mem _ hx)) (by omega) (by rw [List.length_set]; omega)
        rw [List.length_set] at g2 g5
        refine ⟨v2, y :: l, ?_, by simp; omega, .cons f2 (by omega) g3, by omega, by omega⟩
        rw [f1, w64_s (k := k) (by omega), g1, List.take_add_one, List.take_set_of_le (Nat.le_refl k)]
        simp [hk]
      · have : k = a.length := by omega
        subst this
        refine ⟨v, [], ?_, by simp, .nil v, by omega, by simp⟩
        rw [hE _ _ _ _ rfl]; simp
  intro a v ha hok h0 hv
  have e1 : b * (a.length : Int) ≤ b * B := Int.mul_le_mul_of_nonneg_left (by omega) hb
  obtain ⟨v', l, f1, f2, f3, f4, f5⟩ := key FU 0 a v (by omega) (by have := FU_gt (n := a.length) (by omega); omega) (by omega) (by simpa using hok) h0 (by simpa using (show v + b * (a.length : Int) < _ by omega))
  refine ⟨v', l, by simpa using f1, by simpa using f2, f3, f4, ?_⟩
  have : v' ≤ v + b * (a.length : Int) := by simpa using f5
  omega
theorem heldL {H : α → Int → Int → Prop} {p : List α} {F : Nat → Int → Int → Option Int}
    (hE : ∀ n v k, k = (p.length : Int) → F (n + 1) v k = some v)
    (hS : ∀ n v v' k (hk : k < p.length), H p[k] v v' → 0 ≤ v' → F (n + 1) v k = F n v' (w64 ((k : Int) + 1)))
    (hp : p.length < 1099511627776) {v v' : Int} (hc : Chain H p v v') : F FU v 0 = some v' := by
  have key : ∀ (n k : Nat) (l : List α) (v v' : Int), k ≤ p.length → p.length < n + k → p.drop k = l → Chain H l v v' → F n v k = some v' := by
    intro n
    induction n with
    | zero => intro k l v v' h1 h2; omega
    | succ n ih =>
      intro k l v v' h1 h2 h3 h4
      cases h4 with
      | nil => 
        have : k = p.length := by
          have := congrArg List.length h3
          simp at this; omega
        exact hE n v k (by omega)
      | @cons y l _ v1 _ e1 e2 e3 =>
        have hk : k < p.length := by
          have := congrArg List.length h3
          simp at this; omega
        rw [List.drop_eq_getElem_cons hk] at h3
        injection h3 with h3 h3'
        subst h3
        rw [hS n v v1 k hk e1 e2, w64_s (k := k) (by omega)]
        exact ih (k + 1) l v1 v' hk (by omega) h3' e3
  exact key FU 0 p v v' (by omega) (by have := FU_gt hp; omega) (by simp) hc
/-- numbered by a function -/
def Num (num : Int → α) (nxt : Int → Int) (y : α) (v v' : Int) : Prop := y = num v ∧ 0 ≤ v ∧ v' = nxt v ∧ v' < 4611686018427387904
/-- marks of a list of rows: each row by a law of its own -/
theorem markLL {F : Nat → List (List α) → Int → Int → Option (Int × List (List α))} {M : List α → Int → Option (Int × List α)} {H : List α → Int → Int → Prop} {ok : List α → Prop} {b : Int}
    (hF : ∀ n a v k, F (n + 1) a v k = if (decide (k < (a.length : Int))) = true then Option.bind (rd a k) fun x => Option.bind (M x v) fun r => Option.bind (sameLen x r.2) fun _ => F n (a.set (Int.toNat k) r.2) r.1 (w64 (k + 1)) else some (v, a))
    (hM : ∀ x v, ok x → 0 ≤ v → v + b < 4611686018427387904 → ∃ v' y, M x v = some (v', y) ∧ y.length = x.length ∧ H y v v' ∧ v ≤ v' ∧ v' ≤ v + b) :
    (∀ n a v k, k = (a.length : Int) → F (n + 1) a v k = some (v, a)) ∧
    (∀ n (a : List (List α)) v k (hk : k < a.length), ok a[k] → 0 ≤ v → v + b < 4611686018427387904 → ∃ v' y, F (n + 1) a v k = F n (a.set k y) v' (w64 ((k : Int) + 1)) ∧ H y v v' ∧ v ≤ v' ∧ v' ≤ v + b) := by
  refine ⟨fun n a v k hk => ?_, fun n a v k hk h1 h2 h3 => ?_⟩
  · rw [hF, hk]; simp
  · obtain ⟨v', y, e1, e2, e3, e4, e5⟩ := hM a[k] v h1 h2 h3
    refine ⟨v', y, ?_, e3, e4, e5⟩
    rw [hF]
    simp only [PS, hk, rd_at hk, e1, sameLen_ok e2]
theorem heldLL {H : α → Int → Option Int} {p : List α} {F : Nat → Int → Int → Option Int}
    (hF : ∀ n v k, F (n + 1) v k = if (decide (k < (p.length : Int))) = true then Option.bind (rd p k) fun x => Option.bind (H x v) fun r => if (decide (r < 0)) = true then some (-1) else F n r (w64 (k + 1)) else some v) :
    (∀ n v k, k = (p.length : Int) → F (n + 1) v k = some v) ∧ (∀ n v v' k (hk : k < p.length), (fun y v v' => H y v = some v') p[k] v v' → 0 ≤ v' → F (n + 1) v k = F n v' (w64 ((k : Int) + 1))) := by
  refine ⟨fun n v k hk => ?_, fun n v v' k hk h1 h2 => ?_⟩
  all_goals try (replace h1 : H p[k] v = some v' := h1)
  · rw [hF, hk]; simp
  · rw [hF]
    have : decide (v' < 0) = false := by simp; omega
    simp only [PS, hk, rd_at hk, h1, this]
/-- the size of a list of rows -/
theorem szL {p : List α} {s : α → Int → Option Int} {small : α → Prop} {F : Nat → Int → Int → Option Int}
    (hF : ∀ n l v, F (n + 1) l v = if (decide (v < (p.length : Int))) = true then Option.bind (rd p v) fun x => Option.bind (s x l) fun r => if (decide (r < 0)) = true then some (-1) else F n r (w64 (v + 1)) else some l)
    (hp : p.length < 1099511627776) (hs : ∀ x ∈ p, ∀ l : Int, 0 ≤ l → l ≤ 1048576 → ∃ r : Int, s x l = some r ∧ r ≤ l ∧ (0 ≤ r → small x)) {l : Int} (h0 : 0 ≤ l) (h1 : l ≤ 1048576) : ∃ r : Int, F FU l 0 = some r ∧ r ≤ l ∧ (0 ≤ r → ∀ x ∈ p, small x) := by
  have key : ∀ (n k : Nat) (l : Int), k ≤ p.length → p.length < n + k → 0 ≤ l → l ≤ 1048576 → ∃ r : Int, F n l k = some r ∧ r ≤ l ∧ (0 ≤ r → ∀ x ∈ p.drop k, small x) := by
    intro n
    induction n with
    | zero => intro k l h1 h2; omega
    | succ n ih =>
      intro k l h1 h2 h3 h4
      rw [hF]
      by_cases hk : k < p.length
      · obtain ⟨r, e1, e2, e3⟩ := hs p[k] (List.getElem_mem hk) l h3 h4
        simp only [PS, hk, rd_at hk, e1, w64_s (k := k) (by omega)]
        by_cases hr : r < 0
        · exact ⟨-1, by simp [hr], by omega, fun h => by omega⟩
        · obtain ⟨r', f1, f2, f3⟩ := ih (k + 1) r hk (by omega) (by omega) (by omega)
          refine ⟨r', by rw [if_neg (by simp [hr])]; exact f1, by omega, fun h x hx => ?_⟩
          rw [List.drop_eq_getElem_cons hk] at hx
          rcases List.mem_cons.1 hx with h' | h'
          · rw [h']; exact e3 (by omega)
          · exact f3 h x h'
      · have : k = p.length := by omega
        subst this
        exact ⟨l, by simp, by omega, fun _ x hx => by simp at hx⟩
  obtain ⟨r, e1, e2, e3⟩ := key FU 0 l (by omega) (by have := FU_gt hp; omega) h0 h1
  exact ⟨r, e1, e2, by simpa using e3⟩
/-- a search for an element that some test tells -/
theorem findL {p : List α} {t : α → Option Bool} {q : α → Bool} {F : Nat → Int → Option Int}
    (hF : ∀ n v, F (n + 1) v = if (decide (v < (p.length : Int))) = true then Option.bind (rd p v) fun x => Option.bind (t x) fun r => if r = true then some v else F n (w64 (v + 1)) else some (-1))
    (hp : p.length < 1099511627776) (ht : ∀ x ∈ p, t x = some (q x)) : ∃ r : Int, F FU 0 = some r ∧ decide (r ≥ 0) = p.any q := by
  have key : ∀ (n k : Nat), k ≤ p.length → p.length < n + k → ∃ r : Int, F n k = some r ∧ decide (r ≥ 0) = (p.drop k).any q := by
    intro n
    induction n with
    | zero => intro k h1 h2; omega
    | succ n ih =>
      intro k h1 h2
      rw [hF]
      by_cases hk : k < p.length
      · rw [List.drop_eq_getElem_cons hk, List.any_cons]
        obtain ⟨r, e1, e2⟩ := ih (k + 1) hk (by omega)
        simp only [PS, hk, rd_at hk, ht _ (List.getElem_mem hk), w64_s (k := k) (by omega), e1]
        cases q p[k]
        · exact ⟨r, by simp, by simpa using e2⟩
        · exact ⟨k, by simp, by simp⟩
      · have : k = p.length := by omega
        subst this
        exact ⟨-1, by simp, by simp⟩
  simpa using key FU 0 (by omega) (by have := FU_gt hp; omega)
end
/- floats -/
theorem fcmp_self (x : Nat) : fcmp x x = none ∨ fcmp x x = some .eq := by
  unfold fcmp Ieee.Format.order
  generalize FloatKind.f64.format.read x = d
  cases d with
  | nan => left; rfl
  | infinity s => right; cases s <;> rfl
  | number s m e =>
    right
    simp only [Ieee.Datum.order]
    have : ∀ z : Int, compare z z = .eq := fun z => by simp [Std.ReflCmp.compare_self]
    rw [this]
theorem fcmp_fOf (n : Int) : fcmp (fOf n) (fOf n) = some .eq := by
  rcases fcmp_self (fOf n) with h | h
  · exfalso
    revert h
    unfold fcmp Ieee.Format.order fOf FloatKind.nearest FloatKind.encode Ieee.Format.write
    simp only
    unfold Ieee.Format.nearest
    have key : ∀ (s : Bool) (r : Nat), r ≤ FloatKind.f64.format.infRung → ∀ (o : Option Ordering), (FloatKind.f64.format.read (FloatKind.f64.format.word s r)).order (FloatKind.f64.format.read (FloatKind.f64.format.word s r)) = o → o ≠ none := by
      intro s r hr o ho e
      subst e
      have h1 : FloatKind.f64.format.infRung = 9218868437227405312 := by decide
      have h2 : FloatKind.f64.format.signWeight = 9223372036854775808 := by decide
      rw [h1] at hr
      unfold Ieee.Format.read Ieee.Format.word at ho
      rw [h1, h2] at ho
      have e1 : (if s = true then 9223372036854775808 + r else r) % 9223372036854775808 = r := by split <;> omega
      simp only [e1] at ho
      split at ho
      · simp [Ieee.Datum.order] at ho
      · split at ho
        · simp [Ieee.Datum.order] at ho
        · rw [if_pos (by omega)] at ho
          simp [Ieee.Datum.order] at ho
    split
    · exact fun h => key _ _ (Nat.zero_le _) _ rfl h
    · exact fun h => key _ _ (Nat.min_le_right _ _) _ rfl h
  · exact h
end Go.T
