/- Plain facts for FnExactSameBut; no condition. -/

import Derived.Test.YtfanhncmpbncpaaC1
set_option linter.unusedVariables false
namespace Go.Proofs.Ytfanhncmpbncpaa
open Go Go.T

/-- no event ahead hangs with it -/
def frE (L : List GEvent) (i : Nat) : Bool := !(L.take i).any (fun x => hangB x (evAt L i))
def btr (L : List GEvent) (b : Int) (i : Nat) : Bool := decide (b < 0) || decide ((evAt L i).Thread < (evAt L b.toNat).Thread)
/-- the next one: its place -/
def pkE (L : List GEvent) : Nat → Nat → Int → Int
  | 0, _, b => b
  | m + 1, i, b => pkE L m (i + 1) (if frE L i && btr L b i then (i : Int) else b)
theorem pkE_ge {L : List GEvent} : ∀ (m i : Nat) (b : Int), 0 ≤ b → 0 ≤ pkE L m i b
  | 0, i, b, h => h
  | m + 1, i, b, h => by
    rw [pkE]
    apply pkE_ge
    split <;> omega
theorem pkE_lt {L : List GEvent} : ∀ (m i : Nat) (b : Int), b < (i : Int) → pkE L m i b < ((i + m : Nat) : Int)
  | 0, i, b, h => h
  | m + 1, i, b, h => by
    rw [pkE]
    have := pkE_lt (L := L) m (i + 1) (if frE L i && btr L b i then (i : Int) else b) (by split <;> omega)
    omega
theorem pkE_ok {L : List GEvent} (h : 0 < L.length) : ∃ b : Nat, pkE L L.length 0 (-1) = (b : Int) ∧ b < L.length := by
  obtain ⟨m, hm⟩ : ∃ m, L.length = m + 1 := ⟨L.length - 1, by omega⟩
  have h1 : 0 ≤ pkE L L.length 0 (-1) := by
    rw [hm, pkE]
    apply pkE_ge
    have : (frE L 0 && btr L (-1) 0) = true := by simp [frE, btr]
    rw [this]
    simp
  have h2 := pkE_lt (L := L) L.length 0 (-1) (by omega)
  exact ⟨(pkE L L.length 0 (-1)).toNat, by omega, by omega⟩
theorem evAt_take {L : List GEvent} {i k : Nat} (h : k < i) (hi : i ≤ L.length) : ∃ hk : k < (L.take i).length, (L.take i)[k] = evAt L k := by
  refine ⟨by rw [List.length_take]; omega, ?_⟩
  have : k < L.length := by omega
  simp [evAt, this]

/- ------------------------------------------------ the program's -/
theorem impl_contains {l : List GEvent} {x : GEvent} (hl : l.length ≤ 200) (hg : ∀ y ∈ l, goodE y = true) (hx : goodE x = true) : slices_ContainsFunc_Event_Event__impl_firstForm_1 l x = some (l.any fun y => hangB y x) := by
  obtain ⟨r, e1, e2⟩ := findL (p := l) (t := fun y => impl_firstForm_1 y x) (q := fun y => hangB y x) (F := slices_IndexFunc_Event_Event__impl_firstForm_1_l0 l x) (fun n v => by rw [slices_IndexFunc_Event_Event__impl_firstForm_1_l0]) (by omega) (fun y hy => by
    rw [impl_firstForm_1, impl_hang_eq (hg y hy) hx]; rfl)
  rw [slices_ContainsFunc_Event_Event__impl_firstForm_1, slices_IndexFunc_Event_Event__impl_firstForm_1, e1]
  simp [e2]
theorem good_take {L : List GEvent} (hg : L.all goodE = true) (i : Nat) : ∀ y ∈ L.take i, goodE y = true := fun y hy => List.all_eq_true.1 hg y (List.mem_of_mem_take hy)
theorem impl_j2 {L out a3 : List GEvent} (hl : L.length ≤ 200) (hg : L.all goodE = true) {K0 : List GEvent → List GEvent → Option (List GEvent)} {K1 : List GEvent → List GEvent → Int → Int → Option (List GEvent)} {i : Nat} (hi : i < L.length) {b : Int} :
    impl_firstForm_j2 K0 K1 a3 L out b i (evAt L i) = K1 L out (if frE L i then (i : Int) else b) ((i + 1 : Nat) : Int) := by
  rw [impl_firstForm_j2, slc_take (by omega), Option.bind_some, impl_contains (by rw [List.length_take]; omega) (good_take hg i) (evAt_good hg hi), Option.bind_some, w64_s (by omega)]
  unfold frE
  cases (L.take i).any (fun x => hangB x (evAt L i)) <;> rfl
theorem impl_l1 {L out : List GEvent} (hl : L.length ≤ 200) (hg : L.all goodE = true) {K0 : List GEvent → List GEvent → Option (List GEvent)} : ∀ (n m i : Nat) (b : Int), i + m = L.length → m < n → -1 ≤ b → b < (i : Int) →
    impl_firstForm_l1 K0 L n L out b i = Option.bind (rd L (pkE L m i b)) fun x => Option.bind (app out [x]) fun l => Option.bind (slices_Delete_Event_Event L (pkE L m i b) (w64 (pkE L m i b + 1))) fun r => K0 r l
  | 0, m, i, b, h1, h2, h3, h4 => by omega
  | n + 1, 0, i, b, h1, h2, h3, h4 => by
    have : i = L.length := by omega
    subst this
    rw [impl_firstForm_l1]
    simp only [PS, Nat.lt_irrefl, pkE]
  | n + 1, m + 1, i, b, h1, h2, h3, h4 => by
    have hi : i < L.length := by omega
    have ih := impl_l1 (out := out) hl hg (K0 := K0) n m (i + 1)
    rw [impl_firstForm_l1, pkE]
    simp only [PS, hi, evAt_rd hi, impl_j2 hl hg hi]
    by_cases hb : 0 ≤ b
    · obtain ⟨b, rfl⟩ : ∃ c : Nat, b = (c : Int) := ⟨b.toNat, by omega⟩
      have hbl : b < L.length := by omega
      simp only [PS, hb, evAt_rd hbl, ge_iff_le]
      have eb : btr L (b : Int) i = decide ((evAt L i).Thread < (evAt L b).Thread) := by
        unfold btr
        rw [show decide ((b : Int) < 0) = false by simp]
        simp
      by_cases ht : (evAt L b).Thread ≤ (evAt L i).Thread
      · have : (frE L i && btr L (b : Int) i) = false := by rw [eb, decide_eq_false (by omega), Bool.and_false]
        rw [this]
        simp only [ht, decide_true, if_true, w64_s (show i < 4611686018427387904 by omega)]
        exact ih _ (by omega) (by omega) (by omega) (by omega)
      · have : (frE L i && btr L (b : Int) i) = frE L i := by rw [eb, decide_eq_true (by omega), Bool.and_true]
        rw [this]
        simp only [ht, decide_false, Bool.false_eq_true, if_false]
        exact ih _ (by omega) (by omega) (by split <;> omega) (by split <;> omega)
    · have : (frE L i && btr L b i) = frE L i := by
        unfold btr
        rw [decide_eq_true (show b < 0 by omega), Bool.true_or, Bool.and_true]
      rw [this]
      simp only [PS, hb, ge_iff_le, Bool.false_eq_true]
      exact ih _ (by omega) (by omega) (by split <;> omega) (by split <;> omega)
/-- the form: the events one behind the other -/
def formE : Nat → List GEvent → List GEvent → List GEvent
  | 0, L, out => out
  | m + 1, L, out => formE m (L.take (pkE L L.length 0 (-1)).toNat ++ L.drop ((pkE L L.length 0 (-1)).toNat + 1)) (out ++ [evAt L (pkE L L.length 0 (-1)).toNat])
theorem good_del {L : List GEvent} {b : Nat} (hg : L.all goodE = true) : (L.take b ++ L.drop (b + 1)).all goodE = true := by
  rw [List.all_eq_true] at *
  intro y hy
  rcases List.mem_append.1 hy with h | h
  · exact hg y (List.mem_of_mem_take h)
  · exact hg y (List.mem_of_mem_drop h)
theorem len_del {L : List GEvent} {b : Nat} (hb : b < L.length) : (L.take b ++ L.drop (b + 1)).length = L.length - 1 := by
  rw [List.length_append, List.length_take, List.length_drop]; omega
theorem impl_l0 : ∀ (n m : Nat) (L out : List GEvent), L.length = m → m < n → m ≤ 200 → out.length + m ≤ 200 → L.all goodE = true → impl_firstForm_l0 n L out = some (formE m L out)
  | 0, m, L, out, h1, h2, h3, h4, hg => by omega
  | n + 1, 0, L, out, h1, h2, h3, h4, hg => by
    rw [impl_firstForm_l0, formE]
    simp [h1]
  | n + 1, m + 1, L, out, h1, h2, h3, h4, hg => by
    obtain ⟨b, eb, hb⟩ := pkE_ok (L := L) (by omega)
    have ih := impl_l0 n m
    have hpos : ((L.length : Nat) : Int) > 0 := by omega
    have h1' := impl_l1 (out := out) (L := L) (by omega) hg (K0 := impl_firstForm_l0 n) FU L.length 0 (-1) (by omega) (FU_gt (by omega)) (by omega) (by omega)
    rw [impl_firstForm_l0, formE]
    simp only [hpos, decide_true, if_true]
    rw [show ((0 : Nat) : Int) = 0 from rfl] at h1'
    rw [h1', eb]
    have hd : slices_Delete_Event_Event L (b : Int) (w64 ((b : Int) + 1)) = some (L.take b ++ L.drop (b + 1)) := by
      rw [slices_Delete_Event_Event, delL, w64_s (by omega), if_pos (by omega)]
      simp
    simp only [evAt_rd hb, Option.bind_some, app_ok (a := out) (b := [evAt L b]) (by simp; omega), hd, Int.toNat_natCast]
    exact ih _ _ (by rw [len_del hb]; omega) (by omega) (by omega) (by simp; omega) (good_del hg)
theorem clone_eq {p : List GEvent} (hp : p.length ≤ 200) : slices_Clone_Event_Event p = some p := by
  rw [slices_Clone_Event_Event, slices_Clone_Event_Event_j0, app_ok (by simp; omega)]
  cases p <;> simp [nilS, both]
theorem impl_form {p : List GEvent} (hp : p.length ≤ 200) (hg : p.all goodE = true) : impl_firstForm p = some (formE p.length p []) := by
  rw [impl_firstForm, clone_eq hp, Option.bind_some]
  exact impl_l0 FU p.length p [] rfl (FU_gt (by omega)) hp (by simpa using hp) hg

/- ------------------------------------------------ the reference's -/
theorem spec_l2 {L out a3 : List GEvent} (hl : L.length ≤ 200) (hg : L.all goodE = true) {K0 : List GEvent → List GEvent → Option (List GEvent)} {K1 : List GEvent → List GEvent → Int → Int → Option (List GEvent)} {i : Nat} (hi : i < L.length) {b : Int} (hb0 : -1 ≤ b) (hbl : b < (L.length : Int)) : ∀ (n k : Nat) (v : Bool), k ≤ i → i < n + k →
    spec_l9Form_l2 K0 K1 a3 b i (L.take i) n L out (evAt L i) v k = K1 L out (if (v && !((L.take i).drop k).any (fun x => hangB x (evAt L i))) && btr L b i then (i : Int) else b) ((i + 1 : Nat) : Int)
  | 0, k, v, h1, h2 => by omega
  | n + 1, k, v, h1, h2 => by
    have hlen : (L.take i).length = i := by rw [List.length_take]; omega
    rw [spec_l9Form_l2]
    by_cases hk : k < i
    · have hk' : k < L.length := by omega
      have hr : rdc L 0 i (k : Int) = some (evAt L k) := by
        unfold rdc
        rw [if_pos (by omega), addO_eq]
        simp [evAt, hk']
      have ih := spec_l2 (out := out) (a3 := a3) hl hg (K0 := K0) (K1 := K1) hi hb0 hbl n (k + 1)
      obtain ⟨hk2, ek⟩ := evAt_take (L := L) hk (by omega)
      have ed : ((L.take i).drop k).any (fun x => hangB x (evAt L i)) = (hangB (evAt L k) (evAt L i) || ((L.take i).drop (k + 1)).any (fun x => hangB x (evAt L i))) := by
        rw [List.drop_eq_getElem_cons hk2, List.any_cons, ek]
      simp only [PS, hlen, hk, hr, spec_hang_eq (evAt_good hg hk') (evAt_good hg hi), w64_s (show k < 4611686018427387904 by omega)]
      rw [ed]
      cases v
      · simp only [Bool.false_eq_true, if_false, Bool.false_and]
        rw [ih false (by omega) (by omega)]
        simp
      · simp only [if_true, Bool.true_and]
        rw [ih _ (by omega) (by omega)]
        cases hangB (evAt L k) (evAt L i) <;> simp
    · have : k = i := by omega
      subst this
      have e0 : (L.take k).drop k = [] := List.drop_of_length_le (by omega)
      rw [e0]
      simp only [PS, hlen, Nat.lt_irrefl, w64_s (show k < 4611686018427387904 by omega)]
      cases v
      · simp
      · by_cases hb : b < 0
        · simp [hb, btr]
        · obtain ⟨b, rfl⟩ : ∃ c : Nat, b = (c : Int) := ⟨b.toNat, by omega⟩
          have hb' : b < L.length := by omega
          have hbn : ¬ ((b : Int) < 0) := by omega
          simp only [PS, evAt_rd hb']
          by_cases ht : (evAt L k).Thread < (evAt L b).Thread <;> simp [btr, ht, hbn]
theorem spec_l1 {L out : List GEvent} (hl : L.length ≤ 200) (hg : L.all goodE = true) {K0 : List GEvent → List GEvent → Option (List GEvent)} : ∀ (n m i : Nat) (b : Int), i + m = L.length → m < n → -1 ≤ b → b < (i : Int) →
    spec_l9Form_l1 K0 L n L out b i = Option.bind (rd L (pkE L m i b)) fun x => Option.bind (app out [x]) fun l => Option.bind (slc L 0 (pkE L m i b)) fun l34 => Option.bind (app [] l34) fun l35 => Option.bind (slc L (w64 (pkE L m i b + 1)) (L.length : Int)) fun l36 => Option.bind (app l35 l36) fun r => K0 r l
  | 0, m, i, b, h1, h2, h3, h4 => by omega
  | n + 1, 0, i, b, h1, h2, h3, h4 => by
    have : i = L.length := by omega
    subst this
    rw [spec_l9Form_l1]
    simp only [PS, Nat.lt_irrefl, pkE]
  | n + 1, m + 1, i, b, h1, h2, h3, h4 => by
    have hi : i < L.length := by omega
    have ih := spec_l1 (out := out) hl hg (K0 := K0) n m (i + 1)
    have h5 := spec_l2 (out := out) (a3 := L) hl hg (K0 := K0) (K1 := spec_l9Form_l1 K0 L n) hi (b := b) h3 (by omega) FU 0 true (by omega) (by have := FU_gt (n := i) (by omega); omega)
    rw [show ((0 : Nat) : Int) = 0 from rfl] at h5
    rw [spec_l9Form_l1, pkE]
    simp only [PS, hi, evAt_rd hi, slc_take (show i ≤ L.length by omega), h5]
    rw [List.drop_zero, Bool.true_and]
    exact ih _ (by omega) (by omega) (by split <;> omega) (by split <;> omega)
theorem spec_l0 : ∀ (n m : Nat) (L out : List GEvent), L.length = m → m < n → m ≤ 200 → out.length + m ≤ 200 → L.all goodE = true → spec_l9Form_l0 n L out = some (formE m L out)
  | 0, m, L, out, h1, h2, h3, h4, hg => by omega
  | n + 1, 0, L, out, h1, h2, h3, h4, hg => by
    rw [spec_l9Form_l0, formE]
    simp [h1]
  | n + 1, m + 1, L, out, h1, h2, h3, h4, hg => by
    obtain ⟨b, eb, hb⟩ := pkE_ok (L := L) (by omega)
    have ih := spec_l0 n m
    have hpos : ((L.length : Nat) : Int) > 0 := by omega
    have h1' := spec_l1 (out := out) (L := L) (by omega) hg (K0 := spec_l9Form_l0 n) FU L.length 0 (-1) (by omega) (FU_gt (by omega)) (by omega) (by omega)
    rw [spec_l9Form_l0, formE]
    simp only [hpos, decide_true, if_true]
    rw [show ((0 : Nat) : Int) = 0 from rfl] at h1'
    rw [h1', eb]
    simp only [evAt_rd hb, Option.bind_some, app_ok (a := out) (b := [evAt L b]) (by simp; omega), Int.toNat_natCast, slc_take (show b ≤ L.length by omega), app_ok (a := []) (b := L.take b) (by simp; omega), w64_s (show b < 4611686018427387904 by omega), slc_drop (show b + 1 ≤ L.length by omega), List.nil_append, app_ok (a := L.take b) (b := L.drop (b + 1)) (by rw [List.length_take, List.length_drop]; omega)]
    exact ih _ _ (by rw [len_del hb]; omega) (by omega) (by omega) (by simp; omega) (good_del hg)
theorem spec_form {p : List GEvent} (hp : p.length ≤ 200) (hg : p.all goodE = true) : spec_l9Form p = some (formE p.length p []) := by
  rw [spec_l9Form, app_ok (by simp; omega), Option.bind_some, List.nil_append]
  exact spec_l0 FU p.length p [] rfl (FU_gt (by omega)) hp (by simpa using hp) hg
theorem formE_len : ∀ (m : Nat) (L out : List GEvent), L.length = m → (formE m L out).length = out.length + m
  | 0, L, out, h => rfl
  | m + 1, L, out, h => by
    obtain ⟨b, eb, hb⟩ := pkE_ok (L := L) (by omega)
    rw [formE, formE_len m _ _ (by rw [eb, Int.toNat_natCast, len_del hb]; omega)]
    simp; omega
end Go.Proofs.Ytfanhncmpbncpaa
