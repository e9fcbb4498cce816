/- Lemmas for FnExactAddPairs; no condition. -/

import Derived.Below
import Derived.Laws.OwnMore
import Derived.Tactics
set_option linter.unusedVariables false
namespace Go.T
open Go Go.RowKit

/-- What a slot or a cell holds, told without memory. -/
inductive AV where
  | dead
  | lit (v : Value)
  | ro (sz : Nat) (xs : List (List AV))
  | own (T sz : Nat) (xs : List (List AV))
  | agg (cs : List AV)
  | tup (cs : List AV)
  | sl (id off len : Nat)
  | ptr (id e o : Nat)
  | rop (cs : List AV) (o : Nat)
  | fn (g : FuncId) (caps : List AV)
  deriving Inhabited

/-- a float64 that is no number -/
def fNaN (n : Nat) : Bool := (FloatKind.f64.format.order n n).isNone
/-- one value, but for the bits of a NaN -/
def VEq (u v : Value) : Prop := match v with
  | .float .f64 n => u = .float .f64 n ∨ ∃ m, u = .float .f64 m ∧ fNaN m = true ∧ fNaN n = true
  | v => u = v
@[simp] theorem VEq.refl (v : Value) : VEq v v := by
  unfold VEq
  split
  · exact .inl rfl
  · rfl
/-- told to the bit -/
def nf : Value → Bool
  | .float .f64 n => n == 0 || !fNaN n
  | _ => true
theorem fNaN_zero : fNaN 0 = false := by decide +kernel
theorem VEq.eq {u v : Value} (h : VEq u v) (hv : nf v = true := by rfl) : u = v := by
  unfold VEq at h
  split at h
  · rcases h with h | ⟨m, _, _, h⟩
    · exact h
    · simp only [nf, h, Bool.not_true, Bool.or_false, beq_iff_eq] at hv
      rw [hv, fNaN_zero] at h; cases h
  · exact h
theorem VEq.flt {u : Value} {n : Nat} (h : VEq u (.float .f64 n)) : ∃ m, u = .float .f64 m ∧ (m = n ∨ fNaN m = true ∧ fNaN n = true) := by
  rcases h with h | ⟨m, h, h1, h2⟩
  · exact ⟨n, h, .inl rfl⟩
  · exact ⟨m, h, .inr ⟨h1, h2⟩⟩
theorem VEq.one {u v : Value} (h : VEq u v) (hv : v.oneCell' = true) : u.oneCell' = true := by
  unfold VEq at h
  split at h
  · rcases h with h | ⟨m, h, _⟩ <;> (rw [h]; rfl)
  · rw [h]; exact hv

def At (w : World) (b o : Nat) (vs : List Value) : Prop := ∀ k v, vs[k]? = some v → w.cell? ⟨b, o + k, none⟩ = some v

mutual
def rep (w : World) (S : Nat → Prop) : AV → Value → List Nat → Prop
  | .dead, _, fp => fp = []
  | .lit v, u, fp => fp = [] ∧ VEq u v
  | .ro sz xs, u, fp => fp = [] ∧ ∃ A cap, u = .slice A xs.length cap ∧ xs.length ≤ cap ∧ (xs = [] ∨ ∃ b o vs, A = some ⟨b, o, none⟩ ∧ S b ∧ At w b o vs ∧ repLL w S sz xs vs [])
  | .own T sz xs, u, fp => ∃ vs fp', w.ownsRow 0 T sz u xs.length vs ∧ repLL w S sz xs vs fp' ∧ fp = u.ownBlock.toList ++ fp'
  | .agg cs, u, fp => ∃ vs, u = .agg vs.toArray ∧ repL w S cs vs fp
  | .tup cs, u, fp => ∃ vs, u = .tuple vs.toArray ∧ repL w S cs vs fp
  | .rop cs o, u, fp => fp = [] ∧ ∃ b o0 vs, u = .pointer (some ⟨b, o0 + o, none⟩) ∧ S b ∧ At w b o0 vs ∧ repL w S cs vs []
  | .fn g caps, u, fp => ∃ vs, u = .func (.func g) #[] vs.toArray ∧ repL w S caps vs fp
  | .sl _ _ _, _, _ => False
  | .ptr _ _ _, _, _ => False
def repL (w : World) (S : Nat → Prop) : List AV → List Value → List Nat → Prop
  | [], vs, fp => vs = [] ∧ fp = []
  | c :: cs, vs, fp => ∃ u us f1 f2, vs = u :: us ∧ fp = f1 ++ f2 ∧ rep w S c u f1 ∧ repL w S cs us f2
def repLL (w : World) (S : Nat → Prop) (sz : Nat) : List (List AV) → List Value → List Nat → Prop
  | [], vs, fp => vs = [] ∧ fp = []
  | x :: xs, vs, fp => ∃ us us' f1 f2, vs = us ++ us' ∧ fp = f1 ++ f2 ∧ us.length = sz ∧ (∀ u ∈ us, u.oneCell' = true) ∧ repL w S x us f1 ∧ repLL w S sz xs us' f2
end

theorem cell_heap {w w2 : World} {a : Addr} (h : w2.heap[a.block]? = w.heap[a.block]?) : w2.cell? a = w.cell? a := World.cell?_of_block h

theorem At.frame {w w2 : World} {b o : Nat} {vs : List Value} (h : At w b o vs) (hb : w2.heap[b]? = w.heap[b]?) : At w2 b o vs :=
  fun k v hk => (cell_heap (a := ⟨b, o + k, none⟩) hb).trans (h k v hk)

theorem ownsRow_frame {w w2 : World} {base e size n : Nat} {v : Value} {xs : List Value} (h : w.ownsRow base e size v n xs) (hb : ∀ b, v.ownBlock = some b → w2.heap[b]? = w.heap[b]?) : w2.ownsRow base e size v n xs := by
  refine ⟨h.1, ?_⟩
  rcases h.2 with hn | ⟨g, cap, cur, rfl, hb0, hgg, rest⟩
  · exact .inl hn
  · exact .inr ⟨g, cap, cur, rfl, hb0, by rw [hb g rfl]; exact hgg, rest⟩

mutual
theorem rep_frame {w w2 : World} {S S2 : Nat → Prop} : ∀ (a : AV) (u : Value) (fp : List Nat), rep w S a u fp → (∀ b, S b → S2 b) → (∀ b, S b → w2.heap[b]? = w.heap[b]?) → (∀ b ∈ fp, w2.heap[b]? = w.heap[b]?) → rep w2 S2 a u fp
  | .dead, _, _, h, _, _, _ => by simpa only [rep] using h
  | .lit _, _, _, h, _, _, _ => by simpa only [rep] using h
  | .ro sz xs, u, fp, h, hs, hS, hf => by
    simp only [rep] at h ⊢
    obtain ⟨rfl, A, cap, hu, hl, h⟩ := h
    refine ⟨rfl, A, cap, hu, hl, ?_⟩
    rcases h with h | ⟨b, o, vs, hA, hb, hat, hr⟩
    · exact .inl h
    · exact .inr ⟨b, o, vs, hA, hs b hb, hat.frame (hS b hb), repLL_frame sz xs vs [] hr hs hS (by simp)⟩
  | .own T sz xs, u, fp, h, hs, hS, hf => by
    simp only [rep] at h ⊢
    obtain ⟨vs, fp', ho, hr, rfl⟩ := h
    refine ⟨vs, fp', ownsRow_frame ho (fun b hb => hf b (by simp [hb])), repLL_frame sz xs vs fp' hr hs hS (fun b hb => hf b (by simp [hb])), rfl⟩
  | .agg cs, u, fp, h, hs, hS, hf => by
    simp only [rep] at h ⊢
    obtain ⟨vs, hu, hr⟩ := h
    exact ⟨vs, hu, repL_frame cs vs fp hr hs hS hf⟩
  | .tup cs, u, fp, h, hs, hS, hf => by
    simp only [rep] at h ⊢
    obtain ⟨vs, hu, hr⟩ := h
    exact ⟨vs, hu, repL_frame cs vs fp hr hs hS hf⟩
  | .rop cs o, u, fp, h, hs, hS, hf => by
    simp only [rep] at h ⊢
    obtain ⟨rfl, b, o0, vs, hu, hb, hat, hr⟩ := h
    exact ⟨rfl, b, o0, vs, hu, hs b hb, hat.frame (hS b hb), repL_frame cs vs [] hr hs hS (by simp)⟩
  | .fn g caps, u, fp, h, hs, hS, hf => by
    simp only [rep] at h ⊢
    obtain ⟨vs, hu, hr⟩ := h
    exact ⟨vs, hu, repL_frame caps vs fp hr hs hS hf⟩
  | .sl _ _ _, _, _, h, _, _, _ => by simp only [rep] at h
  | .ptr _ _ _, _, _, h, _, _, _ => by simp only [rep] at h
theorem repL_frame {w w2 : World} {S S2 : Nat → Prop} : ∀ (cs : List AV) (vs : List Value) (fp : List Nat), repL w S cs vs fp → (∀ b, S b → S2 b) → (∀ b, S b → w2.heap[b]? = w.heap[b]?) → (∀ b ∈ fp, w2.heap[b]? = w.heap[b]?) → repL w2 S2 cs vs fp
  | [], _, _, h, _, _, _ => by simpa only [repL] using h
  | c :: cs, vs, fp, h, hs, hS, hf => by
    simp only [repL] at h ⊢
    obtain ⟨u, us, f1, f2, hv, rfl, h1, h2⟩ := h
    exact ⟨u, us, f1, f2, hv, rfl, rep_frame c u f1 h1 hs hS (fun b hb => hf b (by simp [hb])), repL_frame cs us f2 h2 hs hS (fun b hb => hf b (by simp [hb]))⟩
theorem repLL_frame {w w2 : World} {S S2 : Nat → Prop} (sz : Nat) : ∀ (xs : List (List AV)) (vs : List Value) (fp : List Nat), repLL w S sz xs vs fp → (∀ b, S b → S2 b) → (∀ b, S b → w2.heap[b]? = w.heap[b]?) → (∀ b ∈ fp, w2.heap[b]? = w.heap[b]?) → repLL w2 S2 sz xs vs fp
  | [], _, _, h, _, _, _ => by simpa only [repLL] using h
  | x :: xs, vs, fp, h, hs, hS, hf => by
    simp only [repLL] at h ⊢
    obtain ⟨us, us', f1, f2, hv, rfl, hl, h1c, h1, h2⟩ := h
    exact ⟨us, us', f1, f2, hv, rfl, hl, h1c, repL_frame x us f1 h1 hs hS (fun b hb => hf b (by simp [hb])), repLL_frame sz xs us' f2 h2 hs hS (fun b hb => hf b (by simp [hb]))⟩
end

/-- the blocks of what is owned lie in the heap -/
theorem ownsRow_lt {w : World} {e size n : Nat} {v : Value} {xs : List Value} (h : w.ownsRow 0 e size v n xs) : ∀ b ∈ v.ownBlock.toList, b < w.heap.size := by
  intro b hb
  have : v.ownBlock = some b := by simpa using hb
  exact (h.lt b this).2

mutual
theorem rep_lt {w : World} {S : Nat → Prop} : ∀ (a : AV) (u : Value) (fp : List Nat), rep w S a u fp → ∀ b ∈ fp, b < w.heap.size
  | .dead, _, _, h => by simp only [rep] at h; simp [h]
  | .lit _, _, _, h => by simp only [rep] at h; simp [h.1]
  | .ro _ _, _, _, h => by simp only [rep] at h; simp [h.1]
  | .own T sz xs, u, fp, h => by
    simp only [rep] at h
    obtain ⟨vs, fp', ho, hr, rfl⟩ := h
    intro b hb
    rcases List.mem_append.1 hb with hb | hb
    · exact ownsRow_lt ho b hb
    · exact repLL_lt sz xs vs fp' hr b hb
  | .agg cs, u, fp, h => by simp only [rep] at h; obtain ⟨vs, _, hr⟩ := h; exact repL_lt cs vs fp hr
  | .tup cs, u, fp, h => by simp only [rep] at h; obtain ⟨vs, _, hr⟩ := h; exact repL_lt cs vs fp hr
  | .rop _ _, _, _, h => by simp only [rep] at h; simp [h.1]
  | .fn _ caps, u, fp, h => by simp only [rep] at h; obtain ⟨vs, _, hr⟩ := h; exact repL_lt caps vs fp hr
  | .sl _ _ _, _, _, h => by simp only [rep] at h
  | .ptr _ _ _, _, _, h => by simp only [rep] at h
theorem repL_lt {w : World} {S : Nat → Prop} : ∀ (cs : List AV) (vs : List Value) (fp : List Nat), repL w S cs vs fp → ∀ b ∈ fp, b < w.heap.size
  | [], _, _, h => by simp only [repL] at h; simp [h.2]
  | c :: cs, vs, fp, h => by
    simp only [repL] at h
    obtain ⟨u, us, f1, f2, _, rfl, h1, h2⟩ := h
    intro b hb
    rcases List.mem_append.1 hb with hb | hb
    · exact rep_lt c u f1 h1 b hb
    · exact repL_lt cs us f2 h2 b hb
theorem repLL_lt {w : World} {S : Nat → Prop} (sz : Nat) : ∀ (xs : List (List AV)) (vs : List Value) (fp : List Nat), repLL w S sz xs vs fp → ∀ b ∈ fp, b < w.heap.size
  | [], _, _, h => by simp only [repLL] at h; simp [h.2]
  | x :: xs, vs, fp, h => by
    simp only [repLL] at h
    obtain ⟨us, us', f1, f2, _, rfl, _, _, h1, h2⟩ := h
    intro b hb
    rcases List.mem_append.1 hb with hb | hb
    · exact repL_lt x us f1 h1 b hb
    · exact repLL_lt sz xs us' f2 h2 b hb
end

/- what is owned, given up for good: read only -/
mutual
def frz : AV → AV
  | .own _ sz xs => .ro sz (frzLL xs)
  | .agg cs => .agg (frzL cs)
  | .tup cs => .tup (frzL cs)
  | .fn g cs => .fn g (frzL cs)
  | a => a
def frzL : List AV → List AV
  | [] => []
  | c :: cs => frz c :: frzL cs
def frzLL : List (List AV) → List (List AV)
  | [] => []
  | x :: xs => frzL x :: frzLL xs
end
theorem frzLL_length : ∀ xs, (frzLL xs).length = xs.length
  | [] => rfl
  | x :: xs => by simp [frzLL, frzLL_length xs]
theorem frzLL_nil {xs} (h : xs = []) : frzLL xs = [] := by subst h; rfl
theorem frzL_map : ∀ cs : List AV, frzL cs = cs.map frz
  | [] => rfl
  | c :: cs => by simp [frzL, frzL_map cs]
theorem frzLL_map : ∀ xs : List (List AV), frzLL xs = xs.map (·.map frz)
  | [] => rfl
  | x :: xs => by simp [frzLL, frzL_map, frzLL_map xs]

theorem ownsRow_at {w : World} {e size n b : Nat} {v : Value} {xs : List Value} (h : w.ownsRow 0 e size v n xs) (hb : v.ownBlock = some b) : At w b 0 xs := by
  intro k u hk
  have := h.cells hb k u hk
  have hadd : (⟨b, 0, none⟩ : Addr).add k = ⟨b, 0 + k, none⟩ := by unfold Addr.add; split <;> simp_all
  rwa [hadd] at this

mutual
theorem rep_frz {w : World} {S S2 : Nat → Prop} : ∀ (a : AV) (u : Value) (fp : List Nat), rep w S a u fp → (∀ b, S b → S2 b) → (∀ b ∈ fp, S2 b) → rep w S2 (frz a) u []
  | .dead, _, _, h, _, _ => by simp only [frz, rep]
  | .lit _, _, _, h, _, _ => by simp only [rep] at h; simp only [frz, rep]; exact ⟨trivial, h.2⟩
  | .ro sz xs, u, fp, h, hs, hf => by
    have h' := rep_frame (w2 := w) (S2 := S2) (.ro sz xs) u fp h hs (fun _ _ => rfl) (fun _ _ => rfl)
    simp only [rep] at h
    obtain ⟨rfl, _⟩ := h
    simpa only [frz] using h'
  | .own T sz xs, u, fp, h, hs, hf => by
    simp only [rep] at h
    obtain ⟨vs, fp', ho, hr, rfl⟩ := h
    have hrr := repLL_frz sz xs vs fp' hr hs (fun b hb => hf b (by simp [hb]))
    simp only [frz, rep]
    have hor := ho
    rcases ho.2 with ⟨rfl, hn⟩ | ⟨g, cap, cur, rfl, _, hg, hnc, _⟩
    · have : xs = [] := List.eq_nil_of_length_eq_zero hn
      subst this
      exact ⟨trivial, none, 0, rfl, Nat.le_refl _, .inl (rfl)⟩
    · refine ⟨trivial, _, cap, by rw [frzLL_length], by rw [frzLL_length]; exact hnc, .inr ⟨g, 0, vs, rfl, hf g (by simp [Value.ownBlock]), ownsRow_at hor rfl, hrr⟩⟩
  | .agg cs, u, fp, h, hs, hf => by
    simp only [rep] at h
    obtain ⟨vs, hu, hr⟩ := h
    simp only [frz, rep]
    exact ⟨vs, hu, repL_frz cs vs fp hr hs hf⟩
  | .tup cs, u, fp, h, hs, hf => by
    simp only [rep] at h
    obtain ⟨vs, hu, hr⟩ := h
    simp only [frz, rep]
    exact ⟨vs, hu, repL_frz cs vs fp hr hs hf⟩
  | .rop cs o, u, fp, h, hs, hf => by
    have h' := rep_frame (w2 := w) (S2 := S2) (.rop cs o) u fp h hs (fun _ _ => rfl) (fun _ _ => rfl)
    simp only [rep] at h
    obtain ⟨rfl, _⟩ := h
    simpa only [frz] using h'
  | .fn g caps, u, fp, h, hs, hf => by
    simp only [rep] at h
    obtain ⟨vs, hu, hr⟩ := h
    simp only [frz, rep]
    exact ⟨vs, hu, repL_frz caps vs fp hr hs hf⟩
  | .sl _ _ _, _, _, h, _, _ => by simp only [rep] at h
  | .ptr _ _ _, _, _, h, _, _ => by simp only [rep] at h
theorem repL_frz {w : World} {S S2 : Nat → Prop} : ∀ (cs : List AV) (vs : List Value) (fp : List Nat), repL w S cs vs fp → (∀ b, S b → S2 b) → (∀ b ∈ fp, S2 b) → repL w S2 (frzL cs) vs []
  | [], _, _, h, _, _ => by simp only [repL] at h; simp only [frzL, repL]; exact ⟨h.1, trivial⟩
  | c :: cs, vs, fp, h, hs, hf => by
    simp only [repL] at h
    obtain ⟨u, us, f1, f2, hv, rfl, h1, h2⟩ := h
    simp only [frzL, repL]
    exact ⟨u, us, [], [], hv, rfl, rep_frz c u f1 h1 hs (fun b hb => hf b (by simp [hb])), repL_frz cs us f2 h2 hs (fun b hb => hf b (by simp [hb]))⟩
theorem repLL_frz {w : World} {S S2 : Nat → Prop} (sz : Nat) : ∀ (xs : List (List AV)) (vs : List Value) (fp : List Nat), repLL w S sz xs vs fp → (∀ b, S b → S2 b) → (∀ b ∈ fp, S2 b) → repLL w S2 sz (frzLL xs) vs []
  | [], _, _, h, _, _ => by simp only [repLL] at h; simp only [frzLL, repLL]; exact ⟨h.1, trivial⟩
  | x :: xs, vs, fp, h, hs, hf => by
    simp only [repLL] at h
    obtain ⟨us, us', f1, f2, hv, rfl, hl, h1c, h1, h2⟩ := h
    simp only [frzLL, repLL]
    exact ⟨us, us', [], [], hv, rfl, hl, h1c, repL_frz x us f1 h1 hs (fun b hb => hf b (by simp [hb])), repLL_frz sz xs us' f2 h2 hs (fun b hb => hf b (by simp [hb]))⟩
end

/- no read-only part: whoever writes where, it is not disturbed but through its own blocks -/
mutual
def noRo : AV → Bool
  | .ro _ xs => xs.isEmpty
  | .own _ _ xs => noRoLL xs
  | .agg cs => noRoL cs
  | .tup cs => noRoL cs
  | .fn _ cs => noRoL cs
  | .rop _ _ => false
  | _ => true
def noRoL : List AV → Bool
  | [] => true
  | c :: cs => noRo c && noRoL cs
def noRoLL : List (List AV) → Bool
  | [] => true
  | x :: xs => noRoL x && noRoLL xs
end
mutual
theorem rep_noRo {w : World} {S S2 : Nat → Prop} : ∀ (a : AV) (u : Value) (fp : List Nat), rep w S a u fp → noRo a = true → rep w S2 a u fp
  | .dead, _, _, h, _ => by simpa only [rep] using h
  | .lit _, _, _, h, _ => by simpa only [rep] using h
  | .ro sz xs, u, fp, h, hn => by
    have : xs = [] := by simpa only [noRo, List.isEmpty_iff] using hn
    subst this
    simp only [rep] at h ⊢
    obtain ⟨rfl, A, cap, hu, hl, _⟩ := h
    exact ⟨rfl, A, cap, hu, hl, .inl trivial⟩
  | .own T sz xs, u, fp, h, hn => by
    simp only [noRo] at hn
    simp only [rep] at h ⊢
    obtain ⟨vs, fp', ho, hr, hf⟩ := h
    exact ⟨vs, fp', ho, repLL_noRo sz xs vs fp' hr hn, hf⟩
  | .agg cs, u, fp, h, hn => by
    simp only [noRo] at hn
    simp only [rep] at h ⊢
    obtain ⟨vs, hu, hr⟩ := h
    exact ⟨vs, hu, repL_noRo cs vs fp hr hn⟩
  | .tup cs, u, fp, h, hn => by
    simp only [noRo] at hn
    simp only [rep] at h ⊢
    obtain ⟨vs, hu, hr⟩ := h
    exact ⟨vs, hu, repL_noRo cs vs fp hr hn⟩
  | .rop _ _, _, _, _, hn => by simp only [noRo] at hn; exact absurd hn (by simp)
  | .fn g cs, u, fp, h, hn => by
    simp only [noRo] at hn
    simp only [rep] at h ⊢
    obtain ⟨vs, hu, hr⟩ := h
    exact ⟨vs, hu, repL_noRo cs vs fp hr hn⟩
  | .sl _ _ _, _, _, h, _ => by simp only [rep] at h
  | .ptr _ _ _, _, _, h, _ => by simp only [rep] at h
theorem repL_noRo {w : World} {S S2 : Nat → Prop} : ∀ (cs : List AV) (vs : List Value) (fp : List Nat), repL w S cs vs fp → noRoL cs = true → repL w S2 cs vs fp
  | [], _, _, h, _ => by simpa only [repL] using h
  | c :: cs, vs, fp, h, hn => by
    simp only [noRoL, Bool.and_eq_true] at hn
    simp only [repL] at h ⊢
    obtain ⟨u, us, f1, f2, hv, hf, h1, h2⟩ := h
    exact ⟨u, us, f1, f2, hv, hf, rep_noRo c u f1 h1 hn.1, repL_noRo cs us f2 h2 hn.2⟩
theorem repLL_noRo {w : World} {S S2 : Nat → Prop} (sz : Nat) : ∀ (xs : List (List AV)) (vs : List Value) (fp : List Nat), repLL w S sz xs vs fp → noRoLL xs = true → repLL w S2 sz xs vs fp
  | [], _, _, h, _ => by simpa only [repLL] using h
  | x :: xs, vs, fp, h, hn => by
    simp only [noRoLL, Bool.and_eq_true] at hn
    simp only [repLL] at h ⊢
    obtain ⟨us, us', f1, f2, hv, hf, hl, h1c, h1, h2⟩ := h
    exact ⟨us, us', f1, f2, hv, hf, hl, h1c, repL_noRo x us f1 h1 hn.1, repLL_noRo sz xs us' f2 h2 hn.2⟩
end
end Go.T
