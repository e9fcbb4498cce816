/- Lemmas for FnExactAddPairs; no condition. -/

import Derived.Test.YtihgcgccajikpaaTN
set_option linter.unusedVariables false
namespace Go.T
open Go Go.RowKit Go.Proofs

/-- what an operation under a test leaves: `r` if the test holds, else nothing -/
@[irreducible] def gd (p : Bool) (r : AV) : AV := if p = true then r else .lit undef
theorem gd_pos {p : Bool} {r : AV} (h : p = true) : gd p r = r := by unfold gd; exact if_pos h
theorem gd_neg {p : Bool} {r : AV} (h : ¬p = true) : gd p r = .lit undef := by unfold gd; exact if_neg h
theorem and_l {a b : Bool} (h : (a && b) = true) : a = true := by cases a <;> simp_all
theorem and_r {a b : Bool} (h : (a && b) = true) : b = true := by cases a <;> simp_all

section
variable {E : Env} {Θ : Tys} {s : St}
theorem ev_move {x : Operand} {r : AV} (h : opnd s x = r) : evVal Θ s (.move x) = some r := by simp only [evVal, h]
theorem ev_assign {x : Operand} {r : AV} (h : opnd s x = r) : evVal Θ s (.assign x) = some r := by simp only [evVal, h]
theorem ev_and {c a b : Operand} {t x : Bool} (h1 : opnd s c = .lit (.bool t)) (h2 : opnd s a = gd (t == true) (.lit (.bool x))) (h3 : opnd s b = .lit (.bool false)) : evVal Θ s (.pick c a b) = some (.lit (.bool (t && x))) := by
  simp only [evVal, h1, h2, h3]; cases t <;> simp [gd_pos]
theorem ev_or {c a b : Operand} {t x : Bool} (h1 : opnd s c = .lit (.bool t)) (h2 : opnd s a = .lit (.bool true)) (h3 : opnd s b = gd (t == false) (.lit (.bool x))) : evVal Θ s (.pick c a b) = some (.lit (.bool (t || x))) := by
  simp only [evVal, h1, h2, h3]; cases t <;> simp [gd_pos]
theorem ev_and' {c a b : Operand} {t x p : Bool} (hp : p = true) (h1 : opnd s c = gd p (.lit (.bool t))) (h2 : opnd s a = gd (p && (t == true)) (.lit (.bool x))) (h3 : opnd s b = .lit (.bool false)) : evVal Θ s (.pick c a b) = some (.lit (.bool (t && x))) := by
  rw [gd_pos hp] at h1; subst hp
  simp only [evVal, h1, h2, h3]; cases t <;> simp [gd_pos]
theorem ev_or' {c a b : Operand} {t x p : Bool} (hp : p = true) (h1 : opnd s c = gd p (.lit (.bool t))) (h2 : opnd s a = .lit (.bool true)) (h3 : opnd s b = gd (p && (t == false)) (.lit (.bool x))) : evVal Θ s (.pick c a b) = some (.lit (.bool (t || x))) := by
  rw [gd_pos hp] at h1; subst hp
  simp only [evVal, h1, h2, h3]; cases t <;> simp [gd_pos]

theorem wrap64 {n : Int} (h : -9223372036854775808 ≤ n ∧ n < 9223372036854775808) : IntKind.i64.wrap n = n := by
  simp [IntKind.wrap, IntKind.bits, IntKind.signed]
  omega
theorem ev_add {t u : Nat} {x y : Operand} {a b : Int} (h1 : opnd s x = .lit (.int .i64 a)) (h2 : opnd s y = .lit (.int .i64 b)) (hb : -9223372036854775808 ≤ a + b ∧ a + b < 9223372036854775808) : evVal Θ s (.binOp .add t x y u) = some (.lit (.int .i64 (a + b))) := by
  simp [evVal, h1, h2, evBin, wrap64 hb]
theorem ev_sub {t u : Nat} {x y : Operand} {a b : Int} (h1 : opnd s x = .lit (.int .i64 a)) (h2 : opnd s y = .lit (.int .i64 b)) (hb : -9223372036854775808 ≤ a - b ∧ a - b < 9223372036854775808) : evVal Θ s (.binOp .sub t x y u) = some (.lit (.int .i64 (a - b))) := by
  simp [evVal, h1, h2, evBin, wrap64 hb]
theorem ev_mul {t u : Nat} {x y : Operand} {a b : Int} (h1 : opnd s x = .lit (.int .i64 a)) (h2 : opnd s y = .lit (.int .i64 b)) (hb : -9223372036854775808 ≤ a * b ∧ a * b < 9223372036854775808) : evVal Θ s (.binOp .mul t x y u) = some (.lit (.int .i64 (a * b))) := by
  simp [evVal, h1, h2, evBin, wrap64 hb]
theorem ev_eql {t u : Nat} {k : IntKind} {x y : Operand} {a b : Int} (h1 : opnd s x = .lit (.int k a)) (h2 : opnd s y = .lit (.int k b)) : evVal Θ s (.binOp .eql t x y u) = some (.lit (.bool (decide (a = b)))) := by
  simp only [evVal, h1, h2, evBin, if_true, Option.map_some]; congr 3
theorem ev_neq {t u : Nat} {k : IntKind} {x y : Operand} {a b : Int} (h1 : opnd s x = .lit (.int k a)) (h2 : opnd s y = .lit (.int k b)) : evVal Θ s (.binOp .neq t x y u) = some (.lit (.bool (!decide (a = b)))) := by
  simp only [evVal, h1, h2, evBin, if_true, Option.map_some]; congr 3
theorem ev_lss {t u : Nat} {k : IntKind} {x y : Operand} {a b : Int} (h1 : opnd s x = .lit (.int k a)) (h2 : opnd s y = .lit (.int k b)) : evVal Θ s (.binOp .lss t x y u) = some (.lit (.bool (decide (a < b)))) := by
  simp [evVal, h1, h2, evBin]
theorem ev_leq {t u : Nat} {k : IntKind} {x y : Operand} {a b : Int} (h1 : opnd s x = .lit (.int k a)) (h2 : opnd s y = .lit (.int k b)) : evVal Θ s (.binOp .leq t x y u) = some (.lit (.bool (decide (a ≤ b)))) := by
  simp [evVal, h1, h2, evBin]
theorem ev_gtr {t u : Nat} {k : IntKind} {x y : Operand} {a b : Int} (h1 : opnd s x = .lit (.int k a)) (h2 : opnd s y = .lit (.int k b)) : evVal Θ s (.binOp .gtr t x y u) = some (.lit (.bool (decide (b < a)))) := by
  simp [evVal, h1, h2, evBin]
theorem ev_geq {t u : Nat} {k : IntKind} {x y : Operand} {a b : Int} (h1 : opnd s x = .lit (.int k a)) (h2 : opnd s y = .lit (.int k b)) : evVal Θ s (.binOp .geq t x y u) = some (.lit (.bool (decide (b ≤ a)))) := by
  simp [evVal, h1, h2, evBin]
theorem ev_beq {t u sz by_ : Nat} {z : List Value} {x y : Operand} {a b : Bool} (h1 : opnd s x = .lit (.bool a)) (h2 : opnd s y = .lit (.bool b)) (ht : Θ.lookup t = some ⟨sz, by_, .bool, z⟩) : evVal Θ s (.binOp .eql t x y u) = some (.lit (.bool (a == b))) := by
  simp [evVal, h1, h2, ht]
theorem ev_bne {t u sz by_ : Nat} {z : List Value} {x y : Operand} {a b : Bool} (h1 : opnd s x = .lit (.bool a)) (h2 : opnd s y = .lit (.bool b)) (ht : Θ.lookup t = some ⟨sz, by_, .bool, z⟩) : evVal Θ s (.binOp .neq t x y u) = some (.lit (.bool (!(a == b)))) := by
  simp [evVal, h1, h2, ht]
theorem ev_not {t : Nat} {x : Operand} {b : Bool} (h1 : opnd s x = .lit (.bool b)) : evVal Θ s (.unOp .not t x) = some (.lit (.bool !b)) := by simp [evVal, h1, evUn]
theorem ev_cvt {a b : Nat} {x : Operand} {k : IntKind} {n : Int} {ti : TI} {sz by_ : Nat} {z : List Value} (h1 : opnd s x = .lit (.int k n)) (ha : Θ.lookup a = some ti) (hb : Θ.lookup b = some ⟨sz, by_, .int .i64, z⟩) (hn : -9223372036854775808 ≤ n ∧ n < 9223372036854775808) : evVal Θ s (.convert a b x) = some (.lit (.int .i64 n)) := by
  simp [evVal, h1, ha, hb, wrap64 hn]
theorem ev_fieldP {t f id e o sz by_ : Nat} {z : List Value} {x : Operand} {fs : Array Field} {fd : Field} {tf : TI} {R : Root} (h1 : opnd s x = .ptr id e o) (ht : Θ.lookup t = some ⟨sz, by_, .struct fs, z⟩) (hf : fs.toList[f]? = some fd) (htf : Θ.lookup fd.type = some tf) (hz : tf.sz ≠ 0) (hR : s.root id = some R) :
    evVal Θ s (.fieldAddr t x f) = some (.ptr id e (o + fd.offset)) := by
  rw [Array.getElem?_toList] at hf
  simp [evVal, h1, evFAddr, ht, hf, htf, hz, hR]
theorem ev_fieldR {t f o sz by_ : Nat} {z : List Value} {x : Operand} {fs : Array Field} {fd : Field} {tf : TI} {cs : List AV} (h1 : opnd s x = .rop cs o) (ht : Θ.lookup t = some ⟨sz, by_, .struct fs, z⟩) (hf : fs.toList[f]? = some fd) (htf : Θ.lookup fd.type = some tf) (hz : tf.sz ≠ 0) :
    evVal Θ s (.fieldAddr t x f) = some (.rop cs (o + fd.offset)) := by
  rw [Array.getElem?_toList] at hf
  simp [evVal, h1, evFAddr, ht, hf, htf, hz]
theorem ev_ldP {t id e o : Nat} {p : Operand} {ti : TI} {R : Root} {x : List AV} {c : AV} (h1 : opnd s p = .ptr id e o) (ht : Θ.lookup t = some ti) (hR : s.root id = some R) (hx : R.xs[e]? = some x) (ha : aggD ti.und = false) (hc : x[o]? = some c) (hp : c.plain = true) : evVal Θ s (.load t p) = some c := by
  simp [evVal, h1, evLoad, place, ht, hR, hx, ha, hc, hp]
theorem ev_ldPA {t id e : Nat} {p : Operand} {ti : TI} {R : Root} {x : List AV} (h1 : opnd s p = .ptr id e 0) (ht : Θ.lookup t = some ti) (hR : s.root id = some R) (hx : R.xs[e]? = some x) (ha : aggD ti.und = true) (hc : x.length = ti.sz) (hp : x.all AV.plain = true) : evVal Θ s (.load t p) = some (.agg x) := by
  have h1' : x.take ti.sz = x := List.take_of_length_le (by omega)
  simp only [evVal, h1, evLoad, place, ht, hR, hx, ha, if_true, List.drop_zero, h1', hp, Nat.zero_add]
  rw [if_pos (by omega)]
theorem ev_ldR {t o : Nat} {p : Operand} {ti : TI} {x : List AV} {c : AV} (h1 : opnd s p = .rop x o) (ht : Θ.lookup t = some ti) (ha : aggD ti.und = false) (hc : x[o]? = some c) (hp : c.plain = true) : evVal Θ s (.load t p) = some c := by
  simp [evVal, h1, evLoad, place, ht, ha, hc, hp]
theorem ev_ldRA {t : Nat} {p : Operand} {ti : TI} {x : List AV} (h1 : opnd s p = .rop x 0) (ht : Θ.lookup t = some ti) (ha : aggD ti.und = true) (hc : x.length = ti.sz) (hp : x.all AV.plain = true) : evVal Θ s (.load t p) = some (.agg x) := by
  have h1' : x.take ti.sz = x := List.take_of_length_le (by omega)
  simp only [evVal, h1, evLoad, place, ht, ha, if_true, List.drop_zero, h1', hp, Nat.zero_add]
  rw [if_pos (by omega)]
theorem ev_idxS {t id off len el sz by_ : Nat} {z : List Value} {x i : Operand} {te : TI} {R : Root} {k : IntKind} {j : Int} (h1 : opnd s x = .sl id off len) (h2 : opnd s i = .lit (.int k j)) (ht : Θ.lookup t = some ⟨sz, by_, .slice el, z⟩) (hte : Θ.lookup el = some te) (hR : s.root id = some R) (hz : R.sz = te.sz) (hj : 0 ≤ j ∧ j < (len : Int)) :
    evVal Θ s (.indexAddr t x i) = some (.ptr id (off + j.toNat) 0) := by
  simp [evVal, h1, h2, evIdx, ht, hte, hR, hz, hj.1, hj.2]
/-- the same, the place a natural number, from the row's beginning -/
theorem ev_idxN {t id len el sz by_ n : Nat} {z : List Value} {x i : Operand} {te : TI} {R : Root} {k : IntKind} (h1 : opnd s x = .sl id 0 len) (h2 : opnd s i = .lit (.int k (n : Int))) (ht : Θ.lookup t = some ⟨sz, by_, .slice el, z⟩) (hte : Θ.lookup el = some te) (hR : s.root id = some R) (hz : R.sz = te.sz) (hj : n < len) :
    evVal Θ s (.indexAddr t x i) = some (.ptr id n 0) := by
  have := ev_idxS (Θ := Θ) h1 h2 ht hte hR hz ⟨by omega, by omega⟩
  simpa using this
theorem ev_idxR {t el sz by_ sz' n : Nat} {z : List Value} {x i : Operand} {te : TI} {k : IntKind} {xs : List (List AV)} {y : List AV} (h1 : opnd s x = .ro sz' xs) (h2 : opnd s i = .lit (.int k (n : Int))) (ht : Θ.lookup t = some ⟨sz, by_, .slice el, z⟩) (hte : Θ.lookup el = some te) (hz : sz' = te.sz) (hj : xs[n]? = some y) :
    evVal Θ s (.indexAddr t x i) = some (.rop y 0) := by
  simp [evVal, h1, h2, evIdx, ht, hte, hz, hj]
theorem ev_lenS {t id off len el sz by_ : Nat} {z : List Value} {x : Operand} {R : Root} (h1 : opnd s x = .sl id off len) (ht : Θ.lookup t = some ⟨sz, by_, .slice el, z⟩) (hR : s.root id = some R) : evVal Θ s (.call ⟨.builtin .len, #[x], #[t]⟩) = some (.lit (.int .i64 (len : Int))) := by
  simp [evVal, h1, evLenS, ht, hR]
theorem ev_lenR {t sz' el sz by_ : Nat} {z : List Value} {x : Operand} {xs : List (List AV)} (h1 : opnd s x = .ro sz' xs) (ht : Θ.lookup t = some ⟨sz, by_, .slice el, z⟩) : evVal Θ s (.call ⟨.builtin .len, #[x], #[t]⟩) = some (.lit (.int .i64 (xs.length : Int))) := by
  simp [evVal, h1, evLenS, evLen, ht]
theorem ev_lenL {t el sz by_ n m : Nat} {A : Option Addr} {z : List Value} {x : Operand} (h1 : opnd s x = .lit (.slice A n m)) (ht : Θ.lookup t = some ⟨sz, by_, .slice el, z⟩) : evVal Θ s (.call ⟨.builtin .len, #[x], #[t]⟩) = some (.lit (.int .i64 (n : Int))) := by
  simp [evVal, h1, evLenS, evLen, ht]
theorem ev_ext {x : Operand} {i : Nat} {cs : List AV} {r : AV} (h1 : opnd s x = .tup cs) (h2 : cs[i]? = some r) : evVal Θ s (.extract x i) = some r := by simp [evVal, h1, h2]
theorem ev_fld {t f sz by_ : Nat} {z : List Value} {x : Operand} {cs : List AV} {fs : Array Field} {fd : Field} {tf : TI} {c : AV} (h1 : opnd s x = .agg cs) (ht : Θ.lookup t = some ⟨sz, by_, .struct fs, z⟩) (hf : fs.toList[f]? = some fd) (htf : Θ.lookup fd.type = some tf) (ha : aggD tf.und = false) (hc : cs[fd.offset]? = some c) (hp : c.plain = true) : evVal Θ s (.field t x f) = some c := by
  rw [Array.getElem?_toList] at hf
  simp [evVal, h1, evField, evPart, ht, hf, htf, ha, hc, hp]
end

/- ------------------------------------------------ steps, over states that are written out -/
section
variable {E : Env} {Θ : Tys} {ops : Array Oper} {o : Oper} {rest : List Oper} {sl : List (Nat × AV)} {rt : List (Nat × Option Root)} {us : List Nat} {K : St → Prop}
theorem st_val (hΘ : TOK E.P Θ) {d : Nat} {r : AV} (hg : o.guard = none) (hdst : o.dst = some d) (hn : d < E.n) (he : evVal Θ ⟨sl, rt, us⟩ o.op = some r) (h : RW E ops rest ⟨(d, r) :: sl, rt, us⟩ K) : RW E ops (o :: rest) ⟨sl, rt, us⟩ K := by
  refine rw_op hg (opTo_val hΘ (by rw [hdst]; simpa [okD] using hn) he) ?_
  rw [hdst]; exact h
theorem st_gen (p : Bool) {j d t : Nat} {b c : Bool} {r : AV} (hg : o.guard = some (j, b)) (hj : ((ops.toList[j]?).bind (·.dst)) = some d) (hd : d < E.n) (ht : o.dst = some t) (hok : t < E.n)
    (hs : p = true → St.get ⟨sl, rt, us⟩ d = .lit (.bool c)) (hs' : ¬p = true → ∃ v, St.get ⟨sl, rt, us⟩ d = .lit v ∧ ∀ c, v ≠ .bool c)
    (ho : (p && (c == b)) = true → OpTo E o ⟨sl, rt, us⟩ (St.put ⟨sl, rt, us⟩ t r)) (h : RW E ops rest ⟨(t, gd (p && (c == b)) r) :: sl, rt, us⟩ K) : RW E ops (o :: rest) ⟨sl, rt, us⟩ K := by
  rw [Array.getElem?_toList] at hj
  intro a w Q hr hq
  have hskip : Region.wanted o (yielded ops a.tmps) = false → ¬ (p && (c == b)) = true → wpList E.P ops Q (o :: rest) a w := by
    intro hw hn
    unfold wpList
    rw [if_neg (by rw [hw]; exact Bool.noConfusion)]
    rw [gd_neg hn] at h
    obtain ⟨χ, hd', h0⟩ := hr
    have h1 := h0.putO (d := o.dst) (by rw [ht]; simpa [okD] using hok) (v := undef) (repR_lit undef)
    rw [ht] at h1 ⊢
    exact h _ w Q ⟨χ, hd', h1⟩ hq
  by_cases hp : p = true
  · have hy := yielded_lit hr hj hd (hs hp)
    by_cases hc : c = b
    · have hpc : (p && (c == b)) = true := by simp [hp, hc]
      unfold wpList
      rw [if_pos (by simp [Region.wanted, hg, hy, hc])]
      rw [gd_pos hpc] at h
      exact .inl (ho hpc a w hr _ Q (fun a' w' hr' => h a' w' Q hr' hq))
    · exact hskip (by simp [Region.wanted, hg, hy, hc]) (fun hx => hc (by simpa using and_r hx))
  · refine hskip ?_ (fun hx => hp (and_l hx))
    obtain ⟨v, hv, hne⟩ := hs' hp
    obtain ⟨χ, hd', h0⟩ := hr
    have := h0.slots d
    rw [hv] at this
    have hne2 : ∀ c, a.tmps.getD d undef ≠ .bool c := by
      intro c e
      have := lit_veq this
      rw [e] at this
      unfold VEq at this
      split at this
      · rcases this with h | ⟨m, h, _⟩ <;> cases h
      · exact hne c this.symm
    have hyy : yielded ops a.tmps j = none := by
      unfold yielded
      rw [hj, Option.bind_some]
      have hsz : d < a.tmps.size := by rw [h0.size]; exact hd
      rw [Array.getD_eq_getD_getElem?, Array.getElem?_eq_getElem hsz, Option.getD_some] at hne2
      rw [Array.getElem?_eq_getElem hsz]
      generalize a.tmps[d] = v2 at hne2
      cases v2 <;> first | rfl | exact absurd rfl (hne2 _)
    simp [Region.wanted, hg, hyy]
/-- an operation under a test -/
theorem st_may {j d t : Nat} {b c : Bool} {r : AV} (hg : o.guard = some (j, b)) (hj : ((ops.toList[j]?).bind (·.dst)) = some d) (hd : d < E.n) (ht : o.dst = some t) (hok : t < E.n)
    (hs : St.get ⟨sl, rt, us⟩ d = .lit (.bool c)) (ho : (c == b) = true → OpTo E o ⟨sl, rt, us⟩ (St.put ⟨sl, rt, us⟩ t r)) (h : RW E ops rest ⟨(t, gd (c == b) r) :: sl, rt, us⟩ K) : RW E ops (o :: rest) ⟨sl, rt, us⟩ K := by
  refine st_gen true hg hj hd ht hok (fun _ => hs) (fun h => absurd rfl h) (fun h => ho (and_r h)) ?_
  rw [Bool.true_and]; exact h
/-- an operation under a test that stands under one itself -/
theorem st_may' {p : Bool} {j d t : Nat} {b c : Bool} {r : AV} (hg : o.guard = some (j, b)) (hj : ((ops.toList[j]?).bind (·.dst)) = some d) (hd : d < E.n) (ht : o.dst = some t) (hok : t < E.n)
    (hs : St.get ⟨sl, rt, us⟩ d = gd p (.lit (.bool c))) (ho : (p && (c == b)) = true → OpTo E o ⟨sl, rt, us⟩ (St.put ⟨sl, rt, us⟩ t r)) (h : RW E ops rest ⟨(t, gd (p && (c == b)) r) :: sl, rt, us⟩ K) : RW E ops (o :: rest) ⟨sl, rt, us⟩ K :=
  st_gen p hg hj hd ht hok (fun hp => by rw [hs, gd_pos hp]) (fun hp => ⟨undef, by rw [hs, gd_neg hp], fun c h => by cases h⟩) ho h
theorem to_val (hΘ : TOK E.P Θ) {d : Nat} {r : AV} (hdst : o.dst = some d) (hn : d < E.n) (he : evVal Θ ⟨sl, rt, us⟩ o.op = some r) : OpTo E o ⟨sl, rt, us⟩ (St.put ⟨sl, rt, us⟩ d r) := by
  have := opTo_val hΘ (o := o) (by rw [hdst]; simpa [okD] using hn) he
  rw [hdst] at this
  exact this
/-- a call that gives no memory -/
theorem outL_n {s : St} : outL s [] = some [] := rfl
theorem outL_p {s : St} {x : Operand} {l : List AV} {d : AV} {ds : List AV} (h1 : out s (opnd s x) = some d) (h2 : outL s l = some ds) : outL s (opnd s x :: l) = some (d :: ds) := by simp [outL, h1, h2]
theorem outL_g {s : St} {x : Operand} {l : List AV} {d r : AV} {ds : List AV} {p : Bool} (h0 : opnd s x = gd p r) (hp : p = true) (h1 : out s r = some d) (h2 : outL s l = some ds) : outL s (opnd s x :: l) = some (d :: ds) := by
  rw [h0, gd_pos hp]; simp [outL, h1, h2]
theorem to_call {d : Nat} {f : FuncId} {args : Array Operand} {tys : Array TypeId} {outs : List AV} {res : AV} (ho : o.op = .call ⟨.value (.func f), args, tys⟩) (hdst : o.dst = some d) (hn : d < E.n) (hout : outL ⟨sl, rt, us⟩ (args.toList.map (opnd ⟨sl, rt, us⟩)) = some outs) (hm : Meets E.P f outs res) (hro : noRo res = true) (hr : rtf res [] = (res, [], [])) :
    OpTo E o ⟨sl, rt, us⟩ (St.put ⟨sl, rt, us⟩ d res) := by
  have := opTo_call ho (by rw [hdst]; simpa [okD] using hn) hout hm hro [] List.nodup_nil (by simp)
  rw [hr, hdst] at this
  exact this
theorem st_call {d : Nat} {f : FuncId} {args : Array Operand} {tys : Array TypeId} {outs : List AV} {res : AV} (hg : o.guard = none) (ho : o.op = .call ⟨.value (.func f), args, tys⟩) (hdst : o.dst = some d) (hn : d < E.n) (hout : outL ⟨sl, rt, us⟩ (args.toList.map (opnd ⟨sl, rt, us⟩)) = some outs) (hm : Meets E.P f outs res) (hro : noRo res = true) (hr : rtf res [] = (res, [], []))
    (h : RW E ops rest ⟨(d, res) :: sl, rt, us⟩ K) : RW E ops (o :: rest) ⟨sl, rt, us⟩ K := rw_op hg (to_call ho hdst hn hout hm hro hr) h
/-- a call of a function value -/
theorem to_callF {d : Nat} {x : Operand} {f : FuncId} {caps : List AV} {args : Array Operand} {tys : Array TypeId} {outs : List AV} {res : AV} (ho : o.op = .call ⟨.value x, args, tys⟩) (hx : opnd ⟨sl, rt, us⟩ x = .fn f caps) (hdst : o.dst = some d) (hn : d < E.n) (hout : outL ⟨sl, rt, us⟩ (args.toList.map (opnd ⟨sl, rt, us⟩) ++ caps) = some outs) (hm : Meets E.P f outs res) (hro : noRo res = true) (hr : rtf res [] = (res, [], [])) :
    OpTo E o ⟨sl, rt, us⟩ (St.put ⟨sl, rt, us⟩ d res) := by
  have := opTo_callF ho hx (by rw [hdst]; simpa [okD] using hn) hout hm hro [] List.nodup_nil (by simp)
  rw [hr, hdst] at this
  exact this
theorem st_callF {d : Nat} {x : Operand} {f : FuncId} {caps : List AV} {args : Array Operand} {tys : Array TypeId} {outs : List AV} {res : AV} (hg : o.guard = none) (ho : o.op = .call ⟨.value x, args, tys⟩) (hx : opnd ⟨sl, rt, us⟩ x = .fn f caps) (hdst : o.dst = some d) (hn : d < E.n) (hout : outL ⟨sl, rt, us⟩ (args.toList.map (opnd ⟨sl, rt, us⟩) ++ caps) = some outs) (hm : Meets E.P f outs res) (hro : noRo res = true) (hr : rtf res [] = (res, [], []))
    (h : RW E ops rest ⟨(d, res) :: sl, rt, us⟩ K) : RW E ops (o :: rest) ⟨sl, rt, us⟩ K := rw_op hg (to_callF ho hx hdst hn hout hm hro hr) h
/-- a call that gives one row -/
theorem st_callO {d : Nat} {f : FuncId} {args : Array Operand} {tys : Array TypeId} {outs : List AV} {T sz : Nat} {xs : List (List AV)} (hg : o.guard = none) (ho : o.op = .call ⟨.value (.func f), args, tys⟩) (hdst : o.dst = some d) (hn : d < E.n) (hout : outL ⟨sl, rt, us⟩ (args.toList.map (opnd ⟨sl, rt, us⟩)) = some outs) (hm : Meets E.P f outs (.own T sz xs)) (hro : noRo (.own T sz xs) = true) (hz : 0 < sz) (hid : d ∉ us)
    (h : RW E ops rest ⟨(d, .sl d 0 xs.length) :: sl, (d, some ⟨T, sz, xs⟩) :: rt, d :: us⟩ K) : RW E ops (o :: rest) ⟨sl, rt, us⟩ K := by
  refine rw_op hg (opTo_call ho (by rw [hdst]; simpa [okD] using hn) hout hm hro [d] (by simp) (by simpa using hid)) ?_
  simp only [rtf, hz, if_true, hdst]
  exact h
/-- a call that gives one row and a value -/
theorem st_callOL {d : Nat} {f : FuncId} {args : Array Operand} {tys : Array TypeId} {outs : List AV} {T sz : Nat} {xs : List (List AV)} {v : Value} (hg : o.guard = none) (ho : o.op = .call ⟨.value (.func f), args, tys⟩) (hdst : o.dst = some d) (hn : d < E.n) (hout : outL ⟨sl, rt, us⟩ (args.toList.map (opnd ⟨sl, rt, us⟩)) = some outs) (hm : Meets E.P f outs (.tup [.own T sz xs, .lit v])) (hro : noRo (.tup [.own T sz xs, .lit v]) = true) (hz : 0 < sz) (hid : d ∉ us)
    (h : RW E ops rest ⟨(d, .tup [.sl d 0 xs.length, .lit v]) :: sl, (d, some ⟨T, sz, xs⟩) :: rt, d :: us⟩ K) : RW E ops (o :: rest) ⟨sl, rt, us⟩ K := by
  refine rw_op hg (opTo_call ho (by rw [hdst]; simpa [okD] using hn) hout hm hro [d] (by simp) (by simpa using hid)) ?_
  simp only [rtf, rtfL, hz, if_true, hdst]
  exact h
theorem st_new (hΘ : TOK E.P Θ) {d : Nat} {R : Root} {r : AV} (hg : o.guard = none) (hdst : o.dst = some d) (hn : d < E.n) (hid : d ∉ us) (he : evNew Θ ⟨sl, rt, us⟩ o.op d = some (R, r)) (h : RW E ops rest ⟨(d, r) :: sl, (d, some R) :: rt, d :: us⟩ K) : RW E ops (o :: rest) ⟨sl, rt, us⟩ K := by
  refine rw_op hg (opTo_new hΘ d hid (by rw [hdst]; simpa [okD] using hn) he) ?_
  rw [hdst]; exact h
theorem st_store (hΘ : TOK E.P Θ) {t id e off : Nat} {p y : Operand} {ti : TI} {R : Root} {x cs x' : List AV} (ho : o.op = .store t p y) (hg : o.guard = none) (hdst : o.dst = none) (hti : Θ.lookup t = some ti) (hpt : opnd ⟨sl, rt, us⟩ p = .ptr id e off) (hR : St.root ⟨sl, rt, us⟩ id = some R) (he : R.xs[e]? = some x)
    (hcs : cellsOf (opnd ⟨sl, rt, us⟩ y) = cs) (hn : cs.length = ti.sz) (hl : off + cs.length ≤ x.length) (hok : cs.all (okCell ⟨sl, rt, us⟩) = true) (hx : wr x off cs = x') (h : RW E ops rest ⟨sl, (id, some ⟨R.T, R.sz, R.xs.set e x'⟩) :: rt, us⟩ K) : RW E ops (o :: rest) ⟨sl, rt, us⟩ K := by
  subst hcs; subst hx
  exact rw_op hg (opTo_store hΘ ho hdst hti hpt hR he hn hl hok) h
/-- the only element of a row, all of it -/
theorem st_store1 (hΘ : TOK E.P Θ) {t id T sz : Nat} {p y : Operand} {ti : TI} {x cs : List AV} (ho : o.op = .store t p y) (hg : o.guard = none) (hdst : o.dst = none) (hti : Θ.lookup t = some ti) (hpt : opnd ⟨sl, rt, us⟩ p = .ptr id 0 0) (hR : St.root ⟨sl, rt, us⟩ id = some ⟨T, sz, [x]⟩)
    (hcs : cellsOf (opnd ⟨sl, rt, us⟩ y) = cs) (hn : cs.length = ti.sz) (hl : cs.length = x.length) (hok : cs.all (okCell ⟨sl, rt, us⟩) = true) (h : RW E ops rest ⟨sl, (id, some ⟨T, sz, [cs]⟩) :: rt, us⟩ K) : RW E ops (o :: rest) ⟨sl, rt, us⟩ K := by
  refine st_store hΘ ho hg hdst hti hpt hR (x := x) (by rfl) hcs hn (by omega) hok (x' := cs) ?_ h
  unfold wr
  simp [hl]
/-- an element of a row, all of it -/
theorem st_storeE (hΘ : TOK E.P Θ) {t id e T sz : Nat} {p y : Operand} {ti : TI} {x cs : List AV} {xs xs' : List (List AV)} (ho : o.op = .store t p y) (hg : o.guard = none) (hdst : o.dst = none) (hti : Θ.lookup t = some ti) (hpt : opnd ⟨sl, rt, us⟩ p = .ptr id e 0) (hR : St.root ⟨sl, rt, us⟩ id = some ⟨T, sz, xs⟩) (he : xs[e]? = some x)
    (hcs : cellsOf (opnd ⟨sl, rt, us⟩ y) = cs) (hn : cs.length = ti.sz) (hl : cs.length = x.length) (hok : cs.all (okCell ⟨sl, rt, us⟩) = true) (hx : xs.set e cs = xs') (h : RW E ops rest ⟨sl, (id, some ⟨T, sz, xs'⟩) :: rt, us⟩ K) : RW E ops (o :: rest) ⟨sl, rt, us⟩ K := by
  subst hx
  refine st_store hΘ ho hg hdst hti hpt hR (x := x) he hcs hn (by omega) hok (x' := cs) ?_ h
  unfold wr
  simp [hl]
end
section
variable {Θ : Tys} {s : St} {id : Nat}
theorem en_alloc {t : Nat} {ti : TI} {cs : List AV} (ht : Θ.lookup t = some ti) (hz : zOK ti = true) (hc : litL ti.zero = cs) : evNew Θ s (.alloc t) id = some (⟨t, ti.sz, [cs]⟩, .ptr id 0 0) := by
  subst hc; simp only [evNew, ht, hz, if_true]
theorem en_box {t : Nat} {x : Operand} {cs : List AV} (hx : cellsOf (opnd s x) = cs) (hok : cs.all (okCell s) = true) (hl : 0 < cs.length) : evNew Θ s (.box t x) id = some (⟨t, cs.length, [cs]⟩, .ptr id 0 0) := by
  subst hx; simp only [evNew, hok, hl, if_true]
theorem en_boxA {t : Nat} {x : Operand} {cs : List AV} (hx : opnd s x = .agg cs) (hok : cs.all (okCell s) = true) (hl : 0 < cs.length) : evNew Θ s (.box t x) id = some (⟨t, cs.length, [cs]⟩, .ptr id 0 0) := en_box (by rw [hx]; rfl) hok hl
theorem en_boxL {t : Nat} {x : Operand} {v : Value} (hx : opnd s x = .lit v) (hok : v.oneCell' = true) : evNew Θ s (.box t x) id = some (⟨t, 1, [[.lit v]]⟩, .ptr id 0 0) := en_box (cs := [.lit v]) (by rw [hx]; rfl) (by simp [okCell, hok]) (by simp)
theorem en_make {t el sz by_ n : Nat} {z : List Value} {l c : Operand} {te : TI} {k k' : IntKind} (hl : opnd s l = .lit (.int k (n : Int))) (hc : opnd s c = .lit (.int k' (n : Int))) (ht : Θ.lookup t = some ⟨sz, by_, .slice el, z⟩) (hte : Θ.lookup el = some te) (hz : zOK te = true) (hb : n * te.bytes ≤ 140737488355328) (hn : n ≤ 140737488355328) :
    evNew Θ s (.makeSlice t l c) id = some (⟨el, te.sz, List.replicate n (litL te.zero)⟩, .sl id 0 n) := by
  simp only [evNew, hl, hc, ht, hte, hz, if_true]
  rw [if_pos (by omega), if_pos (by rw [← Int.natCast_mul]; generalize n * te.bytes = m at hb ⊢; omega), if_pos (by omega)]
  simp only [Int.toNat_natCast]
theorem en_build {t el n sz by_ : Nat} {z : List Value} {ps : Array (Nat × Operand)} {te : TI} {cs : List AV} {xs : List (List AV)} (ht : Θ.lookup t = some ⟨sz, by_, .slice el, z⟩) (hte : Θ.lookup el = some te) (hz : zOK te = true) (hn : n * te.sz ≤ 16777216)
    (hf : evFill s (fun i => some (i * te.sz, te.sz)) (litL (List.replicate n te.zero).flatten) (evParts s ps) = some cs) (hok : cs.all (okCell s) = true) (hl : cs.length = n * te.sz) (hx : chunks te.sz n cs = xs) : evNew Θ s (.buildSlice t n ps) id = some (⟨el, te.sz, xs⟩, .sl id 0 n) := by
  subst hx; simp only [evNew, ht, hte, hz, if_true, if_pos hn, hf, hok, hl]
end
/- ------------------------------------------------ control -/
section
variable {E : Env} {s : St} {Q : Exit → St → Prop} {k : St → Prop}
theorem twp_cdec {c : Operand} {x y : Code} {p : Prop} [Decidable p] (hc : opnd s c = .lit (.bool (decide p))) (ht : p → TWp E x Q s) (hf : ¬p → TWp E y Q s) : TWp E (.cond c x y) Q s :=
  twp_cond hc (fun h => ht (of_decide_eq_true h)) (fun h => hf (of_decide_eq_false h))
theorem twp_ct {c : Operand} {x y : Code} (hc : opnd s c = .lit (.bool true)) (ht : TWp E x Q s) : TWp E (.cond c x y) Q s :=
  twp_cond hc (fun _ => ht) (fun h => by cases h)
theorem twp_cf {c : Operand} {x y : Code} (hc : opnd s c = .lit (.bool false)) (ht : TWp E y Q s) : TWp E (.cond c x y) Q s :=
  twp_cond hc (fun h => by cases h) (fun _ => ht)
theorem thn_n (h : k s) : thn k Q .normal s := h
theorem thn_r (h : Q .ret s) : thn k Q .ret s := h
theorem thn_x {i : Nat} (h : Q (.exit i) s) : thn k Q (.exit i) s := h
theorem inB_n {id : Nat} (h : Q .normal s) : inB id Q .normal s := h
theorem inB_r {id : Nat} (h : Q .ret s) : inB id Q .ret s := h
theorem inB_x {id : Nat} (h : Q .normal s) : inB id Q (.exit id) s := by simp only [inB, if_true]; exact h
theorem inB_y {id i : Nat} (hne : (i == id) = false) (h : Q (.exit i) s) : inB id Q (.exit i) s := by
  simp only [inB]; rw [if_neg (by simpa using hne)]; exact h
end
open Classical in
theorem meets_of1 {P : Program} {Θ : Tys} (hΘ : TOK P Θ) {f : FuncId} {fn : Func} {c : Code} (hf : P.funcs[f]? = some fn) (hname : (fn.name == "runtime.NumGoroutine") = false) (hb : fn.body = some c) {a0 res : AV} (hn : 1 ≤ fn.ntmps)
    (h : ∀ E : Env, E.P = P → E.n = fn.ntmps → E.fx = [] → TWp E c (fun e s => (e = .normal ∨ e = .ret) ∧ Res Θ fn.results.toList res s) ⟨[(0, a0)], [], [JJ]⟩) : Meets P f [a0] res := meets_of hΘ hf hname hb (by simpa using hn) h
open Classical in
theorem meets_of2 {P : Program} {Θ : Tys} (hΘ : TOK P Θ) {f : FuncId} {fn : Func} {c : Code} (hf : P.funcs[f]? = some fn) (hname : (fn.name == "runtime.NumGoroutine") = false) (hb : fn.body = some c) {a0 a1 res : AV} (hn : 2 ≤ fn.ntmps)
    (h : ∀ E : Env, E.P = P → E.n = fn.ntmps → E.fx = [] → TWp E c (fun e s => (e = .normal ∨ e = .ret) ∧ Res Θ fn.results.toList res s) ⟨[(0, a0), (1, a1)], [], [JJ]⟩) : Meets P f [a0, a1] res := meets_of hΘ hf hname hb (by simpa using hn) h
open Classical in
theorem meets_of3 {P : Program} {Θ : Tys} (hΘ : TOK P Θ) {f : FuncId} {fn : Func} {c : Code} (hf : P.funcs[f]? = some fn) (hname : (fn.name == "runtime.NumGoroutine") = false) (hb : fn.body = some c) {a0 a1 a2 res : AV} (hn : 3 ≤ fn.ntmps)
    (h : ∀ E : Env, E.P = P → E.n = fn.ntmps → E.fx = [] → TWp E c (fun e s => (e = .normal ∨ e = .ret) ∧ Res Θ fn.results.toList res s) ⟨[(0, a0), (1, a1), (2, a2)], [], [JJ]⟩) : Meets P f [a0, a1, a2] res := meets_of hΘ hf hname hb (by simpa using hn) h
open Classical in
theorem meets_of4 {P : Program} {Θ : Tys} (hΘ : TOK P Θ) {f : FuncId} {fn : Func} {c : Code} (hf : P.funcs[f]? = some fn) (hname : (fn.name == "runtime.NumGoroutine") = false) (hb : fn.body = some c) {a0 a1 a2 a3 res : AV} (hn : 4 ≤ fn.ntmps)
    (h : ∀ E : Env, E.P = P → E.n = fn.ntmps → E.fx = [] → TWp E c (fun e s => (e = .normal ∨ e = .ret) ∧ Res Θ fn.results.toList res s) ⟨[(0, a0), (1, a1), (2, a2), (3, a3)], [], [JJ]⟩) : Meets P f [a0, a1, a2, a3] res := meets_of hΘ hf hname hb (by simpa using hn) h
open Classical in
theorem meets_of5 {P : Program} {Θ : Tys} (hΘ : TOK P Θ) {f : FuncId} {fn : Func} {c : Code} (hf : P.funcs[f]? = some fn) (hname : (fn.name == "runtime.NumGoroutine") = false) (hb : fn.body = some c) {a0 a1 a2 a3 a4 res : AV} (hn : 5 ≤ fn.ntmps)
    (h : ∀ E : Env, E.P = P → E.n = fn.ntmps → E.fx = [] → TWp E c (fun e s => (e = .normal ∨ e = .ret) ∧ Res Θ fn.results.toList res s) ⟨[(0, a0), (1, a1), (2, a2), (3, a3), (4, a4)], [], [JJ]⟩) : Meets P f [a0, a1, a2, a3, a4] res := meets_of hΘ hf hname hb (by simpa using hn) h
open Classical in
theorem meets_of6 {P : Program} {Θ : Tys} (hΘ : TOK P Θ) {f : FuncId} {fn : Func} {c : Code} (hf : P.funcs[f]? = some fn) (hname : (fn.name == "runtime.NumGoroutine") = false) (hb : fn.body = some c) {a0 a1 a2 a3 a4 a5 res : AV} (hn : 6 ≤ fn.ntmps)
    (h : ∀ E : Env, E.P = P → E.n = fn.ntmps → E.fx = [] → TWp E c (fun e s => (e = .normal ∨ e = .ret) ∧ Res Θ fn.results.toList res s) ⟨[(0, a0), (1, a1), (2, a2), (3, a3), (4, a4), (5, a5)], [], [JJ]⟩) : Meets P f [a0, a1, a2, a3, a4, a5] res := meets_of hΘ hf hname hb (by simpa using hn) h
open Classical in
theorem meets_of7 {P : Program} {Θ : Tys} (hΘ : TOK P Θ) {f : FuncId} {fn : Func} {c : Code} (hf : P.funcs[f]? = some fn) (hname : (fn.name == "runtime.NumGoroutine") = false) (hb : fn.body = some c) {a0 a1 a2 a3 a4 a5 a6 res : AV} (hn : 7 ≤ fn.ntmps)
    (h : ∀ E : Env, E.P = P → E.n = fn.ntmps → E.fx = [] → TWp E c (fun e s => (e = .normal ∨ e = .ret) ∧ Res Θ fn.results.toList res s) ⟨[(0, a0), (1, a1), (2, a2), (3, a3), (4, a4), (5, a5), (6, a6)], [], [JJ]⟩) : Meets P f [a0, a1, a2, a3, a4, a5, a6] res := meets_of hΘ hf hname hb (by simpa using hn) h
end Go.T
