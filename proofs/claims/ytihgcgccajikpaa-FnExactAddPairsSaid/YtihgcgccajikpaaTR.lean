/- Lemmas for FnExactAddPairs; no condition. -/

import Derived.Test.YtihgcgccajikpaaTQ
set_option linter.unusedVariables false
namespace Go.T
open Go Go.RowKit Go.Proofs

section
variable {E : Env} {Θ : Tys} {ops : Array Oper} {o : Oper} {rest : List Oper} {sl : List (Nat × AV)} {rt : List (Nat × Option Root)} {us : List Nat} {K : St → Prop}
/-- append: a row of one's own, another row behind it -/
theorem st_app (hΘ : TOK E.P Θ) {d t sz0 by0 el i j len m T' : Nat} {z0 : List Value} {x y : Operand} {te : TI} {xs ys : List (List AV)} (hg : o.guard = none) (ho : o.op = .call ⟨.builtin .append, #[x, y], #[t, t]⟩) (hdst : o.dst = some d) (hn : d < E.n) (hid : d ∉ us)
    (hti : Θ.lookup t = some ⟨sz0, by0, .slice el, z0⟩) (hte : Θ.lookup el = some te) (hz : zOK te = true) (hx : opnd ⟨sl, rt, us⟩ x = .sl i 0 len) (hR : St.root ⟨sl, rt, us⟩ i = some ⟨el, te.sz, xs⟩) (hy : opnd ⟨sl, rt, us⟩ y = .sl j 0 m) (hY : St.root ⟨sl, rt, us⟩ j = some ⟨T', te.sz, ys⟩)
    (hlen : len = xs.length) (hm : m = ys.length) (hp : ys.all (fun r => r.all AV.plain) = true) (hb : (len + m) * te.bytes ≤ 140737488355328) (hmx : len + m ≤ 140737488355328)
    (h : RW E ops rest ⟨(d, .sl d 0 (len + m)) :: sl, (d, some ⟨el, te.sz, xs ++ ys⟩) :: (i, none) :: rt, d :: us⟩ K) : RW E ops (o :: rest) ⟨sl, rt, us⟩ K := by
  subst hlen; subst hm
  have := opTo_app (s := ⟨sl, rt, us⟩) hΘ d hid (by rw [hdst]; simpa [okD] using hn) ho hti hte hz (xs := xs) (k := some i) (by simp [dstRows, hx, hR]) (ys := ys) (by simp [srcRows, hy, hY]) (by simpa only [List.all_eq_true] using hp) hb hmx
  refine rw_op hg this ?_
  rw [hdst]
  exact h
/-- append to nothing -/
theorem st_app0 (hΘ : TOK E.P Θ) {d t sz0 by0 el j m T' : Nat} {z0 : List Value} {x y : Operand} {te : TI} {ys : List (List AV)} (hg : o.guard = none) (ho : o.op = .call ⟨.builtin .append, #[x, y], #[t, t]⟩) (hdst : o.dst = some d) (hn : d < E.n) (hid : d ∉ us)
    (hti : Θ.lookup t = some ⟨sz0, by0, .slice el, z0⟩) (hte : Θ.lookup el = some te) (hz : zOK te = true) (hx : opnd ⟨sl, rt, us⟩ x = .lit (.slice none 0 0)) (hy : opnd ⟨sl, rt, us⟩ y = .sl j 0 m) (hY : St.root ⟨sl, rt, us⟩ j = some ⟨T', te.sz, ys⟩)
    (hm : m = ys.length) (hp : ys.all (fun r => r.all AV.plain) = true) (hb : m * te.bytes ≤ 140737488355328) (hmx : m ≤ 140737488355328)
    (h : RW E ops rest ⟨(d, .sl d 0 m) :: sl, (d, some ⟨el, te.sz, ys⟩) :: rt, d :: us⟩ K) : RW E ops (o :: rest) ⟨sl, rt, us⟩ K := by
  subst hm
  have := opTo_app (s := ⟨sl, rt, us⟩) hΘ d hid (by rw [hdst]; simpa [okD] using hn) ho hti hte hz (xs := []) (k := none) (by simp [dstRows, hx]) (ys := ys) (by simp [srcRows, hy, hY]) (by simpa only [List.all_eq_true] using hp) (by simpa using hb) (by simpa using hmx)
  refine rw_op hg this ?_
  rw [hdst]
  simpa [St.killO, St.add, St.putO, St.put] using h
/-- a root that a cell leads to, into that cell -/
theorem ent_pack {i j T sz e c : Nat} {Y : Root} {xs xs' : List (List AV)} {x : List AV} (hij : j ≠ i) (hR : St.root ⟨sl, rt, us⟩ i = some ⟨T, sz, xs⟩) (hY : St.root ⟨sl, rt, us⟩ j = some Y) (he : xs[e]? = some x) (hc : x[c]? = some (.sl j 0 Y.xs.length)) (ht : treeLL Y.xs = true) (hx : xs.set e (x.set c (.own Y.T Y.sz Y.xs)) = xs') :
    Ent E ⟨sl, rt, us⟩ ⟨sl, (j, none) :: (i, some ⟨T, sz, xs'⟩) :: rt, us⟩ := by
  subst hx
  rintro a w ⟨χ, hd, h⟩
  exact h.pack (o := c) hij hR hY he hc ht
/-- the last element's only cell -/
theorem ent_packL {i j T sz n : Nat} {Y : Root} {xs : List (List AV)} (hij : j ≠ i) (hR : St.root ⟨sl, rt, us⟩ i = some ⟨T, sz, xs ++ [[.sl j 0 n]]⟩) (hY : St.root ⟨sl, rt, us⟩ j = some Y) (hn : n = Y.xs.length) (ht : treeLL Y.xs = true) :
    Ent E ⟨sl, rt, us⟩ ⟨sl, (j, none) :: (i, some ⟨T, sz, xs ++ [[.own Y.T Y.sz Y.xs]]⟩) :: rt, us⟩ := by
  subst hn
  exact ent_pack (e := xs.length) (c := 0) (x := [.sl j 0 Y.xs.length]) hij hR hY (by simp) rfl ht (by simp)
theorem ent_packL' {i j T sz n : Nat} {Y : Root} {xs xs' : List (List AV)} (hij : j ≠ i) (hR : St.root ⟨sl, rt, us⟩ i = some ⟨T, sz, xs ++ [[.sl j 0 n]]⟩) (hY : St.root ⟨sl, rt, us⟩ j = some Y) (hn : n = Y.xs.length) (ht : treeLL Y.xs = true) (hx : xs ++ [[.own Y.T Y.sz Y.xs]] = xs') :
    Ent E ⟨sl, rt, us⟩ ⟨sl, (j, none) :: (i, some ⟨T, sz, xs'⟩) :: rt, us⟩ := by
  subst hx; exact ent_packL hij hR hY hn ht
/-- a cell's row, as a root -/
theorem ent_unpack {i j T sz e c T' sz' : Nat} {ys : List (List AV)} {xs xs' : List (List AV)} {x : List AV} (hj : j ∉ us) (hR : St.root ⟨sl, rt, us⟩ i = some ⟨T, sz, xs⟩) (he : xs[e]? = some x) (hc : x[c]? = some (.own T' sz' ys)) (hz : 0 < sz') (hx : xs.set e (x.set c (.sl j 0 ys.length)) = xs') :
    Ent E ⟨sl, rt, us⟩ ⟨sl, (j, some ⟨T', sz', ys⟩) :: (i, some ⟨T, sz, xs'⟩) :: rt, j :: us⟩ := by
  subst hx
  rintro a w ⟨χ, hd, h⟩
  exact h.unpack hj hR he hc hz
end
section
variable {Θ : Tys} {s : St} {id : Nat}
theorem cells_lit {x : Operand} {v : Value} (h : opnd s x = .lit v) : cellsOf (opnd s x) = [.lit v] := by rw [h]; rfl
theorem cells_agg {x : Operand} {cs : List AV} (h : opnd s x = .agg cs) : cellsOf (opnd s x) = cs := by rw [h]; rfl
theorem cells_sl {x : Operand} {i o l : Nat} (h : opnd s x = .sl i o l) : cellsOf (opnd s x) = [.sl i o l] := by rw [h]; rfl
theorem cells_ro {x : Operand} {i : Nat} {l : List (List AV)} (h : opnd s x = .ro i l) : cellsOf (opnd s x) = [.ro i l] := by rw [h]; rfl
theorem en_b0 {t el sz by_ : Nat} {z : List Value} {ps : Array (Nat × Operand)} {te : TI} (ht : Θ.lookup t = some ⟨sz, by_, .slice el, z⟩) (hte : Θ.lookup el = some te) (hz : zOK te = true) (hps : ps.toList = []) :
    evNew Θ s (.buildSlice t 0 ps) id = some (⟨el, te.sz, []⟩, .sl id 0 0) := by
  refine en_build (cs := []) ht hte hz (by omega) ?_ rfl (by simp) rfl
  simp [evParts, hps, evFill, litL]
theorem en_b1 {t el sz by_ : Nat} {z : List Value} {ps : Array (Nat × Operand)} {x : Operand} {te : TI} {cs : List AV} (ht : Θ.lookup t = some ⟨sz, by_, .slice el, z⟩) (hte : Θ.lookup el = some te) (hz : zOK te = true) (hps : ps.toList = [(0, x)]) (hx : cellsOf (opnd s x) = cs) (hl : cs.length = te.sz) (hok : cs.all (okCell s) = true) (hsz : te.sz ≤ 16777216) :
    evNew Θ s (.buildSlice t 1 ps) id = some (⟨el, te.sz, [cs]⟩, .sl id 0 1) := by
  have hzz := (zOK_iff hz).2.1
  refine en_build (cs := cs) ht hte hz (by omega) ?_ hok (by omega) ?_
  · simp only [evParts, hps, List.map_cons, List.map_nil, evFill, hx, hl, if_true, hok]
    rw [if_pos (by simp [litL, hzz])]
    simp [litL, hzz]
  · simp only [chunks]; rw [List.take_of_length_le (by omega)]
theorem en_b2 {t el sz by_ : Nat} {z : List Value} {ps : Array (Nat × Operand)} {x y : Operand} {te : TI} {cs ds : List AV} (ht : Θ.lookup t = some ⟨sz, by_, .slice el, z⟩) (hte : Θ.lookup el = some te) (hz : zOK te = true) (hps : ps.toList = [(0, x), (1, y)]) (hx : cellsOf (opnd s x) = cs) (hl : cs.length = te.sz) (hok : cs.all (okCell s) = true) (hy : cellsOf (opnd s y) = ds) (hly : ds.length = te.sz) (hoky : ds.all (okCell s) = true) (hsz : te.sz ≤ 8000000) :
    evNew Θ s (.buildSlice t 2 ps) id = some (⟨el, te.sz, [cs, ds]⟩, .sl id 0 2) := by
  have hzz := (zOK_iff hz).2.1
  refine en_build (cs := cs ++ ds) ht hte hz (by omega) ?_ (by rw [List.all_append, hok, hoky]; rfl) (by rw [List.length_append]; omega) ?_
  · have e0 : (litL (List.replicate 2 te.zero).flatten) = litL te.zero ++ litL te.zero := by simp [List.replicate, litL]
    have e1 : (litL te.zero).length = te.sz := by simp [litL, hzz]
    simp only [evParts, hps, List.map_cons, List.map_nil, evFill, hx, hy, hl, hly, if_true, hok, hoky, e0]
    rw [if_pos (by simp [e1]), if_pos (by simp [e1, hl])]
    congr 1
    simp only [Nat.zero_mul, List.take_zero, List.nil_append, Nat.zero_add, Nat.one_mul]
    rw [List.drop_append_of_le_length (by omega), List.drop_eq_nil_of_le (by omega), List.nil_append]
    rw [List.take_append_of_le_length (by omega), List.take_of_length_le (by omega), List.drop_eq_nil_of_le (by simp [hl, e1]), List.append_nil]
  · simp only [chunks]
    rw [List.take_append_of_le_length (by omega), List.take_of_length_le (by omega), List.drop_append_of_le_length (by omega), List.drop_eq_nil_of_le (by omega), List.nil_append]
    rw [List.take_of_length_le (by omega)]
end
end Go.T
