/- Functions as plain data, and that the code comes to them; no condition. -/

import Derived.Test.YtjcaompblpglcaaGreatGT
import Derived.Test.YtjcaompblpglcaaGreatBN
set_option linter.unusedVariables false
set_option maxRecDepth 100000
namespace Go.Proofs.YtjcaompblpglcaaGreat
open Go Go.T
noncomputable def body53 : Code := match Tryz.f53.body with | some c => c | none => .skip
noncomputable def impl_in (p1 : Int) (p2 : Int) (p3 : Int) : Option Bool :=
 if (decide (p2 ≤ p1)) = true then
  some (decide (p1 ≤ p3))
 else
  some false
theorem impl_in_m {p1 : Int} {p2 : Int} {p3 : Int} {r : Bool} (h : impl_in p1 p2 p3 = some r) : Meets Tryz.prog 53 [(I p1), (I p2), (I p3)] (B r) := by
 refine gM Tryz.func53 15 body53 fun E hP hn hx => ?_
 unfold impl_in at h
 let Z0 := (B (decide (p2 ≤ p1))); let Z1 := (B (decide (p1 ≤ p3))); let Z2 := (B false)
 rcases itS h with ⟨c4, h⟩ | ⟨c5, h⟩
 ·obtain rfl := sj h
  exact gR hP hn [hO 4 (B true)] [] .raw [Z0 = (B true), Z1 = Z1, litA Z1 = true] ⟨(litB c4), rfl, rfl, trivial⟩
 ·obtain rfl := sj h
  exact gR hP hn [hO 4 Z2] [] .raw [Z0 = Z2, Z2 = Z2, litA Z2 = true] ⟨(litB c5), rfl, rfl, trivial⟩
noncomputable def body192 : Code := match Tryz.f192.body with | some c => c | none => .skip
noncomputable def impl_Op_names_j0  (p1 : GOp) (v3 : Bool) : Option Int :=
 if v3 = true then
  some 1
 else
  if (p1.Code == 16) = true then
   some 2
  else
   some 0
theorem impl_Op_names_j0_m {E : Env} (hP : E.P = Tryz.prog) (hn : E.n = 16) (hx : FX E []) (p1 : GOp)  (v3 : Bool) (r : Int) (h : impl_Op_names_j0 p1 v3 = some r) : WAt E body192 (FQ (RetE Θ Tryz.f192.results.toList [] [] (I r) E)) [true, false, true, false, true] ⟨[(4, (I p1.Code)), (5, (B v3))], [], [JJ]⟩ := by
 unfold impl_Op_names_j0 at h
 rcases itS h with ⟨c4, h⟩ | ⟨c5, h⟩
 ·obtain rfl := sj h
  exact gR hP hn [hT 0] [] .raw [v3 = true, (I 1) = (I 1), litA (I 1) = true] ⟨c4, rfl, rfl, trivial⟩
 ·rcases itS h with ⟨c6, h⟩ | ⟨c7, h⟩
  ·obtain rfl := sj h
   exact gR hP hn [hF 0, hT 3] [] .raw [v3 = false, (p1.Code == 16) = true, (I 2) = (I 2), litA (I 2) = true] ⟨c5, c6, rfl, rfl, trivial⟩
  ·obtain rfl := sj h
   exact gR hP hn [hF 0, hF 3] [] .raw [v3 = false, (p1.Code == 16) = false, (I 0) = (I 0), litA (I 0) = true] ⟨c5, c7, rfl, rfl, trivial⟩
noncomputable def impl_Op_names (p1 : GOp) : Option Int :=
 if (p1.Code == 2) = true then
  impl_Op_names_j0 p1 (p1.Code == 2)
 else
  if (p1.Code == 3) = true then
   impl_Op_names_j0 p1 (p1.Code == 3)
  else
   if (p1.Code == 10) = true then
    impl_Op_names_j0 p1 (p1.Code == 10)
   else
    if (p1.Code == 11) = true then
     impl_Op_names_j0 p1 (p1.Code == 11)
    else
     if (p1.Code == 12) = true then
      impl_Op_names_j0 p1 (p1.Code == 12)
     else
      if (p1.Code == 13) = true then
       impl_Op_names_j0 p1 (p1.Code == 13)
      else
       if (p1.Code == 14) = true then
        impl_Op_names_j0 p1 (p1.Code == 14)
       else
        impl_Op_names_j0 p1 (p1.Code == 17)
theorem impl_Op_names_m {p1 : GOp} {r : Int} (h : impl_Op_names p1 = some r) : Meets Tryz.prog 192 [(AV.agg ((o144 p1)))] (I r) := by
 refine gM Tryz.func192 16 body192 fun E hP hn hx => ?_
 unfold impl_Op_names at h
 let Z0 := (p1.Code == 2); let Z1 := (p1.Code == 3); let Z2 := (p1.Code == 10); let Z3 := (p1.Code == 11); let Z4 := (p1.Code == 12); let Z5 := (p1.Code == 13); let Z6 := (p1.Code == 14)
 let H1 : List Hn := [hW 0 1001]
 rcases itS h with ⟨c2, h⟩ | ⟨c8, h⟩
 ·exact gT hP hn hx (H1 ++ [hT 6]) [] [4, 5] [] [Z0 = true] ⟨c2, trivial⟩ (impl_Op_names_j0_m hP hn hx p1 Z0 _ h)
 ·let P2 : List Prop := [Z0 = false]
  have AP2 : AllP P2 := ⟨c8, trivial⟩
  rcases itS h with ⟨c9, h⟩ | ⟨c10, h⟩
  ·exact gT hP hn hx (H1 ++ [hF 6, hT 9]) [] [4, 5] [] (P2 ++ [Z1 = true]) (andP AP2 ⟨c9, trivial⟩) (impl_Op_names_j0_m hP hn hx p1 Z1 _ h)
  ·let P3 : List Prop := P2 ++ [Z1 = false]
   have AP3 : AllP P3 := andP AP2 ⟨c10, trivial⟩
   rcases itS h with ⟨c11, h⟩ | ⟨c12, h⟩
   ·exact gT hP hn hx (H1 ++ [hF 6, hF 9, hT 12]) [] [4, 5] [] (P3 ++ [Z2 = true]) (andP AP3 ⟨c11, trivial⟩) (impl_Op_names_j0_m hP hn hx p1 Z2 _ h)
   ·let P4 : List Prop := P3 ++ [Z2 = false]
    have AP4 : AllP P4 := andP AP3 ⟨c12, trivial⟩
    rcases itS h with ⟨c13, h⟩ | ⟨c14, h⟩
    ·exact gT hP hn hx (H1 ++ [hF 6, hF 9, hF 12, hT 15]) [] [4, 5] [] (P4 ++ [Z3 = true]) (andP AP4 ⟨c13, trivial⟩) (impl_Op_names_j0_m hP hn hx p1 Z3 _ h)
    ·rcases itS h with ⟨c15, h⟩ | ⟨c16, h⟩
     ·exact gT hP hn hx (H1 ++ [hF 6, hF 9, hF 12, hF 15, hT 18]) [] [4, 5] [] (P4 ++ [Z3 = false, Z4 = true]) (andP AP4 ⟨c14, c15, trivial⟩) (impl_Op_names_j0_m hP hn hx p1 Z4 _ h)
     ·let P5 : List Prop := P4 ++ [Z3 = false, Z4 = false]
      have AP5 : AllP P5 := andP AP4 ⟨c14, c16, trivial⟩
      rcases itS h with ⟨c17, h⟩ | ⟨c18, h⟩
      ·exact gT hP hn hx (H1 ++ [hF 6, hF 9, hF 12, hF 15, hF 18, hT 21]) [] [4, 5] [] (P5 ++ [Z5 = true]) (andP AP5 ⟨c17, trivial⟩) (impl_Op_names_j0_m hP hn hx p1 Z5 _ h)
      ·rcases itS h with ⟨c19, h⟩ | ⟨c20, h⟩
       ·exact gT hP hn hx (H1 ++ [hF 6, hF 9, hF 12, hF 15, hF 18, hF 21, hT 24]) [] [4, 5] [] (P5 ++ [Z5 = false, Z6 = true]) (andP AP5 ⟨c18, c19, trivial⟩) (impl_Op_names_j0_m hP hn hx p1 Z6 _ h)
       ·exact gT hP hn hx (H1 ++ [hF 6, hF 9, hF 12, hF 15, hF 18, hF 21, hF 24]) [] [4, 5] [] (P5 ++ [Z5 = false, Z6 = false]) (andP AP5 ⟨c18, c20, trivial⟩) (impl_Op_names_j0_m hP hn hx p1 (p1.Code == 17) _ h)
section
open Go.RowKit
theorem bits_run (m : Nat) (w : World) : (callFunc 209 #[.float .f64 m]).run Tryz.prog w = .ok (.value (.int .u64 (m : Int))) w := by
 rw [run_callFunc_extern Tryz.func209 (by kernel_rfl) (by kernel_rfl) (by kernel_rfl) (e := Extern.MathFloatBits.float64bits) (by kernel_rfl)]; rfl
theorem same_calls (m n : Nat) (w : World) : Calls Tryz.prog 193 #[.float .f64 m, .float .f64 n] w fun e w' => e = .returned (.bool (sameN m n)) ∧ w' = w := by
  have hB := bits_run
  have hi : ((m : Int) == (n : Int)) = (m == n) := by rw [Bool.eq_iff_iff, beq_iff_eq, beq_iff_eq]; exact ⟨fun h => by omega, fun h => by omega⟩
  have hs : sameN m n = ((fNaN m && fNaN n) || m == n) := rfl
  rw [hs]
  go_enter Tryz.func193, Tryz.ntmps193
  go_wp2
  all_goals first
    | (rename_i K ha
       rw [hB, Oper.upon_value]
       refine ha _ _ ?_
       clear ha
       go_wp2
       rename_i K2 ha2
       rw [hB, Oper.upon_value]
       refine ha2 _ _ ?_
       clear ha2
       go_wp2)
    | skip
  all_goals
    have c1 := nan_cmp m
    have c2 := nan_cmp n
    have d1 : FloatKind.f64.format.order m m = some .eq ↔ fNaN m = false := by rw [← c1]; simp
    have d2 : FloatKind.f64.format.order n n = some .eq ↔ fNaN n = false := by rw [← c2]; simp
    go_ret
    cases h1 : fNaN m <;> cases h2 : fNaN n <;> simp_all
end
noncomputable def impl_SameNum (p1 : Nat) (p2 : Nat) : Option Bool :=
 some (sameN p1 p2)
theorem impl_SameNum_m {p1 : Nat} {p2 : Nat} {r : Bool} (h : impl_SameNum p1 p2 = some r) : Meets Tryz.prog 193 [(FK p1), (FK p2)] (B r) := by
 cases h
 exact meets_same (Go.Proofs.enters_of Tryz.func193 rfl rfl) same_calls
noncomputable def body157 : Code := match Tryz.f157.body with | some c => c | none => .skip
noncomputable def impl_Op_fits (p1 : GOp) : Option Bool :=
 Option.bind (impl_Op_names p1) fun r2 =>
 Option.bind (impl_in p1.Code 1 17) fun r3 =>
 if r3 = true then
  if (decide (r2 > 0)) = true then
   if (decide (r2 > 1)) = true then
    if (p1.Code == 1) = true then
     some true
    else
     Option.bind (impl_SameNum p1.V 0) fun r9 =>
     some r9
   else
    if (p1.B == 0) = true then
     if (p1.Code == 1) = true then
      some true
     else
      Option.bind (impl_SameNum p1.V 0) fun r14 =>
      some r14
    else
     some false
  else
   if (p1.A == 0) = true then
    if (decide (r2 > 1)) = true then
     if (p1.Code == 1) = true then
      some true
     else
      Option.bind (impl_SameNum p1.V 0) fun r21 =>
      some r21
    else
     if (p1.B == 0) = true then
      if (p1.Code == 1) = true then
       some true
      else
       Option.bind (impl_SameNum p1.V 0) fun r30 =>
       some r30
     else
      some false
   else
    some false
 else
  some false
theorem impl_Op_fits_m {p1 : GOp} {r : Bool} (h : impl_Op_fits p1 = some r) : Meets Tryz.prog 157 [(AV.agg ((o144 p1)))] (B r) := by
 refine gM Tryz.func157 37 body157 fun E hP hn hx => ?_
 unfold impl_Op_fits at h
 obtain ⟨r2, hr2, h⟩ := bnS h
 obtain ⟨r3, hr3, h⟩ := bnS h
 let Z0 := (B true); let Z1 := (B (decide (r2 > 0))); let Z2 := (B (decide (r2 > 1))); let Z3 := (B (p1.Code == 1)); let Z4 := (B false); let Z5 := (B (p1.B == 0))
 let H1 : List Hn := [hW 0 1001, ⟨3, .callV [[]] (I r2), none⟩, ⟨7, .callV [] (B r3), none⟩]
 let P2 : List Prop := [Meets Tryz.prog 192 [(AV.agg ((o144 p1)))] (I r2), litA (I r2) = true, Meets Tryz.prog 53 [(I p1.Code), (I 1), (I 17)] (B r3), litA (B r3) = true]
 have AP2 : AllP P2 := ⟨(impl_Op_names_m hr2), rfl, (impl_in_m hr3), rfl, trivial⟩
 rcases itS h with ⟨c4, h⟩ | ⟨c33, h⟩
 ·let H3 : List Hn := H1 ++ [hO 8 Z0]
  let P4 : List Prop := P2 ++ [(B r3) = Z0]
  have AP4 : AllP P4 := andP AP2 ⟨(litB c4), trivial⟩
  rcases itS h with ⟨c5, h⟩ | ⟨c16, h⟩
  ·let P5 : List Prop := P4 ++ [Z1 = Z0]
   have AP5 : AllP P5 := andP AP4 ⟨(litB c5), trivial⟩
   rcases itS h with ⟨c6, h⟩ | ⟨c10, h⟩
   ·rcases itS h with ⟨c7, h⟩ | ⟨c8, h⟩
    ·obtain rfl := sj h
     exact gR hP hn (H3 ++ [hO 11 Z0, hO 20 Z0, hO 30 Z0]) [] .raw (P5 ++ [Z2 = Z0, Z3 = Z0, Z0 = Z0, litA Z0 = true]) (andP AP5 ⟨(litB c6), (litB c7), rfl, rfl, trivial⟩)
    ·obtain ⟨r9, hr9, h⟩ := bnS h
     obtain rfl := sj h
     exact gR hP hn (H3 ++ [hO 11 Z0, hO 20 Z0, hO 30 Z4, ⟨33, .callV [] (B r9), none⟩]) [] .raw (P5 ++ [Z2 = Z0, Z3 = Z4, Meets Tryz.prog 193 [(FK p1.V), (FK 0)] (B r9), litA (B r9) = true, (B r9) = (B r9), litA (B r9) = true]) (andP AP5 ⟨(litB c6), (litB c8), (impl_SameNum_m hr9), rfl, rfl, rfl, trivial⟩)
   ·rcases itS h with ⟨c11, h⟩ | ⟨c15, h⟩
    ·rcases itS h with ⟨c12, h⟩ | ⟨c13, h⟩
     ·obtain rfl := sj h
      exact gR hP hn (H3 ++ [hO 11 Z0, hO 20 Z4, hO 26 Z0, hO 30 Z0]) [] .raw (P5 ++ [Z2 = Z4, Z5 = Z0, Z3 = Z0, Z0 = Z0, litA Z0 = true]) (andP AP5 ⟨(litB c10), (litB c11), (litB c12), rfl, rfl, trivial⟩)
     ·obtain ⟨r14, hr14, h⟩ := bnS h
      obtain rfl := sj h
      exact gR hP hn (H3 ++ [hO 11 Z0, hO 20 Z4, hO 26 Z0, hO 30 Z4, ⟨33, .callV [] (B r14), none⟩]) [] .raw (P5 ++ [Z2 = Z4, Z5 = Z0, Z3 = Z4, Meets Tryz.prog 193 [(FK p1.V), (FK 0)] (B r14), litA (B r14) = true, (B r14) = (B r14), litA (B r14) = true]) (andP AP5 ⟨(litB c10), (litB c11), (litB c13), (impl_SameNum_m hr14), rfl, rfl, rfl, trivial⟩)
    ·obtain rfl := sj h
     exact gR hP hn (H3 ++ [hO 11 Z0, hO 20 Z4, hO 26 Z4]) [] .raw (P5 ++ [Z2 = Z4, Z5 = Z4, Z4 = Z4, litA Z4 = true]) (andP AP5 ⟨(litB c10), (litB c15), rfl, rfl, trivial⟩)
  ·let H6 : List Hn := H3 ++ [hO 11 Z4]
   let P7 : List Prop := P4 ++ [Z1 = Z4]
   have AP7 : AllP P7 := andP AP4 ⟨(litB c16), trivial⟩
   rcases itS h with ⟨c17, h⟩ | ⟨c32, h⟩
   ·let P8 : List Prop := P7 ++ [(B (p1.A == 0)) = Z0]
    have AP8 : AllP P8 := andP AP7 ⟨(litB c17), trivial⟩
    rcases itS h with ⟨c18, h⟩ | ⟨c22, h⟩
    ·rcases itS h with ⟨c19, h⟩ | ⟨c20, h⟩
     ·obtain rfl := sj h
      exact gR hP hn (H6 ++ [hO 17 Z0, hO 20 Z0, hO 30 Z0]) [] .raw (P8 ++ [Z2 = Z0, Z3 = Z0, Z0 = Z0, litA Z0 = true]) (andP AP8 ⟨(litB c18), (litB c19), rfl, rfl, trivial⟩)
     ·obtain ⟨r21, hr21, h⟩ := bnS h
      obtain rfl := sj h
      exact gR hP hn (H6 ++ [hO 17 Z0, hO 20 Z0, hO 30 Z4, ⟨33, .callV [] (B r21), none⟩]) [] .raw (P8 ++ [Z2 = Z0, Z3 = Z4, Meets Tryz.prog 193 [(FK p1.V), (FK 0)] (B r21), litA (B r21) = true, (B r21) = (B r21), litA (B r21) = true]) (andP AP8 ⟨(litB c18), (litB c20), (impl_SameNum_m hr21), rfl, rfl, rfl, trivial⟩)
    ·rcases itS h with ⟨c23, h⟩ | ⟨c31, h⟩
     ·rcases itS h with ⟨c24, h⟩ | ⟨c25, h⟩
      ·obtain rfl := sj h
       exact gR hP hn (H6 ++ [hO 17 Z0, hO 20 Z4, hO 26 Z0, hO 30 Z0]) [] .raw (P8 ++ [Z2 = Z4, Z5 = Z0, Z3 = Z0, Z0 = Z0, litA Z0 = true]) (andP AP8 ⟨(litB c22), (litB c23), (litB c24), rfl, rfl, trivial⟩)
      ·obtain ⟨r30, hr30, h⟩ := bnS h
       obtain rfl := sj h
       exact gR hP hn (H6 ++ [hO 17 Z0, hO 20 Z4, hO 26 Z0, hO 30 Z4, ⟨33, .callV [] (B r30), none⟩]) [] .raw (P8 ++ [Z2 = Z4, Z5 = Z0, Z3 = Z4, Meets Tryz.prog 193 [(FK p1.V), (FK 0)] (B r30), litA (B r30) = true, (B r30) = (B r30), litA (B r30) = true]) (andP AP8 ⟨(litB c22), (litB c23), (litB c25), (impl_SameNum_m hr30), rfl, rfl, rfl, trivial⟩)
     ·obtain rfl := sj h
      exact gR hP hn (H6 ++ [hO 17 Z0, hO 20 Z4, hO 26 Z4]) [] .raw (P8 ++ [Z2 = Z4, Z5 = Z4, Z4 = Z4, litA Z4 = true]) (andP AP8 ⟨(litB c22), (litB c31), rfl, rfl, trivial⟩)
   ·obtain rfl := sj h
    exact gR hP hn (H6 ++ [hO 17 Z4]) [] .raw (P7 ++ [(B (p1.A == 0)) = Z4, Z4 = Z4, litA Z4 = true]) (andP AP7 ⟨(litB c32), rfl, rfl, trivial⟩)
 ·obtain rfl := sj h
  exact gR hP hn (H1 ++ [hO 8 Z4]) [] .raw (P2 ++ [(B r3) = Z4, Z4 = Z4, litA Z4 = true]) (andP AP2 ⟨(litB c33), rfl, rfl, trivial⟩)
noncomputable def body108 : Code := match Tryz.f108.body with | some c => c | none => .skip
noncomputable def impl_Prog_isGood_j2  (p1 : GProg) (p2 : GOp) (v18 : Bool) : Option Bool :=
 if v18 = true then
  Option.bind (impl_in p2.A 0 (w64 (p1.Locks - 1))) fun r20 =>
  some r20
 else
  if (p2.Code == 14) = true then
   Option.bind (impl_in p2.A 0 (w64 ((p1.Routines.length : Int) - 1))) fun r30 =>
   some r30
  else
   if (p2.Code == 16) = true then
    Option.bind (impl_in p2.A 0 (w64 (p1.Conds - 1))) fun r40 =>
    if r40 = true then
     Option.bind (impl_in p2.B 0 (w64 (p1.Locks - 1))) fun r42 =>
     some r42
    else
     some false
   else
    if (p2.Code == 17) = true then
     Option.bind (impl_in p2.A 0 (w64 (p1.Conds - 1))) fun r46 =>
     some r46
    else
     some true
theorem impl_Prog_isGood_j2_m {E : Env} (hP : E.P = Tryz.prog) (hn : E.n = 70) (hx : FX E []) (p1 : GProg) (p2 : GOp)  (v18 : Bool) (r : Bool) (h : impl_Prog_isGood_j2 p1 p2 v18 = some r) : WAt E body108 (FQ (RetE Θ Tryz.f108.results.toList [] [] (B r) E)) [true, true, false, true, false, true, true, true, true, true] ⟨[(3, (AV.ptr 1 0 0)), (4, (AV.ptr 2 0 0)), (11, (I p2.Code)), (28, (B v18))], [(1, some ⟨34, 4, [((r34 p1))]⟩), (2, some ⟨144, 4, [((o144 p2))]⟩)], [1, 2, JJ]⟩ := by
 unfold impl_Prog_isGood_j2 at h
 let Z0 := (I (w64 (p1.Locks - 1))); let Z1 := (p1.Routines.length : Int); let Z2 := (p2.Code == 16); let Z3 := [(I p2.A), (I 0), (I (w64 (p1.Conds - 1)))]; let Z4 := (B false)
 rcases itS h with ⟨c19, h⟩ | ⟨c21, h⟩
 ·obtain ⟨r20, hr20, h⟩ := bnS h
  obtain rfl := sj h
  exact gR hP hn [hT 0, ⟨6, .callV [] (B r20), none⟩] [] .raw [v18 = true, Meets Tryz.prog 53 [(I p2.A), (I 0), Z0] (B r20), litA (B r20) = true, (B r20) = (B r20), litA (B r20) = true] ⟨c19, (impl_in_m hr20), rfl, rfl, rfl, trivial⟩
 ·rcases itS h with ⟨c22, h⟩ | ⟨c31, h⟩
  ·obtain ⟨r30, hr30, h⟩ := bnS h
   obtain rfl := sj h
   exact gR hP hn [hF 0, hT 3, hO 8 (I Z1), ⟨10, .callV [] (B r30), none⟩] [] .raw [v18 = false, (p2.Code == 14) = true, AV.lit (.int .i64 (((p1.Routines.map r141).length : Nat) : Int)) = (I Z1), Meets Tryz.prog 53 [(I p2.A), (I 0), (I (w64 (Z1 - 1)))] (B r30), litA (B r30) = true, (B r30) = (B r30), litA (B r30) = true] ⟨c21, c22, (lenM r141), (impl_in_m hr30), rfl, rfl, rfl, trivial⟩
  ·let P1 : List Prop := [v18 = false, (p2.Code == 14) = false]
   have AP1 : AllP P1 := ⟨c21, c31, trivial⟩
   rcases itS h with ⟨c32, h⟩ | ⟨c44, h⟩
   ·obtain ⟨r40, hr40, h⟩ := bnS h
    let P2 : List Prop := P1 ++ [Z2 = true, Meets Tryz.prog 53 Z3 (B r40), litA (B r40) = true]
    have AP2 : AllP P2 := andP AP1 ⟨c32, (impl_in_m hr40), rfl, trivial⟩
    rcases itS h with ⟨c41, h⟩ | ⟨c43, h⟩
    ·obtain ⟨r42, hr42, h⟩ := bnS h
     obtain rfl := sj h
     exact gR hP hn [hF 0, hF 3, hT 6, ⟨12, .callV [] (B r40), none⟩, hO 13 (B true), ⟨19, .callV [] (B r42), none⟩] [] .raw (P2 ++ [(B r40) = (B true), Meets Tryz.prog 53 [(I p2.B), (I 0), Z0] (B r42), litA (B r42) = true, (B r42) = (B r42), litA (B r42) = true]) (andP AP2 ⟨(litB c41), (impl_in_m hr42), rfl, rfl, rfl, trivial⟩)
    ·obtain rfl := sj h
     exact gR hP hn [hF 0, hF 3, hT 6, ⟨12, .callV [] (B r40), none⟩, hO 13 Z4] [] .raw (P2 ++ [(B r40) = Z4, Z4 = Z4, litA Z4 = true]) (andP AP2 ⟨(litB c43), rfl, rfl, trivial⟩)
   ·rcases itS h with ⟨c45, h⟩ | ⟨c47, h⟩
    ·obtain ⟨r46, hr46, h⟩ := bnS h
     obtain rfl := sj h
     exact gR hP hn [hF 0, hF 3, hF 6, hT 9, ⟨15, .callV [] (B r46), none⟩] [] .raw (P1 ++ [Z2 = false, (p2.Code == 17) = true, Meets Tryz.prog 53 Z3 (B r46), litA (B r46) = true, (B r46) = (B r46), litA (B r46) = true]) (andP AP1 ⟨c44, c45, (impl_in_m hr46), rfl, rfl, rfl, trivial⟩)
    ·obtain rfl := sj h
     exact gR hP hn [hF 0, hF 3, hF 6, hF 9] [] .raw (P1 ++ [Z2 = false, (p2.Code == 17) = false, (B true) = (B true), litA (B true) = true]) (andP AP1 ⟨c44, c47, rfl, rfl, trivial⟩)
noncomputable def impl_Prog_isGood_j1  (p1 : GProg) (p2 : GOp) (p3 : Int) (v13 : Bool) : Option Bool :=
 if v13 = true then
  Option.bind (impl_in p2.A 0 p3) fun r15 =>
  some r15
 else
  if (p2.Code == 12) = true then
   impl_Prog_isGood_j2 p1 p2 (p2.Code == 12)
  else
   impl_Prog_isGood_j2 p1 p2 (p2.Code == 13)
theorem impl_Prog_isGood_j1_m {E : Env} (hP : E.P = Tryz.prog) (hn : E.n = 70) (hx : FX E []) (p1 : GProg) (p2 : GOp) (p3 : Int)  (v13 : Bool) (r : Bool) (h : impl_Prog_isGood_j1 p1 p2 p3 v13 = some r) : WAt E body108 (FQ (RetE Θ Tryz.f108.results.toList [] [] (B r) E)) [true, true, false, true, false, true, true, true] ⟨[(2, (I p3)), (3, (AV.ptr 1 0 0)), (4, (AV.ptr 2 0 0)), (11, (I p2.Code)), (21, (B v13))], [(1, some ⟨34, 4, [((r34 p1))]⟩), (2, some ⟨144, 4, [((o144 p2))]⟩)], [1, 2, JJ]⟩ := by
 unfold impl_Prog_isGood_j1 at h
 let Z0 := (p2.Code == 12)
 rcases itS h with ⟨c14, h⟩ | ⟨c16, h⟩
 ·obtain ⟨r15, hr15, h⟩ := bnS h
  obtain rfl := sj h
  exact gR hP hn [hT 0, ⟨4, .callV [] (B r15), none⟩] [] .raw [v13 = true, Meets Tryz.prog 53 [(I p2.A), (I 0), (I p3)] (B r15), litA (B r15) = true, (B r15) = (B r15), litA (B r15) = true] ⟨c14, (impl_in_m hr15), rfl, rfl, rfl, trivial⟩
 ·rcases itS h with ⟨c17, h⟩ | ⟨c48, h⟩
  ·exact gT hP hn hx [hF 0, hT 3] [(1, 1), (2, 2)] [3, 4, 11, 28] [] [v13 = false, Z0 = true, RenOK [(1, 1), (2, 2)] [((r34 p1))], RenOK [(1, 1), (2, 2)] [((o144 p2))]] ⟨c16, c17, (rok (treeB t34 p1)), (rok rfl), trivial⟩ (impl_Prog_isGood_j2_m hP hn hx p1 p2 Z0 _ h)
  ·exact gT hP hn hx [hF 0, hF 3] [(1, 1), (2, 2)] [3, 4, 11, 28] [] [v13 = false, Z0 = false, RenOK [(1, 1), (2, 2)] [((r34 p1))], RenOK [(1, 1), (2, 2)] [((o144 p2))]] ⟨c16, c48, (rok (treeB t34 p1)), (rok rfl), trivial⟩ (impl_Prog_isGood_j2_m hP hn hx p1 p2 (p2.Code == 13) _ h)
noncomputable def impl_Prog_isGood_j0  (p1 : GProg) (p2 : GOp) (p3 : Int) (v8 : Bool) : Option Bool :=
 if v8 = true then
  Option.bind (impl_in p2.A 0 (w64 (p1.Cells - 1))) fun r10 =>
  some r10
 else
  if (p2.Code == 10) = true then
   impl_Prog_isGood_j1 p1 p2 p3 (p2.Code == 10)
  else
   impl_Prog_isGood_j1 p1 p2 p3 (p2.Code == 11)
theorem impl_Prog_isGood_j0_m {E : Env} (hP : E.P = Tryz.prog) (hn : E.n = 70) (hx : FX E []) (p1 : GProg) (p2 : GOp) (p3 : Int)  (v8 : Bool) (r : Bool) (h : impl_Prog_isGood_j0 p1 p2 p3 v8 = some r) : WAt E body108 (FQ (RetE Θ Tryz.f108.results.toList [] [] (B r) E)) [true, true, false, true, false, true] ⟨[(2, (I p3)), (3, (AV.ptr 1 0 0)), (4, (AV.ptr 2 0 0)), (11, (I p2.Code)), (12, (B v8))], [(1, some ⟨34, 4, [((r34 p1))]⟩), (2, some ⟨144, 4, [((o144 p2))]⟩)], [1, 2, JJ]⟩ := by
 unfold impl_Prog_isGood_j0 at h
 let Z0 := (p2.Code == 10)
 rcases itS h with ⟨c9, h⟩ | ⟨c11, h⟩
 ·obtain ⟨r10, hr10, h⟩ := bnS h
  obtain rfl := sj h
  exact gR hP hn [hT 0, ⟨6, .callV [] (B r10), none⟩] [] .raw [v8 = true, Meets Tryz.prog 53 [(I p2.A), (I 0), (I (w64 (p1.Cells - 1)))] (B r10), litA (B r10) = true, (B r10) = (B r10), litA (B r10) = true] ⟨c9, (impl_in_m hr10), rfl, rfl, rfl, trivial⟩
 ·rcases itS h with ⟨c12, h⟩ | ⟨c49, h⟩
  ·exact gT hP hn hx [hF 0, hT 3] [(1, 1), (2, 2)] [2, 3, 4, 11, 21] [] [v8 = false, Z0 = true, RenOK [(1, 1), (2, 2)] [((r34 p1))], RenOK [(1, 1), (2, 2)] [((o144 p2))]] ⟨c11, c12, (rok (treeB t34 p1)), (rok rfl), trivial⟩ (impl_Prog_isGood_j1_m hP hn hx p1 p2 p3 Z0 _ h)
  ·exact gT hP hn hx [hF 0, hF 3] [(1, 1), (2, 2)] [2, 3, 4, 11, 21] [] [v8 = false, Z0 = false, RenOK [(1, 1), (2, 2)] [((r34 p1))], RenOK [(1, 1), (2, 2)] [((o144 p2))]] ⟨c11, c49, (rok (treeB t34 p1)), (rok rfl), trivial⟩ (impl_Prog_isGood_j1_m hP hn hx p1 p2 p3 (p2.Code == 11) _ h)
noncomputable def impl_Prog_isGood (p1 : GProg) (p2 : GOp) (p3 : Int) : Option Bool :=
 Option.bind (impl_Op_fits p2) fun r4 =>
 if (!r4) = true then
  some false
 else
  if (p2.Code == 2) = true then
   impl_Prog_isGood_j0 p1 p2 p3 (p2.Code == 2)
  else
   impl_Prog_isGood_j0 p1 p2 p3 (p2.Code == 3)
theorem impl_Prog_isGood_m {p1 : GProg} {p2 : GOp} {p3 : Int} {r : Bool} (h : impl_Prog_isGood p1 p2 p3 = some r) : Meets Tryz.prog 108 [(AV.agg ((r34 p1))), (AV.agg ((o144 p2))), (I p3)] (B r) := by
 refine gM Tryz.func108 70 body108 fun E hP hn hx => ?_
 unfold impl_Prog_isGood at h
 obtain ⟨r4, hr4, h⟩ := bnS h
 let Z0 := (p2.Code == 2)
 let H1 : List Hn := [hW 0 1001, hW 1 1002, ⟨4, .callV [[]] (B r4), none⟩]
 let P2 : List Prop := [Meets Tryz.prog 157 [(AV.agg ((o144 p2)))] (B r4), litA (B r4) = true]
 have AP2 : AllP P2 := ⟨(impl_Op_fits_m hr4), rfl, trivial⟩
 rcases itS h with ⟨c5, h⟩ | ⟨c6, h⟩
 ·obtain rfl := sj h
  exact gR hP hn (H1 ++ [hT 6]) [] .raw (P2 ++ [(!r4) = true, (B false) = (B false), litA (B false) = true]) (andP AP2 ⟨c5, rfl, rfl, trivial⟩)
 ·rcases itS h with ⟨c7, h⟩ | ⟨c50, h⟩
  ·exact gT hP hn hx (H1 ++ [hF 6, hT 11]) [(1001, 1), (1002, 2)] [2, 3, 4, 11, 12] [] (P2 ++ [(!r4) = false, Z0 = true, RenOK [(1001, 1), (1002, 2)] [((r34 p1))], RenOK [(1001, 1), (1002, 2)] [((o144 p2))]]) (andP AP2 ⟨c6, c7, (rok (treeB t34 p1)), (rok rfl), trivial⟩) (impl_Prog_isGood_j0_m hP hn hx p1 p2 p3 Z0 _ h)
  ·exact gT hP hn hx (H1 ++ [hF 6, hF 11]) [(1001, 1), (1002, 2)] [2, 3, 4, 11, 12] [] (P2 ++ [(!r4) = false, Z0 = false, RenOK [(1001, 1), (1002, 2)] [((r34 p1))], RenOK [(1001, 1), (1002, 2)] [((o144 p2))]]) (andP AP2 ⟨c6, c50, (rok (treeB t34 p1)), (rok rfl), trivial⟩) (impl_Prog_isGood_j0_m hP hn hx p1 p2 p3 (p2.Code == 3) _ h)
noncomputable def body107 : Code := match Tryz.f107.body with | some c => c | none => .skip
noncomputable def impl_GoodProg_1 (p1 : GOp) (p2 : GProg) (p3 : (List GOp)) : Option Bool :=
 Option.bind (impl_Prog_isGood p2 p1 (p3.length : Int)) fun r4 =>
 some (!r4)
theorem impl_GoodProg_1_m {p1 : GOp} {p2 : GProg} {p3 : (List GOp)} {r : Bool} (h : impl_GoodProg_1 p1 p2 p3 = some r) : Meets Tryz.prog 107 [(AV.agg ((o144 p1))), (AV.rop (r34 p2) 0), (AV.rop (r141 p3) 0)] (B r) := by
 refine gM Tryz.func107 11 body107 fun E hP hn hx => ?_
 unfold impl_GoodProg_1 at h
 obtain ⟨r4, hr4, h⟩ := bnS h
 obtain rfl := sj h
 exact (let Z0 := (I (p3.length : Int)); gR hP hn [hW 0 1001, hO 5 Z0, ⟨6, .callV [[], []] (B r4), none⟩] [] .raw [AV.lit (.int .i64 (((p3.map o144).length : Nat) : Int)) = Z0, Meets Tryz.prog 108 [(AV.agg ((r34 p2))), (AV.agg ((o144 p1))), Z0] (B r4), litA (B r4) = true, (B (!r4)) = (B (!r4)), litA (B (!r4)) = true] ⟨(lenM o144), (impl_Prog_isGood_m hr4), rfl, rfl, rfl, trivial⟩)
noncomputable def body156 : Code := match Tryz.f156.body with | some c => c | none => .skip
noncomputable def slices_IndexFunc_Op_Op__impl_GoodProg_1_l0  (p1 : (List GOp)) (p2 : GProg) (p3 : (List GOp)) : Nat → Int → Option Int
 | 0, _ => none
 | n + 1, v4 =>
 if (decide (v4 < (p1.length : Int))) = true then
  Option.bind (rd p1 v4) fun x6 =>
  Option.bind (impl_GoodProg_1 x6 p2 p3) fun r7 =>
  if r7 = true then
   some v4
  else
   slices_IndexFunc_Op_Op__impl_GoodProg_1_l0 p1 p2 p3 n (w64 (v4 + 1))
 else
  some (-1)
theorem slices_IndexFunc_Op_Op__impl_GoodProg_1_l0_m {E : Env} (hP : E.P = Tryz.prog) (hn : E.n = 19) (hx : FX E []) (p1 : (List GOp)) (p2 : GProg) (p3 : (List GOp))  : ∀ (n : Nat) (v4 : Int) (r : Int), slices_IndexFunc_Op_Op__impl_GoodProg_1_l0 p1 p2 p3 n v4 = some r → WAt E body156 (FQ (RetE Θ Tryz.f156.results.toList [] [] (I r) E)) [true, false, true, false] ⟨[(0, (AV.ro 4 (p1.map o144))), (1, (AV.fn 107 [(AV.rop (r34 p2) 0), (AV.rop (r141 p3) 0)])), (7, (I (p1.length : Int))), (8, (I v4))], [], [JJ]⟩ := by
 intro n
 induction n with
 | zero => intro v4 r h; simp only [slices_IndexFunc_Op_Op__impl_GoodProg_1_l0] at h; cases h
 | succ n ih =>
  intro v4 r h
  simp only [slices_IndexFunc_Op_Op__impl_GoodProg_1_l0] at h
  let Z0 := (decide (v4 < (p1.length : Int)))
  rcases itS h with ⟨c5, h⟩ | ⟨c10, h⟩
  ·obtain ⟨x6, hx6, h⟩ := bnS h
   obtain ⟨r7, hr7, h⟩ := bnS h
   let P1 : List Prop := [Z0 = true, (0 : Int) ≤ v4, (p1.map o144)[(Int.toNat v4)]? = some (o144 x6), Meets Tryz.prog 107 [(AV.agg ((o144 x6))), (AV.rop (r34 p2) 0), (AV.rop (r141 p3) 0)] (B r7), litA (B r7) = true]
   have AP1 : AllP P1 := ⟨c5, (rd0 hx6), (rdM o144 hx6), (impl_GoodProg_1_m hr7), rfl, trivial⟩
   rcases itS h with ⟨c8, h⟩ | ⟨c9, h⟩
   ·obtain rfl := sj h
    exact gR hP hn [hT 1, ⟨7, .row (o144 x6), none⟩, ⟨9, .callV [[]] (B r7), none⟩, hT 10] [] .raw (P1 ++ [r7 = true, (I v4) = (I v4), litA (I v4) = true]) (andP AP1 ⟨c8, rfl, rfl, trivial⟩)
   ·exact gT hP hn hx [hT 1, ⟨7, .row (o144 x6), none⟩, ⟨9, .callV [[]] (B r7), none⟩, hF 10] [] [0, 1, 7, 8] [] (P1 ++ [r7 = false]) (andP AP1 ⟨c9, trivial⟩) (ih (w64 (v4 + 1)) _ h)
  ·obtain rfl := sj h
   exact gR hP hn [hF 1] [] .raw [Z0 = false, (I (-1)) = (I (-1)), litA (I (-1)) = true] ⟨c10, rfl, rfl, trivial⟩
noncomputable def slices_IndexFunc_Op_Op__impl_GoodProg_1 (p1 : (List GOp)) (p2 : GProg) (p3 : (List GOp)) : Option Int :=
 slices_IndexFunc_Op_Op__impl_GoodProg_1_l0 p1 p2 p3 FU 0
theorem slices_IndexFunc_Op_Op__impl_GoodProg_1_m {p1 : (List GOp)} {p2 : GProg} {p3 : (List GOp)} {r : Int} (h : slices_IndexFunc_Op_Op__impl_GoodProg_1 p1 p2 p3 = some r) : Meets Tryz.prog 156 [(AV.ro 4 (p1.map o144)), (AV.fn 107 [(AV.rop (r34 p2) 0), (AV.rop (r141 p3) 0)])] (I r) := by
 refine gM Tryz.func156 19 body156 fun E hP hn hx => ?_
 unfold slices_IndexFunc_Op_Op__impl_GoodProg_1 at h
 exact (let Z0 := (I (p1.length : Int)); gT hP hn hx [hO 2 Z0] [] [0, 1, 7, 8] [] [AV.lit (.int .i64 (((p1.map o144).length : Nat) : Int)) = Z0] ⟨(lenM o144), trivial⟩ (slices_IndexFunc_Op_Op__impl_GoodProg_1_l0_m hP hn hx p1 p2 p3 FU 0 _ h))
noncomputable def body106 : Code := match Tryz.f106.body with | some c => c | none => .skip
noncomputable def slices_ContainsFunc_Op_Op__impl_GoodProg_1 (p1 : (List GOp)) (p2 : GProg) (p3 : (List GOp)) : Option Bool :=
 Option.bind (slices_IndexFunc_Op_Op__impl_GoodProg_1 p1 p2 p3) fun r4 =>
 some (decide (r4 ≥ 0))
theorem slices_ContainsFunc_Op_Op__impl_GoodProg_1_m {p1 : (List GOp)} {p2 : GProg} {p3 : (List GOp)} {r : Bool} (h : slices_ContainsFunc_Op_Op__impl_GoodProg_1 p1 p2 p3 = some r) : Meets Tryz.prog 106 [(AV.ro 4 (p1.map o144)), (AV.fn 107 [(AV.rop (r34 p2) 0), (AV.rop (r141 p3) 0)])] (B r) := by
 refine gM Tryz.func106 9 body106 fun E hP hn hx => ?_
 unfold slices_ContainsFunc_Op_Op__impl_GoodProg_1 at h
 obtain ⟨r4, hr4, h⟩ := bnS h
 obtain rfl := sj h
 exact (let Z0 := (B (decide (r4 ≥ 0))); gR hP hn [⟨3, .callV [] (I r4), none⟩] [] .raw [Meets Tryz.prog 156 [(AV.ro 4 (p1.map o144)), (AV.fn 107 [(AV.rop (r34 p2) 0), (AV.rop (r141 p3) 0)])] (I r4), litA (I r4) = true, Z0 = Z0, litA Z0 = true] ⟨(slices_IndexFunc_Op_Op__impl_GoodProg_1_m hr4), rfl, rfl, rfl, trivial⟩)
noncomputable def body48 : Code := match Tryz.f48.body with | some c => c | none => .skip
noncomputable def impl_GoodProg_l0  (p1 : GProg) : Nat → GProg → Int → Option Bool
 | 0, _, _ => none
 | n + 1, a14, v15 =>
 if (decide (v15 < (p1.Routines.length : Int))) = true then
  Option.bind (rd p1.Routines v15) fun x17 =>
  if (decide ((x17.length : Int) > 24)) = true then
   some false
  else
   Option.bind (slices_ContainsFunc_Op_Op__impl_GoodProg_1 x17 a14 x17) fun r20 =>
   if r20 = true then
    some false
   else
    impl_GoodProg_l0 p1 n a14 (w64 (v15 + 1))
 else
  some true
theorem impl_GoodProg_l0_m {E : Env} (hP : E.P = Tryz.prog) (hn : E.n = 44) (hx : FX E []) (p1 : GProg)  : ∀ (n : Nat) (a14 : GProg) (v15 : Int) (r : Bool), impl_GoodProg_l0 p1 n a14 v15 = some r → WAt E body48 (FQ (RetE Θ Tryz.f48.results.toList [] [] (B r) E)) [true, true, false, true, false] ⟨[(1, (AV.ptr 1 0 0)), (29, (AV.ro 1 (p1.Routines.map r141))), (30, (I (p1.Routines.length : Int))), (31, (I v15))], [(1, some ⟨34, 4, [((r34 a14))]⟩)], [1, JJ]⟩ := by
 intro n
 induction n with
 | zero => intro a14 v15 r h; simp only [impl_GoodProg_l0] at h; cases h
 | succ n ih =>
  intro a14 v15 r h
  simp only [impl_GoodProg_l0] at h
  let Z2 := (decide (v15 < (p1.Routines.length : Int))); let Z4 := (B false); let Z5 := ((r34 a14))
  rcases itS h with ⟨c16, h⟩ | ⟨c23, h⟩
  ·obtain ⟨x17, hx17, h⟩ := bnS h
   let Z0 := (r141 x17); let Z1 := (I (x17.length : Int)); let Z3 := (B (decide ((x17.length : Int) > 24))); let Z6 := (AV.ro 4 (x17.map o144))
   let H1 : List Hn := [hT 1, ⟨2, .row Z0, none⟩, hW 4 1001, hO 7 Z1]
   let P2 : List Prop := [Z2 = true, (0 : Int) ≤ v15, (p1.Routines.map r141)[(Int.toNat v15)]? = some Z0, AV.lit (.int .i64 (((x17.map o144).length : Nat) : Int)) = Z1]
   have AP2 : AllP P2 := ⟨c16, (rd0 hx17), (rdM r141 hx17), (lenM o144), trivial⟩
   rcases itS h with ⟨c18, h⟩ | ⟨c19, h⟩
   ·obtain rfl := sj h
    exact gR hP hn (H1 ++ [hO 9 (B true)]) [] .raw (P2 ++ [Z3 = (B true), Z4 = Z4, litA Z4 = true]) (andP AP2 ⟨(litB c18), rfl, rfl, trivial⟩)
   ·obtain ⟨r20, hr20, h⟩ := bnS h
    let H3 : List Hn := H1 ++ [hO 9 Z4, ⟨12, .callV [[Z5, (r34 a14)], [[Z6], Z0]] (B r20), none⟩]
    let P4 : List Prop := P2 ++ [Z3 = Z4, Meets Tryz.prog 106 [Z6, (AV.fn 107 [(AV.rop (r34 a14) 0), (AV.rop Z0 0)])] (B r20), litA (B r20) = true, [Z5][0]? = some Z5, treeL Z5 = true, frzL Z5 = (r34 a14), [[Z6]][0]? = some [Z6], treeL [Z6] = true, frzL [Z6] = Z0]
    have AP4 : AllP P4 := andP AP2 ⟨(litB c19), (slices_ContainsFunc_Op_Op__impl_GoodProg_1_m hr20), rfl, rfl, rfl, rfl, rfl, rfl, rfl, trivial⟩
    rcases itS h with ⟨c21, h⟩ | ⟨c22, h⟩
    ·obtain rfl := sj h
     exact gR hP hn (H3 ++ [hT 14]) [] .raw (P4 ++ [r20 = true, Z4 = Z4, litA Z4 = true]) (andP AP4 ⟨c21, rfl, rfl, trivial⟩)
    ·exact gT hP hn hx (H3 ++ [hF 14]) [(1, 1)] [1, 29, 30, 31] [] (P4 ++ [r20 = false, RenOK [(1, 1)] [Z5]]) (andP AP4 ⟨c22, (rok (treeB t34 a14)), trivial⟩) (ih a14 (w64 (v15 + 1)) _ h)
  ·obtain rfl := sj h
   exact gR hP hn [hF 1] [] .raw [Z2 = false, (B true) = (B true), litA (B true) = true] ⟨c23, rfl, rfl, trivial⟩
noncomputable def impl_GoodProg (p1 : GProg) : Option Bool :=
 Option.bind (impl_in p1.Cells 0 4) fun r2 =>
 if (!r2) = true then
  some false
 else
  Option.bind (impl_in p1.Locks 0 4) fun r5 =>
  if (!r5) = true then
   some false
  else
   Option.bind (impl_in p1.Conds 0 2) fun r8 =>
   if (!r8) = true then
    some false
   else
    Option.bind (impl_in (p1.Routines.length : Int) 1 4) fun r11 =>
    if (!r11) = true then
     some false
    else
     impl_GoodProg_l0 p1 FU p1 0
theorem impl_GoodProg_m {p1 : GProg} {r : Bool} (h : impl_GoodProg p1 = some r) : Meets Tryz.prog 48 [(AV.agg ((r34 p1)))] (B r) := by
 refine gM Tryz.func48 44 body48 fun E hP hn hx => ?_
 unfold impl_GoodProg at h
 obtain ⟨r2, hr2, h⟩ := bnS h
 let Z0 := (B true); let Z1 := (B false); let Z2 := (I (p1.Routines.length : Int)); let Z3 := (((p1.Routines.map r141).length : Nat) : Int)
 let H1 : List Hn := [hW 0 1001, ⟨4, .callV [] (B r2), none⟩]
 let P2 : List Prop := [Meets Tryz.prog 53 [(I p1.Cells), (I 0), (I 4)] (B r2), litA (B r2) = true]
 have AP2 : AllP P2 := ⟨(impl_in_m hr2), rfl, trivial⟩
 rcases itS h with ⟨c3, h⟩ | ⟨c4, h⟩
 ·obtain rfl := sj h
  exact gR hP hn (H1 ++ [hO 6 Z0]) [] .raw (P2 ++ [(B (!r2)) = Z0, Z1 = Z1, litA Z1 = true]) (andP AP2 ⟨(litB c3), rfl, rfl, trivial⟩)
 ·obtain ⟨r5, hr5, h⟩ := bnS h
  let H3 : List Hn := H1 ++ [hO 6 Z1, ⟨9, .callV [] (B r5), none⟩]
  let P4 : List Prop := P2 ++ [(B (!r2)) = Z1, Meets Tryz.prog 53 [(I p1.Locks), (I 0), (I 4)] (B r5), litA (B r5) = true]
  have AP4 : AllP P4 := andP AP2 ⟨(litB c4), (impl_in_m hr5), rfl, trivial⟩
  rcases itS h with ⟨c6, h⟩ | ⟨c7, h⟩
  ·obtain rfl := sj h
   exact gR hP hn (H3 ++ [hO 12 Z0]) [] .raw (P4 ++ [(B (!r5)) = Z0, Z1 = Z1, litA Z1 = true]) (andP AP4 ⟨(litB c6), rfl, rfl, trivial⟩)
  ·obtain ⟨r8, hr8, h⟩ := bnS h
   let H5 : List Hn := H3 ++ [hO 12 Z1, ⟨15, .callV [] (B r8), none⟩]
   let P6 : List Prop := P4 ++ [(B (!r5)) = Z1, Meets Tryz.prog 53 [(I p1.Conds), (I 0), (I 2)] (B r8), litA (B r8) = true]
   have AP6 : AllP P6 := andP AP4 ⟨(litB c7), (impl_in_m hr8), rfl, trivial⟩
   rcases itS h with ⟨c9, h⟩ | ⟨c10, h⟩
   ·obtain rfl := sj h
    exact gR hP hn (H5 ++ [hO 18 Z0]) [] .raw (P6 ++ [(B (!r8)) = Z0, Z1 = Z1, litA Z1 = true]) (andP AP6 ⟨(litB c9), rfl, rfl, trivial⟩)
   ·obtain ⟨r11, hr11, h⟩ := bnS h
    let H7 : List Hn := H5 ++ [hO 18 Z1, hO 21 Z2, ⟨22, .callV [] (B r11), none⟩]
    let P8 : List Prop := P6 ++ [(B (!r8)) = Z1, AV.lit (.int .i64 Z3) = Z2, Meets Tryz.prog 53 [Z2, (I 1), (I 4)] (B r11), litA (B r11) = true]
    have AP8 : AllP P8 := andP AP6 ⟨(litB c10), (lenM r141), (impl_in_m hr11), rfl, trivial⟩
    rcases itS h with ⟨c12, h⟩ | ⟨c13, h⟩
    ·obtain rfl := sj h
     exact gR hP hn (H7 ++ [hT 25]) [] .raw (P8 ++ [(!r11) = true, Z1 = Z1, litA Z1 = true]) (andP AP8 ⟨c12, rfl, rfl, trivial⟩)
    ·exact gT hP hn hx (H7 ++ [hF 25, hO 28 Z2]) [(1001, 1)] [1, 29, 30, 31] [] (P8 ++ [(!r11) = false, AV.lit (.int .i64 Z3) = Z2, RenOK [(1001, 1)] [((r34 p1))]]) (andP AP8 ⟨c13, (lenM r141), (rok (treeB t34 p1)), trivial⟩) (impl_GoodProg_l0_m hP hn hx p1 FU p1 0 _ h)
noncomputable def body140 : Code := match Tryz.f140.body with | some c => c | none => .skip
noncomputable def impl_Thread_isGood_j1  (p1 : GThread) (p2 : GProg)  : Option Bool :=
 Option.bind (impl_in p1.Cond 0 (w64 (p2.Conds - 1))) fun r16 =>
 if r16 = true then
  Option.bind (impl_in p1.Lock 0 (w64 (p2.Locks - 1))) fun r18 =>
  some r18
 else
  some false
theorem impl_Thread_isGood_j1_m {E : Env} (hP : E.P = Tryz.prog) (hn : E.n = 68) (hx : FX E []) (p1 : GThread) (p2 : GProg)   (r : Bool) (h : impl_Thread_isGood_j1 p1 p2  = some r) : WAt E body140 (FQ (RetE Θ Tryz.f140.results.toList [] [] (B r) E)) [true, true, false, true, false] ⟨[(2, (AV.ptr 1 0 0)), (3, (AV.ptr 2 0 0))], [(1, some ⟨179, 6, [((r179 p1))]⟩), (2, some ⟨34, 4, [((r34 p2))]⟩)], [1, 2, JJ]⟩ := by
 unfold impl_Thread_isGood_j1 at h
 obtain ⟨r16, hr16, h⟩ := bnS h
 let Z0 := (B false)
 let P1 : List Prop := [Meets Tryz.prog 53 [(I p1.Cond), (I 0), (I (w64 (p2.Conds - 1)))] (B r16), litA (B r16) = true]
 have AP1 : AllP P1 := ⟨(impl_in_m hr16), rfl, trivial⟩
 rcases itS h with ⟨c17, h⟩ | ⟨c19, h⟩
 ·obtain ⟨r18, hr18, h⟩ := bnS h
  obtain rfl := sj h
  exact gR hP hn [⟨5, .callV [] (B r16), none⟩, hO 6 (B true), ⟨12, .callV [] (B r18), none⟩] [] .raw (P1 ++ [(B r16) = (B true), Meets Tryz.prog 53 [(I p1.Lock), (I 0), (I (w64 (p2.Locks - 1)))] (B r18), litA (B r18) = true, (B r18) = (B r18), litA (B r18) = true]) (andP AP1 ⟨(litB c17), (impl_in_m hr18), rfl, rfl, rfl, trivial⟩)
 ·obtain rfl := sj h
  exact gR hP hn [⟨5, .callV [] (B r16), none⟩, hO 6 Z0] [] .raw (P1 ++ [(B r16) = Z0, Z0 = Z0, litA Z0 = true]) (andP AP1 ⟨(litB c19), rfl, rfl, trivial⟩)
noncomputable def impl_Thread_isGood_j0  (p1 : GThread) (p2 : GProg)  : Option Bool :=
 if (p1.State == 3) = true then
  impl_Thread_isGood_j1 p1 p2
 else
  if (p1.State == 4) = true then
   impl_Thread_isGood_j1 p1 p2
  else
   if (p1.Cond == (-1)) = true then
    some (p1.Lock == (-1))
   else
    some false
theorem impl_Thread_isGood_j0_m {E : Env} (hP : E.P = Tryz.prog) (hn : E.n = 68) (hx : FX E []) (p1 : GThread) (p2 : GProg)   (r : Bool) (h : impl_Thread_isGood_j0 p1 p2  = some r) : WAt E body140 (FQ (RetE Θ Tryz.f140.results.toList [] [] (B r) E)) [true, false, true, true] ⟨[(2, (AV.ptr 1 0 0)), (3, (AV.ptr 2 0 0))], [(1, some ⟨179, 6, [((r179 p1))]⟩), (2, some ⟨34, 4, [((r34 p2))]⟩)], [1, 2, JJ]⟩ := by
 unfold impl_Thread_isGood_j0 at h
 let Z0 := (B (p1.State == 3)); let Z1 := (B false); let Z2 := (p1.State == 4); let Z3 := (B (p1.Cond == (-1))); let Z4 := (B (p1.Lock == (-1)))
 rcases itS h with ⟨c15, h⟩ | ⟨c20, h⟩
 ·exact gT hP hn hx [hO 3 (B true)] [(1, 1), (2, 2)] [2, 3] [] [Z0 = (B true), RenOK [(1, 1), (2, 2)] [((r179 p1))], RenOK [(1, 1), (2, 2)] [((r34 p2))]] ⟨(litB c15), (rok (treeB t179 p1)), (rok (treeB t34 p2)), trivial⟩ (impl_Thread_isGood_j1_m hP hn hx p1 p2  _ h)
 ·rcases itS h with ⟨c21, h⟩ | ⟨c22, h⟩
  ·exact gT hP hn hx [hO 3 Z1, hT 8] [(1, 1), (2, 2)] [2, 3] [] [Z0 = Z1, Z2 = true, RenOK [(1, 1), (2, 2)] [((r179 p1))], RenOK [(1, 1), (2, 2)] [((r34 p2))]] ⟨(litB c20), c21, (rok (treeB t179 p1)), (rok (treeB t34 p2)), trivial⟩ (impl_Thread_isGood_j1_m hP hn hx p1 p2  _ h)
  ·rcases itS h with ⟨c23, h⟩ | ⟨c24, h⟩
   ·obtain rfl := sj h
    exact gR hP hn [hO 3 Z1, hF 8, hO 12 (B true)] [] .raw [Z0 = Z1, Z2 = false, Z3 = (B true), Z4 = Z4, litA Z4 = true] ⟨(litB c20), c22, (litB c23), rfl, rfl, trivial⟩
   ·obtain rfl := sj h
    exact gR hP hn [hO 3 Z1, hF 8, hO 12 Z1] [] .raw [Z0 = Z1, Z2 = false, Z3 = Z1, Z1 = Z1, litA Z1 = true] ⟨(litB c20), c22, (litB c24), rfl, rfl, trivial⟩
noncomputable def impl_Thread_isGood (p1 : GThread) (p2 : GProg) : Option Bool :=
 Option.bind (impl_in p1.Routine 0 (w64 ((p2.Routines.length : Int) - 1))) fun r3 =>
 if (!r3) = true then
  some false
 else
  Option.bind (rd p2.Routines p1.Routine) fun x6 =>
  Option.bind (impl_in p1.Pc 0 (x6.length : Int)) fun r7 =>
  if (!r7) = true then
   some false
  else
   Option.bind (impl_in p1.State 1 4) fun r10 =>
   if (!r10) = true then
    some false
   else
    if (decide ((p1.Stack.length : Int) > 8)) = true then
     some false
    else
     impl_Thread_isGood_j0 p1 p2
theorem impl_Thread_isGood_m {p1 : GThread} {p2 : GProg} {r : Bool} (h : impl_Thread_isGood p1 p2 = some r) : Meets Tryz.prog 140 [(AV.agg ((r179 p1))), (AV.agg ((r34 p2)))] (B r) := by
 refine gM Tryz.func140 68 body140 fun E hP hn hx => ?_
 unfold impl_Thread_isGood at h
 obtain ⟨r3, hr3, h⟩ := bnS h
 let Z0 := (p2.Routines.length : Int); let Z1 := (p2.Routines.map r141); let Z2 := (B true); let Z3 := (B false); let Z5 := (p1.Stack.length : Int)
 let H1 : List Hn := [hW 0 1001, hW 1 1002, hO 7 (I Z0), ⟨9, .callV [] (B r3), none⟩]
 let P2 : List Prop := [AV.lit (.int .i64 ((Z1.length : Nat) : Int)) = (I Z0), Meets Tryz.prog 53 [(I p1.Routine), (I 0), (I (w64 (Z0 - 1)))] (B r3), litA (B r3) = true]
 have AP2 : AllP P2 := ⟨(lenM r141), (impl_in_m hr3), rfl, trivial⟩
 rcases itS h with ⟨c4, h⟩ | ⟨c5, h⟩
 ·obtain rfl := sj h
  exact gR hP hn (H1 ++ [hO 11 Z2]) [] .raw (P2 ++ [(B (!r3)) = Z2, Z3 = Z3, litA Z3 = true]) (andP AP2 ⟨(litB c4), rfl, rfl, trivial⟩)
 ·obtain ⟨x6, hx6, h⟩ := bnS h
  obtain ⟨r7, hr7, h⟩ := bnS h
  let Z4 := (I (x6.length : Int))
  let H3 : List Hn := H1 ++ [hO 11 Z3, ⟨18, .row (r141 x6), none⟩, hO 20 Z4, ⟨21, .callV [] (B r7), none⟩]
  let P4 : List Prop := P2 ++ [(B (!r3)) = Z3, (0 : Int) ≤ p1.Routine, Z1[(Int.toNat p1.Routine)]? = some (r141 x6), AV.lit (.int .i64 (((x6.map o144).length : Nat) : Int)) = Z4, Meets Tryz.prog 53 [(I p1.Pc), (I 0), Z4] (B r7), litA (B r7) = true]
  have AP4 : AllP P4 := andP AP2 ⟨(litB c5), (rd0 hx6), (rdM r141 hx6), (lenM o144), (impl_in_m hr7), rfl, trivial⟩
  rcases itS h with ⟨c8, h⟩ | ⟨c9, h⟩
  ·obtain rfl := sj h
   exact gR hP hn (H3 ++ [hO 24 Z2]) [] .raw (P4 ++ [(B (!r7)) = Z2, Z3 = Z3, litA Z3 = true]) (andP AP4 ⟨(litB c8), rfl, rfl, trivial⟩)
  ·obtain ⟨r10, hr10, h⟩ := bnS h
   let H5 : List Hn := H3 ++ [hO 24 Z3, ⟨27, .callV [] (B r10), none⟩]
   let P6 : List Prop := P4 ++ [(B (!r7)) = Z3, Meets Tryz.prog 53 [(I p1.State), (I 1), (I 4)] (B r10), litA (B r10) = true]
   have AP6 : AllP P6 := andP AP4 ⟨(litB c9), (impl_in_m hr10), rfl, trivial⟩
   rcases itS h with ⟨c11, h⟩ | ⟨c12, h⟩
   ·obtain rfl := sj h
    exact gR hP hn (H5 ++ [hO 30 Z2]) [] .raw (P6 ++ [(B (!r10)) = Z2, Z3 = Z3, litA Z3 = true]) (andP AP6 ⟨(litB c11), rfl, rfl, trivial⟩)
   ·let P7 : List Prop := P6 ++ [(B (!r10)) = Z3, AV.lit (.int .i64 (((p1.Stack.map o142).length : Nat) : Int)) = (I Z5)]
    have AP7 : AllP P7 := andP AP6 ⟨(litB c12), (lenM o142), trivial⟩
    rcases itS h with ⟨c13, h⟩ | ⟨c14, h⟩
    ·obtain rfl := sj h
     exact gR hP hn (H5 ++ [hO 30 Z3, hO 33 (I Z5), hT 36]) [] .raw (P7 ++ [(decide (Z5 > 8)) = true, Z3 = Z3, litA Z3 = true]) (andP AP7 ⟨c13, rfl, rfl, trivial⟩)
    ·exact gT hP hn hx (H5 ++ [hO 30 Z3, hO 33 (I Z5), hF 36]) [(1001, 1), (1002, 2)] [2, 3] [] (P7 ++ [(decide (Z5 > 8)) = false, RenOK [(1001, 1), (1002, 2)] [((r179 p1))], RenOK [(1001, 1), (1002, 2)] [((r34 p2))]]) (andP AP7 ⟨c14, (rok (treeB t179 p1)), (rok (treeB t34 p2)), trivial⟩) (impl_Thread_isGood_j0_m hP hn hx p1 p2  _ h)
noncomputable def body139 : Code := match Tryz.f139.body with | some c => c | none => .skip
noncomputable def impl_GoodState_1 (p1 : GThread) (p2 : GProg) : Option Bool :=
 Option.bind (impl_Thread_isGood p1 p2) fun r3 =>
 some (!r3)
theorem impl_GoodState_1_m {p1 : GThread} {p2 : GProg} {r : Bool} (h : impl_GoodState_1 p1 p2 = some r) : Meets Tryz.prog 139 [(AV.agg ((r179 p1))), (AV.rop (r34 p2) 0)] (B r) := by
 refine gM Tryz.func139 8 body139 fun E hP hn hx => ?_
 unfold impl_GoodState_1 at h
 obtain ⟨r3, hr3, h⟩ := bnS h
 obtain rfl := sj h
 exact gR hP hn [hW 0 1001, ⟨4, .callV [[], []] (B r3), none⟩] [] .raw [Meets Tryz.prog 140 [(AV.agg ((r179 p1))), (AV.agg ((r34 p2)))] (B r3), litA (B r3) = true, (B (!r3)) = (B (!r3)), litA (B (!r3)) = true] ⟨(impl_Thread_isGood_m hr3), rfl, rfl, rfl, trivial⟩
noncomputable def body182 : Code := match Tryz.f182.body with | some c => c | none => .skip
noncomputable def slices_IndexFunc_Thread_Thread__impl_GoodState_1_l0  (p1 : (List GThread)) (p2 : GProg) : Nat → Int → Option Int
 | 0, _ => none
 | n + 1, v3 =>
 if (decide (v3 < (p1.length : Int))) = true then
  Option.bind (rd p1 v3) fun x5 =>
  Option.bind (impl_GoodState_1 x5 p2) fun r6 =>
  if r6 = true then
   some v3
  else
   slices_IndexFunc_Thread_Thread__impl_GoodState_1_l0 p1 p2 n (w64 (v3 + 1))
 else
  some (-1)
theorem slices_IndexFunc_Thread_Thread__impl_GoodState_1_l0_m {E : Env} (hP : E.P = Tryz.prog) (hn : E.n = 19) (hx : FX E []) (p1 : (List GThread)) (p2 : GProg)  : ∀ (n : Nat) (v3 : Int) (r : Int), slices_IndexFunc_Thread_Thread__impl_GoodState_1_l0 p1 p2 n v3 = some r → WAt E body182 (FQ (RetE Θ Tryz.f182.results.toList [] [] (I r) E)) [true, false, true, false] ⟨[(0, (AV.ro 6 (p1.map r179))), (1, (AV.fn 139 [(AV.rop (r34 p2) 0)])), (7, (I (p1.length : Int))), (8, (I v3))], [], [JJ]⟩ := by
 intro n
 induction n with
 | zero => intro v3 r h; simp only [slices_IndexFunc_Thread_Thread__impl_GoodState_1_l0] at h; cases h
 | succ n ih =>
  intro v3 r h
  simp only [slices_IndexFunc_Thread_Thread__impl_GoodState_1_l0] at h
  let Z0 := (decide (v3 < (p1.length : Int)))
  rcases itS h with ⟨c4, h⟩ | ⟨c9, h⟩
  ·obtain ⟨x5, hx5, h⟩ := bnS h
   obtain ⟨r6, hr6, h⟩ := bnS h
   let P1 : List Prop := [Z0 = true, (0 : Int) ≤ v3, (p1.map r179)[(Int.toNat v3)]? = some (r179 x5), Meets Tryz.prog 139 [(AV.agg ((r179 x5))), (AV.rop (r34 p2) 0)] (B r6), litA (B r6) = true]
   have AP1 : AllP P1 := ⟨c4, (rd0 hx5), (rdM r179 hx5), (impl_GoodState_1_m hr6), rfl, trivial⟩
   rcases itS h with ⟨c7, h⟩ | ⟨c8, h⟩
   ·obtain rfl := sj h
    exact gR hP hn [hT 1, ⟨7, .row (r179 x5), none⟩, ⟨9, .callV [[]] (B r6), none⟩, hT 10] [] .raw (P1 ++ [r6 = true, (I v3) = (I v3), litA (I v3) = true]) (andP AP1 ⟨c7, rfl, rfl, trivial⟩)
   ·exact gT hP hn hx [hT 1, ⟨7, .row (r179 x5), none⟩, ⟨9, .callV [[]] (B r6), none⟩, hF 10] [] [0, 1, 7, 8] [] (P1 ++ [r6 = false]) (andP AP1 ⟨c8, trivial⟩) (ih (w64 (v3 + 1)) _ h)
  ·obtain rfl := sj h
   exact gR hP hn [hF 1] [] .raw [Z0 = false, (I (-1)) = (I (-1)), litA (I (-1)) = true] ⟨c9, rfl, rfl, trivial⟩
noncomputable def slices_IndexFunc_Thread_Thread__impl_GoodState_1 (p1 : (List GThread)) (p2 : GProg) : Option Int :=
 slices_IndexFunc_Thread_Thread__impl_GoodState_1_l0 p1 p2 FU 0
theorem slices_IndexFunc_Thread_Thread__impl_GoodState_1_m {p1 : (List GThread)} {p2 : GProg} {r : Int} (h : slices_IndexFunc_Thread_Thread__impl_GoodState_1 p1 p2 = some r) : Meets Tryz.prog 182 [(AV.ro 6 (p1.map r179)), (AV.fn 139 [(AV.rop (r34 p2) 0)])] (I r) := by
 refine gM Tryz.func182 19 body182 fun E hP hn hx => ?_
 unfold slices_IndexFunc_Thread_Thread__impl_GoodState_1 at h
 exact (let Z0 := (I (p1.length : Int)); gT hP hn hx [hO 2 Z0] [] [0, 1, 7, 8] [] [AV.lit (.int .i64 (((p1.map r179).length : Nat) : Int)) = Z0] ⟨(lenM r179), trivial⟩ (slices_IndexFunc_Thread_Thread__impl_GoodState_1_l0_m hP hn hx p1 p2 FU 0 _ h))
noncomputable def body138 : Code := match Tryz.f138.body with | some c => c | none => .skip
noncomputable def slices_ContainsFunc_Thread_Thread__impl_GoodState_1 (p1 : (List GThread)) (p2 : GProg) : Option Bool :=
 Option.bind (slices_IndexFunc_Thread_Thread__impl_GoodState_1 p1 p2) fun r3 =>
 some (decide (r3 ≥ 0))
theorem slices_ContainsFunc_Thread_Thread__impl_GoodState_1_m {p1 : (List GThread)} {p2 : GProg} {r : Bool} (h : slices_ContainsFunc_Thread_Thread__impl_GoodState_1 p1 p2 = some r) : Meets Tryz.prog 138 [(AV.ro 6 (p1.map r179)), (AV.fn 139 [(AV.rop (r34 p2) 0)])] (B r) := by
 refine gM Tryz.func138 9 body138 fun E hP hn hx => ?_
 unfold slices_ContainsFunc_Thread_Thread__impl_GoodState_1 at h
 obtain ⟨r3, hr3, h⟩ := bnS h
 obtain rfl := sj h
 exact (let Z0 := (B (decide (r3 ≥ 0))); gR hP hn [⟨3, .callV [] (I r3), none⟩] [] .raw [Meets Tryz.prog 182 [(AV.ro 6 (p1.map r179)), (AV.fn 139 [(AV.rop (r34 p2) 0)])] (I r3), litA (I r3) = true, Z0 = Z0, litA Z0 = true] ⟨(slices_IndexFunc_Thread_Thread__impl_GoodState_1_m hr3), rfl, rfl, rfl, trivial⟩)
noncomputable def body141 : Code := match Tryz.f141.body with | some c => c | none => .skip
noncomputable def impl_GoodState_2 (p1 : Int) (p2 : GState) : Option Bool :=
 Option.bind (impl_in p1 (-1) (w64 ((p2.Threads.length : Int) - 1))) fun r3 =>
 some (!r3)
theorem impl_GoodState_2_m {p1 : Int} {p2 : GState} {r : Bool} (h : impl_GoodState_2 p1 p2 = some r) : Meets Tryz.prog 141 [(I p1), (AV.rop (r57 p2) 0)] (B r) := by
 refine gM Tryz.func141 11 body141 fun E hP hn hx => ?_
 unfold impl_GoodState_2 at h
 obtain ⟨r3, hr3, h⟩ := bnS h
 obtain rfl := sj h
 exact (let Z0 := (p2.Threads.length : Int); gR hP hn [hO 4 (I Z0), ⟨6, .callV [] (B r3), none⟩] [] .raw [AV.lit (.int .i64 (((p2.Threads.map r179).length : Nat) : Int)) = (I Z0), Meets Tryz.prog 53 [(I p1), (I (-1)), (I (w64 (Z0 - 1)))] (B r3), litA (B r3) = true, (B (!r3)) = (B (!r3)), litA (B (!r3)) = true] ⟨(lenM r179), (impl_in_m hr3), rfl, rfl, rfl, trivial⟩)
noncomputable def body163_118 : Code := match Tryz.f163.body with | some c => c | none => .skip
noncomputable def slices_IndexFunc_int_int__impl_GoodState_2_l0  (p1 : (List Int)) (p2 : GState) : Nat → Int → Option Int
 | 0, _ => none
 | n + 1, v3 =>
 if (decide (v3 < (p1.length : Int))) = true then
  Option.bind (rd p1 v3) fun x5 =>
  Option.bind (impl_GoodState_2 x5 p2) fun r6 =>
  if r6 = true then
   some v3
  else
   slices_IndexFunc_int_int__impl_GoodState_2_l0 p1 p2 n (w64 (v3 + 1))
 else
  some (-1)
theorem slices_IndexFunc_int_int__impl_GoodState_2_l0_m {E : Env} (hP : E.P = Tryz.prog) (hn : E.n = 19) (hx : FX E []) (p1 : (List Int)) (p2 : GState)  : ∀ (n : Nat) (v3 : Int) (r : Int), slices_IndexFunc_int_int__impl_GoodState_2_l0 p1 p2 n v3 = some r → WAt E body163_118 (FQ (RetE Θ Tryz.f163.results.toList [] [] (I r) E)) [true, false, true, false] ⟨[(0, (AV.ro 1 (p1.map o3))), (1, (AV.fn 141 [(AV.rop (r57 p2) 0)])), (7, (I (p1.length : Int))), (8, (I v3))], [], [JJ]⟩ := by
 intro n
 induction n with
 | zero => intro v3 r h; simp only [slices_IndexFunc_int_int__impl_GoodState_2_l0] at h; cases h
 | succ n ih =>
  intro v3 r h
  simp only [slices_IndexFunc_int_int__impl_GoodState_2_l0] at h
  let Z0 := (decide (v3 < (p1.length : Int)))
  rcases itS h with ⟨c4, h⟩ | ⟨c9, h⟩
  ·obtain ⟨x5, hx5, h⟩ := bnS h
   obtain ⟨r6, hr6, h⟩ := bnS h
   let P1 : List Prop := [Z0 = true, (0 : Int) ≤ v3, (p1.map o3)[(Int.toNat v3)]? = some (o3 x5), Meets Tryz.prog 141 [(I x5), (AV.rop (r57 p2) 0)] (B r6), litA (B r6) = true]
   have AP1 : AllP P1 := ⟨c4, (rd0 hx5), (rdM o3 hx5), (impl_GoodState_2_m hr6), rfl, trivial⟩
   rcases itS h with ⟨c7, h⟩ | ⟨c8, h⟩
   ·obtain rfl := sj h
    exact gR hP hn [hT 1, ⟨7, .row (o3 x5), none⟩, ⟨9, .callV [] (B r6), none⟩, hT 10] [] .raw (P1 ++ [r6 = true, (I v3) = (I v3), litA (I v3) = true]) (andP AP1 ⟨c7, rfl, rfl, trivial⟩)
   ·exact gT hP hn hx [hT 1, ⟨7, .row (o3 x5), none⟩, ⟨9, .callV [] (B r6), none⟩, hF 10] [] [0, 1, 7, 8] [] (P1 ++ [r6 = false]) (andP AP1 ⟨c8, trivial⟩) (ih (w64 (v3 + 1)) _ h)
  ·obtain rfl := sj h
   exact gR hP hn [hF 1] [] .raw [Z0 = false, (I (-1)) = (I (-1)), litA (I (-1)) = true] ⟨c9, rfl, rfl, trivial⟩
noncomputable def slices_IndexFunc_int_int__impl_GoodState_2 (p1 : (List Int)) (p2 : GState) : Option Int :=
 slices_IndexFunc_int_int__impl_GoodState_2_l0 p1 p2 FU 0
theorem slices_IndexFunc_int_int__impl_GoodState_2_m {p1 : (List Int)} {p2 : GState} {r : Int} (h : slices_IndexFunc_int_int__impl_GoodState_2 p1 p2 = some r) : Meets Tryz.prog 163 [(AV.ro 1 (p1.map o3)), (AV.fn 141 [(AV.rop (r57 p2) 0)])] (I r) := by
 refine gM Tryz.func163 19 body163_118 fun E hP hn hx => ?_
 unfold slices_IndexFunc_int_int__impl_GoodState_2 at h
 exact (let Z0 := (I (p1.length : Int)); gT hP hn hx [hO 2 Z0] [] [0, 1, 7, 8] [] [AV.lit (.int .i64 (((p1.map o3).length : Nat) : Int)) = Z0] ⟨(lenM o3), trivial⟩ (slices_IndexFunc_int_int__impl_GoodState_2_l0_m hP hn hx p1 p2 FU 0 _ h))
noncomputable def body117_119 : Code := match Tryz.f117.body with | some c => c | none => .skip
noncomputable def slices_ContainsFunc_int_int__impl_GoodState_2 (p1 : (List Int)) (p2 : GState) : Option Bool :=
 Option.bind (slices_IndexFunc_int_int__impl_GoodState_2 p1 p2) fun r3 =>
 some (decide (r3 ≥ 0))
theorem slices_ContainsFunc_int_int__impl_GoodState_2_m {p1 : (List Int)} {p2 : GState} {r : Bool} (h : slices_ContainsFunc_int_int__impl_GoodState_2 p1 p2 = some r) : Meets Tryz.prog 117 [(AV.ro 1 (p1.map o3)), (AV.fn 141 [(AV.rop (r57 p2) 0)])] (B r) := by
 refine gM Tryz.func117 9 body117_119 fun E hP hn hx => ?_
 unfold slices_ContainsFunc_int_int__impl_GoodState_2 at h
 obtain ⟨r3, hr3, h⟩ := bnS h
 obtain rfl := sj h
 exact (let Z0 := (B (decide (r3 ≥ 0))); gR hP hn [⟨3, .callV [] (I r3), none⟩] [] .raw [Meets Tryz.prog 163 [(AV.ro 1 (p1.map o3)), (AV.fn 141 [(AV.rop (r57 p2) 0)])] (I r3), litA (I r3) = true, Z0 = Z0, litA Z0 = true] ⟨(slices_IndexFunc_int_int__impl_GoodState_2_m hr3), rfl, rfl, rfl, trivial⟩)
noncomputable def body73 : Code := match Tryz.f73.body with | some c => c | none => .skip
noncomputable def impl_GoodState_j0  (p1 : GProg) (p2 : GState)  : Option Bool :=
 Option.bind (slices_ContainsFunc_Thread_Thread__impl_GoodState_1 p2.Threads p1) fun r16 =>
 if (!r16) = true then
  Option.bind (slices_ContainsFunc_int_int__impl_GoodState_2 p2.Owner p2) fun r18 =>
  some (!r18)
 else
  some false
theorem impl_GoodState_j0_m {E : Env} (hP : E.P = Tryz.prog) (hn : E.n = 49) (hx : FX E []) (p1 : GProg) (p2 : GState)   (r : Bool) (h : impl_GoodState_j0 p1 p2  = some r) : WAt E body73 (FQ (RetE Θ Tryz.f73.results.toList [] [] (B r) E)) [true, false, true, true] ⟨[(2, (AV.ptr 1 0 0)), (3, (AV.ptr 2 0 0))], [(1, some ⟨34, 4, [((r34 p1))]⟩), (2, some ⟨57, 4, [((r57 p2))]⟩)], [1, 2, JJ]⟩ := by
 unfold impl_GoodState_j0 at h
 obtain ⟨r16, hr16, h⟩ := bnS h
 let Z0 := ((r34 p1)); let Z1 := ((r57 p2)); let Z2 := (B false)
 let P1 : List Prop := [Meets Tryz.prog 138 [(AV.ro 6 (p2.Threads.map r179)), (AV.fn 139 [(AV.rop (r34 p1) 0)])] (B r16), litA (B r16) = true, [Z0][0]? = some Z0, treeL Z0 = true, frzL Z0 = (r34 p1)]
 have AP1 : AllP P1 := ⟨(slices_ContainsFunc_Thread_Thread__impl_GoodState_1_m hr16), rfl, rfl, rfl, rfl, trivial⟩
 rcases itS h with ⟨c17, h⟩ | ⟨c19, h⟩
 ·obtain ⟨r18, hr18, h⟩ := bnS h
  obtain rfl := sj h
  exact gR hP hn [⟨3, .callV [[Z0, (r34 p1)]] (B r16), none⟩, hO 5 (B true), ⟨9, .callV [[Z1, (r57 p2)]] (B r18), none⟩] [] .raw (P1 ++ [(B (!r16)) = (B true), Meets Tryz.prog 117 [(AV.ro 1 (p2.Owner.map o3)), (AV.fn 141 [(AV.rop (r57 p2) 0)])] (B r18), litA (B r18) = true, [Z1][0]? = some Z1, treeL Z1 = true, frzL Z1 = (r57 p2), (B (!r18)) = (B (!r18)), litA (B (!r18)) = true]) (andP AP1 ⟨(litB c17), (slices_ContainsFunc_int_int__impl_GoodState_2_m hr18), rfl, rfl, rfl, rfl, rfl, rfl, trivial⟩)
 ·obtain rfl := sj h
  exact gR hP hn [⟨3, .callV [[Z0, (r34 p1)]] (B r16), none⟩, hO 5 Z2] [] .raw (P1 ++ [(B (!r16)) = Z2, Z2 = Z2, litA Z2 = true]) (andP AP1 ⟨(litB c19), rfl, rfl, trivial⟩)
noncomputable def impl_GoodState (p1 : GProg) (p2 : GState) : Option Bool :=
 Option.bind (impl_GoodProg p1) fun r3 =>
 if (!r3) = true then
  some false
 else
  Option.bind (impl_in (p2.Threads.length : Int) 1 5) fun r6 =>
  if (!r6) = true then
   some false
  else
   if ((p2.Cells.length : Int) != p1.Cells) = true then
    some false
   else
    if ((p2.Owner.length : Int) != p1.Locks) = true then
     some false
    else
     Option.bind (impl_in p2.Fault 0 4) fun r13 =>
     if (!r13) = true then
      some false
     else
      impl_GoodState_j0 p1 p2
theorem impl_GoodState_m {p1 : GProg} {p2 : GState} {r : Bool} (h : impl_GoodState p1 p2 = some r) : Meets Tryz.prog 73 [(AV.agg ((r34 p1))), (AV.agg ((r57 p2)))] (B r) := by
 refine gM Tryz.func73 49 body73 fun E hP hn hx => ?_
 unfold impl_GoodState at h
 obtain ⟨r3, hr3, h⟩ := bnS h
 let Z0 := (B true); let Z1 := (B false); let Z2 := (I (p2.Threads.length : Int)); let Z3 := (p2.Cells.length : Int); let Z4 := (p2.Owner.length : Int)
 let H1 : List Hn := [hW 0 1001, hW 1 1002, ⟨4, .callV [[]] (B r3), none⟩]
 let P2 : List Prop := [Meets Tryz.prog 48 [(AV.agg ((r34 p1)))] (B r3), litA (B r3) = true]
 have AP2 : AllP P2 := ⟨(impl_GoodProg_m hr3), rfl, trivial⟩
 rcases itS h with ⟨c4, h⟩ | ⟨c5, h⟩
 ·obtain rfl := sj h
  exact gR hP hn (H1 ++ [hO 6 Z0]) [] .raw (P2 ++ [(B (!r3)) = Z0, Z1 = Z1, litA Z1 = true]) (andP AP2 ⟨(litB c4), rfl, rfl, trivial⟩)
 ·obtain ⟨r6, hr6, h⟩ := bnS h
  let H3 : List Hn := H1 ++ [hO 6 Z1, hO 9 Z2, ⟨10, .callV [] (B r6), none⟩]
  let P4 : List Prop := P2 ++ [(B (!r3)) = Z1, AV.lit (.int .i64 (((p2.Threads.map r179).length : Nat) : Int)) = Z2, Meets Tryz.prog 53 [Z2, (I 1), (I 5)] (B r6), litA (B r6) = true]
  have AP4 : AllP P4 := andP AP2 ⟨(litB c5), (lenM r179), (impl_in_m hr6), rfl, trivial⟩
  rcases itS h with ⟨c7, h⟩ | ⟨c8, h⟩
  ·obtain rfl := sj h
   exact gR hP hn (H3 ++ [hO 13 Z0]) [] .raw (P4 ++ [(B (!r6)) = Z0, Z1 = Z1, litA Z1 = true]) (andP AP4 ⟨(litB c7), rfl, rfl, trivial⟩)
  ·let H5 : List Hn := H3 ++ [hO 13 Z1, hO 16 (I Z3)]
   let P6 : List Prop := P4 ++ [(B (!r6)) = Z1, AV.lit (.int .i64 (((p2.Cells.map o142).length : Nat) : Int)) = (I Z3)]
   have AP6 : AllP P6 := andP AP4 ⟨(litB c8), (lenM o142), trivial⟩
   rcases itS h with ⟨c9, h⟩ | ⟨c10, h⟩
   ·obtain rfl := sj h
    exact gR hP hn (H5 ++ [hO 21 Z0]) [] .raw (P6 ++ [(B (Z3 != p1.Cells)) = Z0, Z1 = Z1, litA Z1 = true]) (andP AP6 ⟨(litB c9), rfl, rfl, trivial⟩)
   ·let H7 : List Hn := H5 ++ [hO 21 Z1, hO 24 (I Z4)]
    let P8 : List Prop := P6 ++ [(B (Z3 != p1.Cells)) = Z1, AV.lit (.int .i64 (((p2.Owner.map o3).length : Nat) : Int)) = (I Z4)]
    have AP8 : AllP P8 := andP AP6 ⟨(litB c10), (lenM o3), trivial⟩
    rcases itS h with ⟨c11, h⟩ | ⟨c12, h⟩
    ·obtain rfl := sj h
     exact gR hP hn (H7 ++ [hO 29 Z0]) [] .raw (P8 ++ [(B (Z4 != p1.Locks)) = Z0, Z1 = Z1, litA Z1 = true]) (andP AP8 ⟨(litB c11), rfl, rfl, trivial⟩)
    ·obtain ⟨r13, hr13, h⟩ := bnS h
     let P9 : List Prop := P8 ++ [(B (Z4 != p1.Locks)) = Z1, Meets Tryz.prog 53 [(I p2.Fault), (I 0), (I 4)] (B r13), litA (B r13) = true]
     have AP9 : AllP P9 := andP AP8 ⟨(litB c12), (impl_in_m hr13), rfl, trivial⟩
     rcases itS h with ⟨c14, h⟩ | ⟨c15, h⟩
     ·obtain rfl := sj h
      exact gR hP hn (H7 ++ [hO 29 Z1, ⟨32, .callV [] (B r13), none⟩, hT 35]) [] .raw (P9 ++ [(!r13) = true, Z1 = Z1, litA Z1 = true]) (andP AP9 ⟨c14, rfl, rfl, trivial⟩)
     ·exact gT hP hn hx (H7 ++ [hO 29 Z1, ⟨32, .callV [] (B r13), none⟩, hF 35]) [(1001, 1), (1002, 2)] [2, 3] [] (P9 ++ [(!r13) = false, RenOK [(1001, 1), (1002, 2)] [((r34 p1))], RenOK [(1001, 1), (1002, 2)] [((r57 p2))]]) (andP AP9 ⟨c15, (rok (treeB t34 p1)), (rok (treeB t57 p2)), trivial⟩) (impl_GoodState_j0_m hP hn hx p1 p2  _ h)
noncomputable def body144 : Code := match Tryz.f144.body with | some c => c | none => .skip
noncomputable def slices_Clone_Thread_Thread_j0  (p1 : (List GThread))  : Option (List GThread) :=
  nilS p1 (
    some []) (
    Option.bind (app [] p1) fun l2 =>
    some l2)
theorem slices_Clone_Thread_Thread_j0_m {E : Env} (hP : E.P = Tryz.prog) (hn : E.n = 8) (hx : FX E []) (p1 : (List GThread))   (r : (List GThread)) (h : slices_Clone_Thread_Thread_j0 p1  = some r) : WAt E body144 (FQ (RetE Θ Tryz.f144.results.toList [] [] (AV.own 179 6 (r.map r179)) E)) [true, false, false] ⟨[(0, (AV.ro 6 (p1.map r179)))], [], [JJ]⟩ := by
 have hm : E.P.follows .mixedOrders = true := by rw [hP]; exact mixed
 have hΘ : TOK E.P Θ := by rw [hP]; exact Θ_ok
 unfold slices_Clone_Thread_Thread_j0 at h
 obtain ⟨h1, h2⟩ := nilSE h
 refine go_nil hΘ hm hP hn (p := [true, false, false]) (q := [true, false, true]) (s' := ⟨[(3, (AV.ro 6 (p1.map r179))), (0, (AV.ro 6 (p1.map r179)))], [], [JJ]⟩) (hs := []) (d := 4) (xs := (p1.map r179)) (ps := []) (by kernel_rfl) trivial (fun c hc => ?_)
 cases c
 ·have h := h2
  obtain ⟨l2, hl2, h⟩ := bnS h
  obtain rfl := sj h
  exact (let Z0 := (l2.map r179); let Z1 := (List.length Z0); gR hP hn [hW 1 1001, ⟨3, .app 1002 Z0, none⟩] [] .ownS [([].map o179).take (List.length ([].map o179)) ++ (p1.map r179) = Z0, (p1.map r179).all (fun r => r.all AV.plain) = true, Z1 * 64 ≤ 140737488355328, Z1 ≤ 140737488355328, treeLL (Z0.take Z1) = true, Z0.take Z1 = Z0] ⟨(appTr o179 r179 hl2), (plM par179), (appB r179 hl2 (by decide)), (appC r179 hl2), (treeT tr179), takeM, trivial⟩)
 ·have h := h1 (List.map_eq_nil_iff.1 (hc rfl))
  obtain rfl := sj h
  exact gR hP hn [] [] .own [] trivial
noncomputable def slices_Clone_Thread_Thread (p1 : (List GThread)) : Option (List GThread) :=
 slices_Clone_Thread_Thread_j0 p1
theorem slices_Clone_Thread_Thread_m {p1 : (List GThread)} {r : (List GThread)} (h : slices_Clone_Thread_Thread p1 = some r) : Meets Tryz.prog 144 [(AV.ro 6 (p1.map r179))] (AV.own 179 6 (r.map r179)) := by
 refine gM Tryz.func144 8 body144 fun E hP hn hx => ?_
 unfold slices_Clone_Thread_Thread at h
 exact gT hP hn hx [] [] [0] [] [] trivial (slices_Clone_Thread_Thread_j0_m hP hn hx p1  _ h)
noncomputable def body143 : Code := match Tryz.f143.body with | some c => c | none => .skip
noncomputable def slices_Clone_float64_float64_j0  (p1 : (List Nat))  : Option (List Nat) :=
  nilS p1 (
    some []) (
    Option.bind (app [] p1) fun l2 =>
    some l2)
theorem slices_Clone_float64_float64_j0_m {E : Env} (hP : E.P = Tryz.prog) (hn : E.n = 8) (hx : FX E []) (p1 : (List Nat))   (r : (List Nat)) (h : slices_Clone_float64_float64_j0 p1  = some r) : WAt E body143 (FQ (RetE Θ Tryz.f143.results.toList [] [] (AV.own 142 1 (r.map o142)) E)) [true, false, false] ⟨[(0, (AV.ro 1 (p1.map o142)))], [], [JJ]⟩ := by
 have hm : E.P.follows .mixedOrders = true := by rw [hP]; exact mixed
 have hΘ : TOK E.P Θ := by rw [hP]; exact Θ_ok
 unfold slices_Clone_float64_float64_j0 at h
 obtain ⟨h1, h2⟩ := nilSE h
 refine go_nil hΘ hm hP hn (p := [true, false, false]) (q := [true, false, true]) (s' := ⟨[(3, (AV.ro 1 (p1.map o142))), (0, (AV.ro 1 (p1.map o142)))], [], [JJ]⟩) (hs := []) (d := 4) (xs := (p1.map o142)) (ps := []) (by kernel_rfl) trivial (fun c hc => ?_)
 cases c
 ·have h := h2
  obtain ⟨l2, hl2, h⟩ := bnS h
  obtain rfl := sj h
  exact (let Z0 := (l2.map o142); let Z1 := (List.length Z0); gR hP hn [hW 1 1001, ⟨3, .app 1002 Z0, none⟩] [] .own [([].map o142).take (List.length ([].map o142)) ++ (p1.map o142) = Z0, (p1.map o142).all (fun r => r.all AV.plain) = true, Z1 * 8 ≤ 140737488355328, Z1 ≤ 140737488355328, treeLL (Z0.take Z1) = true, Z0.take Z1 = Z0, noRoLL Z0 = true] ⟨(appT o142 hl2), (plM pa142), (appB o142 hl2 (by decide)), (appC o142 hl2), (treeT t142), takeM, (noRoM n142), trivial⟩)
 ·have h := h1 (List.map_eq_nil_iff.1 (hc rfl))
  obtain rfl := sj h
  exact gR hP hn [] [] .own [] trivial
noncomputable def slices_Clone_float64_float64 (p1 : (List Nat)) : Option (List Nat) :=
 slices_Clone_float64_float64_j0 p1
theorem slices_Clone_float64_float64_m {p1 : (List Nat)} {r : (List Nat)} (h : slices_Clone_float64_float64 p1 = some r) : Meets Tryz.prog 143 [(AV.ro 1 (p1.map o142))] (AV.own 142 1 (r.map o142)) := by
 refine gM Tryz.func143 8 body143 fun E hP hn hx => ?_
 unfold slices_Clone_float64_float64 at h
 exact gT hP hn hx [] [] [0] [] [] trivial (slices_Clone_float64_float64_j0_m hP hn hx p1  _ h)
noncomputable def body111 : Code := match Tryz.f111.body with | some c => c | none => .skip
noncomputable def slices_Clone_int_int_j0  (p1 : (List Int))  : Option (List Int) :=
  nilS p1 (
    some []) (
    Option.bind (app [] p1) fun l2 =>
    some l2)
theorem slices_Clone_int_int_j0_m {E : Env} (hP : E.P = Tryz.prog) (hn : E.n = 8) (hx : FX E []) (p1 : (List Int))   (r : (List Int)) (h : slices_Clone_int_int_j0 p1  = some r) : WAt E body111 (FQ (RetE Θ Tryz.f111.results.toList [] [] (AV.own 3 1 (r.map o3)) E)) [true, false, false] ⟨[(0, (AV.ro 1 (p1.map o3)))], [], [JJ]⟩ := by
 have hm : E.P.follows .mixedOrders = true := by rw [hP]; exact mixed
 have hΘ : TOK E.P Θ := by rw [hP]; exact Θ_ok
 unfold slices_Clone_int_int_j0 at h
 obtain ⟨h1, h2⟩ := nilSE h
 refine go_nil hΘ hm hP hn (p := [true, false, false]) (q := [true, false, true]) (s' := ⟨[(3, (AV.ro 1 (p1.map o3))), (0, (AV.ro 1 (p1.map o3)))], [], [JJ]⟩) (hs := []) (d := 4) (xs := (p1.map o3)) (ps := []) (by kernel_rfl) trivial (fun c hc => ?_)
 cases c
 ·have h := h2
  obtain ⟨l2, hl2, h⟩ := bnS h
  obtain rfl := sj h
  exact (let Z0 := (l2.map o3); let Z1 := (List.length Z0); gR hP hn [hW 1 1001, ⟨3, .app 1002 Z0, none⟩] [] .own [([].map o3).take (List.length ([].map o3)) ++ (p1.map o3) = Z0, (p1.map o3).all (fun r => r.all AV.plain) = true, Z1 * 8 ≤ 140737488355328, Z1 ≤ 140737488355328, treeLL (Z0.take Z1) = true, Z0.take Z1 = Z0, noRoLL Z0 = true] ⟨(appT o3 hl2), (plM pa3), (appB o3 hl2 (by decide)), (appC o3 hl2), (treeT t3), takeM, (noRoM n3), trivial⟩)
 ·have h := h1 (List.map_eq_nil_iff.1 (hc rfl))
  obtain rfl := sj h
  exact gR hP hn [] [] .own [] trivial
noncomputable def slices_Clone_int_int (p1 : (List Int)) : Option (List Int) :=
 slices_Clone_int_int_j0 p1
theorem slices_Clone_int_int_m {p1 : (List Int)} {r : (List Int)} (h : slices_Clone_int_int p1 = some r) : Meets Tryz.prog 111 [(AV.ro 1 (p1.map o3))] (AV.own 3 1 (r.map o3)) := by
 refine gM Tryz.func111 8 body111 fun E hP hn hx => ?_
 unfold slices_Clone_int_int at h
 exact gT hP hn hx [] [] [0] [] [] trivial (slices_Clone_int_int_j0_m hP hn hx p1  _ h)
noncomputable def body76 : Code := match Tryz.f76.body with | some c => c | none => .skip
noncomputable def impl_State_copied_l0  (r4 : (List GThread)) : Nat → GState → (List GThread) → (List Nat) → (List Int) → Int → Int → Option GState
 | 0, _, _, _, _, _, _ => none
 | n + 1, a5, a6, a7, a8, a9, v10 =>
 if (decide (v10 < (r4.length : Int))) = true then
  Option.bind (rd r4 v10) fun x12 =>
  Option.bind (isLenM a6 v10) fun q13 =>
  Option.bind (app [] x12.Stack) fun l14 =>
  Option.bind (nx1 v10) fun q15 =>
  impl_State_copied_l0 r4 n a5 (a6 ++ [(GThread.mk x12.Routine x12.Pc x12.State x12.Cond x12.Lock l14)]) a7 a8 a9 (w64 (v10 + 1))
 else
  Option.bind (isEnd r4 v10) fun q17 =>
  some (GState.mk a6 a7 a8 a9)
theorem impl_State_copied_l0_m {E : Env} (hP : E.P = Tryz.prog) (hn : E.n = 38) (hx : FX E []) (r4 : (List GThread))  : ∀ (n : Nat) (a5 : GState) (a6 : (List GThread)) (a7 : (List Nat)) (a8 : (List Int)) (a9 : Int) (v10 : Int) (r : GState), impl_State_copied_l0 r4 n a5 a6 a7 a8 a9 v10 = some r → WAt E body76 (FQ (RetE Θ Tryz.f76.results.toList [] [] (AV.agg (o57 r)) E)) [true, true, false, true, false] ⟨[(2, (AV.ptr 1 0 0)), (3, (AV.ptr 2 0 0)), (19, (I (r4.length : Int))), (20, (I v10))], [(1, some ⟨57, 4, [((o57 a5))]⟩), (2, some ⟨57, 4, [[(AV.sl 1005 0 (List.length (mixd o179 r179 a6 r4 (Int.toNat v10)))), (AV.own 142 1 (a7.map o142)), (AV.own 3 1 (a8.map o3)), (I a9)]]⟩), (1005, some ⟨179, 6, (mixd o179 r179 a6 r4 (Int.toNat v10))⟩)], [1, 2, 1005, JJ]⟩ := by
 intro n
 induction n with
 | zero => intro a5 a6 a7 a8 a9 v10 r h; simp only [impl_State_copied_l0] at h; cases h
 | succ n ih =>
  intro a5 a6 a7 a8 a9 v10 r h
  simp only [impl_State_copied_l0] at h
  let Z0 := (List.length ([].map o142)); let Z3 := (mixd o179 r179 a6 r4 (Int.toNat v10)); let Z9 := (a7.map o142); let Z10 := (AV.own 142 1 Z9); let Z11 := (a8.map o3); let Z12 := (AV.own 3 1 Z11); let Z14 := (decide (v10 < (r4.length : Int))); let Z15 := (List.length Z3); let Z16 := ((Z15 : Nat) : Int); let Z18 := (AV.ptr 2 0 0); let Z19 := (AV.sl 1005 0 Z15); let Z20 := (AV.ptr 1005 (Int.toNat v10) 0); let Z21 := (AV.ptr 1005 (Int.toNat v10) 5); let Z22 := [Z19, Z10, Z12, (I a9)]; let Z24 := (List.length Z9); let Z25 := (AV.sl 1003 0 Z24); let Z26 := [Z19, Z25, Z12, (I a9)]; let Z27 := (List.length Z11); let Z28 := [[Z19, Z25, (AV.sl 1004 0 Z27), (I a9)]]; let Z29 := (a6.map o179)
  rcases itS h with ⟨c11, h⟩ | ⟨c16, h⟩
  ·obtain ⟨x12, hx12, h⟩ := bnS h
   obtain ⟨q13, hq13, h⟩ := bnS h
   obtain ⟨l14, hl14, h⟩ := bnS h
   obtain ⟨q15, hq15, h⟩ := bnS h
   exact (let Z1 := ((r179 x12)); let Z2 := (l14.map o142); let Z4 := (List.length Z2); let Z5 := (AV.sl 1002 0 Z4); let Z6 := [(I x12.Routine), (I x12.Pc), (I x12.State), (I x12.Cond), (I x12.Lock), Z5]; let Z7 := (Z3.set (Int.toNat v10) Z6); let Z8 := (mixd o179 r179 (a6 ++ [(GThread.mk x12.Routine x12.Pc x12.State x12.Cond x12.Lock l14)]) r4 (Int.toNat (w64 (v10 + 1)))); let Z13 := ([(AV.sl 1005 0 (List.length Z8)), Z10, Z12, (I a9)]); let Z17 := (x12.Stack.map o142); let Z23 := (GThread.mk x12.Routine x12.Pc x12.State x12.Cond x12.Lock l14); gT hP hn hx [hT 1, ⟨7, .nwc 1001, some (AV.sl 1001 0 Z0)⟩, ⟨13, .row Z1, none⟩, ⟨14, .app 1002 Z2, none⟩, ⟨26, .row Z1, none⟩, ⟨29, .sto Z1 Z7, none⟩, ⟨30, .pack 1005 1002 (Int.toNat v10) 5 Z6 Z8, none⟩, ⟨32, .eqr 2 [Z13], none⟩] [(1, 1), (2, 2), (1005, 1005)] [2, 3, 19, 20] [] [Z14 = true, AV.sl 1001 0 (Int.toNat 0) = (AV.sl 1001 0 Z0), (0 : Int) ≤ (8 : Int), (0 : Int) ≤ (0 : Int), (8 : Int) * ((8 : Nat) : Int) ≤ 140737488355328, (8 : Int) ≤ 140737488355328, (0 : Int) ≤ v10, v10 < Z16, Z3[(Int.toNat v10)]? = some Z1, ([].map o142).take Z0 ++ Z17 = Z2, Z17.all (fun r => r.all AV.plain) = true, Z4 * 8 ≤ 140737488355328, Z4 ≤ 140737488355328, Z18 = Z18, Z18 = Z18, Z19 = Z19, Z19 = Z19, (I v10) = (I v10), (I v10) = (I v10), Z18 = Z18, Z19 = Z19, (I v10) = (I v10), Z20 = Z20, (0 : Int) ≤ v10, v10 < Z16, Z21 = Z21, (AV.ro 1 Z17) = (AV.ro 1 Z17), Z3[(Int.toNat v10)]? = some Z1, (0 : Int) ≤ v10, v10 < Z16, Z3[(Int.toNat v10)]? = some Z1, Z3.set (Int.toNat v10) (wr Z1 5 [Z5]) = Z7, [Z5].length = 1, 5 + [Z5].length ≤ Z1.length, Z7[(Int.toNat v10)]? = some Z6, Z6[5]? = some Z5, treeLL Z2 = true, Z7.set (Int.toNat v10) (Z6.set 5 (AV.own 142 1 Z2)) = Z8, [Z22] = [Z13], RenOK [(1, 1), (2, 2), (1005, 1005)] [((o57 a5))], RenOK [(1, 1), (2, 2), (1005, 1005)] [Z13], RenOK [(1, 1), (2, 2), (1005, 1005)] Z8] ⟨c11, rfl, (by decide), (Int.le_refl _), (by decide), (by decide), (rd0 hx12), (mxL hq13 hx12), (mxR hq13 hx12), (appT o142 hl14), (plM pa142), (appB o142 hl14 (by decide)), (appC o142 hl14), rfl, rfl, rfl, rfl, rfl, rfl, rfl, rfl, rfl, rfl, (rd0 hx12), (mxL hq13 hx12), rfl, rfl, (mxR hq13 hx12), (rd0 hx12), (mxL hq13 hx12), (mxR hq13 hx12), rfl, rfl, leB, (setE (mxR hq13 hx12)), rfl, (treeM t142), (mxS (x2 := Z6) (y := Z23) hq13 hx12 hq15 rfl), (congrArg (fun nn => [[(AV.sl 1005 0 nn), Z10, Z12, (I a9)]]) (show (List.length (mixd o179 r179 a6 r4 (Int.toNat v10))) = (List.length (mixd o179 r179 (a6 ++ [Z23]) r4 (Int.toNat (w64 (v10 + 1))))) from (by try simp +zetaDelta only []; rw [← (mxS (x2 := Z6) (y := Z23) hq13 hx12 hq15 rfl), List.length_set, List.length_set]))), (rok (treeB t57 a5)), (.inr rfl), (rok (mxT t179 tr179)), trivial⟩ (ih a5 (a6 ++ [Z23]) a7 a8 a9 (w64 (v10 + 1)) _ h))
  ·obtain ⟨q17, hq17, h⟩ := bnS h
   obtain rfl := sj h
   exact gR hP hn [hF 1, ⟨2, .unpack 2 1003 0 1 Z22 142 1 Z9 [Z26], none⟩, ⟨2, .unpack 2 1004 0 2 Z26 3 1 Z11 Z28, none⟩, ⟨4, .eqr 1005 Z29, none⟩] [] (.agg [.own, .own, .own, .raw]) [Z14 = false, [Z22][0]? = some Z22, Z22[1]? = some Z10, 0 < 1, [Z22].set 0 (Z22.set 1 Z25) = [Z26], [Z26][0]? = some Z26, Z26[2]? = some Z12, 0 < 1, [Z26].set 0 (Z26.set 2 (AV.sl 1004 0 Z27)) = Z28, Z3 = Z29, treeLL (Z29.take Z15) = true, Z29.take Z15 = Z29, noRoLL Z29 = true, treeLL (Z9.take Z24) = true, Z9.take Z24 = Z9, noRoLL Z9 = true, treeLL (Z11.take Z27) = true, Z11.take Z27 = Z11, noRoLL Z11 = true, (I a9) = (I a9), litA (I a9) = true] ⟨c16, rfl, rfl, (by decide), rfl, rfl, rfl, (by decide), rfl, (mxE (o := o179) (r := r179) (A := a6) hq17), (treeTn (congrArg List.length (mxE (o := o179) (r := r179) (A := a6) hq17)) (treeM t179)), (takeN (congrArg List.length (mxE (o := o179) (r := r179) (A := a6) hq17))), (noRoM n179), (treeT t142), takeM, (noRoM n142), (treeT t3), takeM, (noRoM n3), rfl, rfl, trivial⟩
noncomputable def impl_State_copied (p1 : GState) : Option GState :=
 Option.bind (slices_Clone_float64_float64 p1.Cells) fun r2 =>
 Option.bind (slices_Clone_int_int p1.Owner) fun r3 =>
 Option.bind (slices_Clone_Thread_Thread p1.Threads) fun r4 =>
 impl_State_copied_l0 r4 FU (GState.mk [] [] [] 0) [] r2 r3 p1.Fault 0
theorem impl_State_copied_m {p1 : GState} {r : GState} (h : impl_State_copied p1 = some r) : Meets Tryz.prog 76 [(AV.agg ((r57 p1)))] (AV.agg (o57 r)) := by
 refine gM Tryz.func76 38 body76 fun E hP hn hx => ?_
 unfold impl_State_copied at h
 obtain ⟨r2, hr2, h⟩ := bnS h
 obtain ⟨r3, hr3, h⟩ := bnS h
 obtain ⟨r4, hr4, h⟩ := bnS h
 exact (let Z0 := (r2.map o142); let Z1 := (AV.own 142 1 Z0); let Z2 := (AV.own 3 1 (r3.map o3)); let Z3 := (r4.map r179); let Z4 := (AV.own 179 6 Z3); let Z5 := (AV.sl 1005 0 (List.length Z3)); let Z6 := (I (r4.length : Int)); let Z7 := (AV.own 179 6 ([].map o179)); let Z8 := [[Z7, nS, nS, (I 0)]]; let Z9 := (AV.own 142 1 ([].map o142)); let Z10 := [[Z7, Z9, nS, (I 0)]]; let Z11 := [[Z7, Z9, (AV.own 3 1 ([].map o3)), (I 0)]]; let Z12 := (AV.sl 1003 0 (List.length Z0)); let Z13 := (AV.sl 1004 0 (List.length (r3.map o3))); let Z14 := (I p1.Fault); let Z15 := [Z5, Z12, Z13, Z14]; let Z16 := [Z5, Z1, Z13, Z14]; let Z17 := [[Z5, Z1, Z2, Z14]]; let Z18 := (mixd o179 r179 [] r4 (Int.toNat 0)); let Z19 := [[(AV.sl 1005 0 (List.length Z18)), Z1, Z2, Z14]]; let Z20 := (AV.ptr 1001 0 1); let Z21 := (AV.ro 1 (p1.Cells.map o142)); let Z22 := (((rtf Z1 [1003]).2.1).map sm); let Z23 := (AV.ptr 1001 0 2); let Z24 := (AV.ro 1 (p1.Owner.map o3)); let Z25 := (((rtf Z2 [1004]).2.1).map sm); let Z26 := (AV.ptr 1001 0 3); let Z27 := (AV.ptr 1001 0 0); let Z28 := (AV.ro 6 (p1.Threads.map r179)); let Z29 := (rtf Z4 [1005]); let Z30 := (AV.agg Z15); let Z31 := (AV.ptr 1006 0 0); let Z32 := ([(1006, (Root.mk 57 4 [[nS, nS, nS, (I 0)]]))].map sm); let Z33 := (GState.mk [] [] [] 0); gT hP hn hx [hW 0 1001, hW 1 1002, ⟨4, .call [] Z1 [1003], none⟩, ⟨7, .call [] Z2 [1004], none⟩, ⟨12, .callS Z4 [1005] Z5 [(1005, ⟨179, 6, Z3⟩)], none⟩, hW 14 1006, hO 18 Z6, ⟨20, .own0 1002 1 [] [nS, nS, (I 0)] 179 6 Z8, none⟩, ⟨20, .own0 1002 1 [Z7] [nS, (I 0)] 142 1 Z10, none⟩, ⟨20, .own0 1002 1 [Z7, Z9] [(I 0)] 3 1 Z11, none⟩, ⟨20, .pack 1006 1003 0 1 Z15 [Z16], none⟩, ⟨20, .pack 1006 1004 0 2 Z16 Z17, none⟩, ⟨20, .eqr 1005 Z18, none⟩, ⟨20, .eqr 1006 Z19, none⟩] [(1002, 1), (1006, 2), (1005, 1005)] [2, 3, 19, 20] [] [Z20 = Z20, Z20 = Z20, Z21 = Z21, Z21 = Z21, Z12 = Z12, Z22 = Z22, Meets Tryz.prog 143 [Z21] Z1, noRo Z1 = true, Z12 = Z12, Z22 = Z22, Meets Tryz.prog 143 [Z21] Z1, noRo Z1 = true, Z23 = Z23, Z23 = Z23, Z23 = Z23, Z23 = Z23, Z24 = Z24, Z24 = Z24, Z24 = Z24, Z24 = Z24, Z13 = Z13, Z25 = Z25, Meets Tryz.prog 111 [Z24] Z2, noRo Z2 = true, Z13 = Z13, Z25 = Z25, Meets Tryz.prog 111 [Z24] Z2, noRo Z2 = true, Z26 = Z26, Z26 = Z26, Z26 = Z26, Z26 = Z26, Z26 = Z26, Z26 = Z26, Z26 = Z26, Z26 = Z26, Z14 = Z14, Z14 = Z14, Z14 = Z14, Z14 = Z14, Z14 = Z14, Z14 = Z14, Z14 = Z14, Z14 = Z14, Z27 = Z27, Z27 = Z27, Z27 = Z27, Z27 = Z27, Z27 = Z27, Z27 = Z27, Z28 = Z28, Z28 = Z28, Z28 = Z28, Z28 = Z28, Z28 = Z28, Z28 = Z28, Z5 = Z5, (([(1005, ⟨179, 6, Z3⟩)]).map sm) = (([(1005, ⟨179, 6, Z3⟩)]).map sm), Meets Tryz.prog 144 [Z28] Z4, treeL [Z28] = true, Z29.1 = Z5, Z29.2.1 = [(1005, ⟨179, 6, Z3⟩)], Z5 = Z5, (([(1005, ⟨179, 6, Z3⟩)]).map sm) = (([(1005, ⟨179, 6, Z3⟩)]).map sm), Meets Tryz.prog 144 [Z28] Z4, treeL [Z28] = true, Z29.1 = Z5, Z29.2.1 = [(1005, ⟨179, 6, Z3⟩)], Z30 = Z30, Z30 = Z30, Z31 = Z31, Z32 = Z32, Z31 = Z31, Z32 = Z32, Z31 = Z31, Z32 = Z32, Z31 = Z31, Z32 = Z32, AV.lit (.int .i64 (((List.length Z3) : Nat) : Int)) = Z6, [[nS, nS, nS, (I 0)]] = List.replicate 1 ([] ++ AV.lit (.slice none 0 0) :: [nS, nS, (I 0)]), List.replicate 1 ([] ++ AV.own 179 6 [] :: [nS, nS, (I 0)]) = Z8, Z8 = List.replicate 1 ([Z7] ++ AV.lit (.slice none 0 0) :: [nS, (I 0)]), List.replicate 1 ([Z7] ++ AV.own 142 1 [] :: [nS, (I 0)]) = Z10, Z10 = List.replicate 1 ([Z7, Z9] ++ AV.lit (.slice none 0 0) :: [(I 0)]), List.replicate 1 ([Z7, Z9] ++ AV.own 3 1 [] :: [(I 0)]) = Z11, [Z15][0]? = some Z15, Z15[1]? = some Z12, treeLL Z0 = true, [Z15].set 0 (Z15.set 1 Z1) = [Z16], [Z16][0]? = some Z16, Z16[2]? = some Z13, treeLL (r3.map o3) = true, [Z16].set 0 (Z16.set 2 Z2) = Z17, Z3 = Z18, Z17 = Z19, RenOK [(1002, 1), (1006, 2), (1005, 1005)] Z11, RenOK [(1002, 1), (1006, 2), (1005, 1005)] Z19, RenOK [(1002, 1), (1006, 2), (1005, 1005)] Z18] ⟨rfl, rfl, rfl, rfl, rfl, rfl, (slices_Clone_float64_float64_m hr2), (by simp +zetaDelta only [noRo, noRoL, noRoM n142, Bool.and_self]), rfl, rfl, (slices_Clone_float64_float64_m hr2), (by simp +zetaDelta only [noRo, noRoL, noRoM n142, Bool.and_self]), rfl, rfl, rfl, rfl, rfl, rfl, rfl, rfl, rfl, rfl, (slices_Clone_int_int_m hr3), (by simp +zetaDelta only [noRo, noRoL, noRoM n3, Bool.and_self]), rfl, rfl, (slices_Clone_int_int_m hr3), (by simp +zetaDelta only [noRo, noRoL, noRoM n3, Bool.and_self]), rfl, rfl, rfl, rfl, rfl, rfl, rfl, rfl, rfl, rfl, rfl, rfl, rfl, rfl, rfl, rfl, rfl, rfl, rfl, rfl, rfl, rfl, rfl, rfl, rfl, rfl, rfl, rfl, rfl, rfl, (slices_Clone_Thread_Thread_m hr4), rfl, rfl, rfl, rfl, rfl, (slices_Clone_Thread_Thread_m hr4), rfl, rfl, rfl, rfl, rfl, rfl, rfl, rfl, rfl, rfl, rfl, rfl, rfl, (lenM r179), rfl, rfl, rfl, rfl, rfl, rfl, rfl, rfl, (treeM t142), rfl, rfl, rfl, (treeM t3), rfl, (mx0 (o := o179) (r := r179)), (congrArg (fun nn => [[(AV.sl 1005 0 nn), Z1, Z2, (I p1.Fault)]]) (show (List.length Z3) = (List.length (mixd o179 r179 [] r4 (Int.toNat 0))) from (congrArg List.length (mx0 (l := r4) (o := o179) (r := r179))))), (rok (treeB t57 Z33)), (.inr rfl), (rok (mxT t179 tr179)), trivial⟩ (impl_State_copied_l0_m hP hn hx r4 FU Z33 [] r2 r3 p1.Fault 0 _ h))
noncomputable def body145 : Code := match Tryz.f145.body with | some c => c | none => .skip
noncomputable def impl_Prog_next (p1 : GProg) (p2 : GThread) : Option (GOp × Bool) :=
 Option.bind (rd p1.Routines p2.Routine) fun x3 =>
 if (decide (p2.Pc < (x3.length : Int))) = true then
  Option.bind (rd x3 p2.Pc) fun x5 =>
  some (x5, true)
 else
  some ((GOp.mk 0 0 0 0), false)
theorem impl_Prog_next_m {p1 : GProg} {p2 : GThread} {r : (GOp × Bool)} (h : impl_Prog_next p1 p2 = some r) : Meets Tryz.prog 145 [(AV.agg ((r34 p1))), (AV.agg ((r179 p2)))] (AV.tup [(AV.agg (o144 r.1)), (B r.2)]) := by
 refine gM Tryz.func145 24 body145 fun E hP hn hx => ?_
 unfold impl_Prog_next at h
 obtain ⟨x3, hx3, h⟩ := bnS h
 let Z0 := (I (x3.length : Int)); let Z1 := (decide (p2.Pc < (x3.length : Int))); let Z3 := (AV.agg [(I 0), (I 0), (I 0), (FK 0)])
 let H1 : List Hn := [hW 0 1001, hW 1 1002, hW 2 1003, ⟨8, .row (r141 x3), none⟩, hO 14 Z0]
 let P2 : List Prop := [(0 : Int) ≤ p2.Routine, (p1.Routines.map r141)[(Int.toNat p2.Routine)]? = some (r141 x3), AV.lit (.int .i64 (((x3.map o144).length : Nat) : Int)) = Z0]
 have AP2 : AllP P2 := ⟨(rd0 hx3), (rdM r141 hx3), (lenM o144), trivial⟩
 rcases itS h with ⟨c4, h⟩ | ⟨c6, h⟩
 ·obtain ⟨x5, hx5, h⟩ := bnS h
  obtain rfl := sj h
  exact (let Z2 := (AV.agg ((o144 x5))); gR hP hn (H1 ++ [hT 16, ⟨20, .row (o144 x5), none⟩]) [] (.agg [.raw, .raw]) (P2 ++ [Z1 = true, (0 : Int) ≤ p2.Pc, (x3.map o144)[(Int.toNat p2.Pc)]? = some (o144 x5), Z2 = Z2, litA Z2 = true, (B true) = (B true), litA (B true) = true]) (andP AP2 ⟨c4, (rd0 hx5), (rdM o144 hx5), rfl, rfl, rfl, rfl, trivial⟩))
 ·obtain rfl := sj h
  exact gR hP hn (H1 ++ [hF 16]) [] (.agg [.raw, .raw]) (P2 ++ [Z1 = false, Z3 = Z3, litA Z3 = true, (B false) = (B false), litA (B false) = true]) (andP AP2 ⟨c6, rfl, rfl, rfl, rfl, trivial⟩)
noncomputable def body237 : Code := match Tryz.f237.body with | some c => c | none => .skip
noncomputable def math_Abs (p1 : Nat) : Option Nat :=
 Option.bind (nNaN p1) fun q2 =>
 some (Int.toNat (iandn .u64 ((p1 : Nat) : Int) 9223372036854775808))
theorem math_Abs_m {p1 : Nat} {r : Nat} (h : math_Abs p1 = some r) : Meets Tryz.prog 237 [(FK p1)] (FK r) := by
 refine gM Tryz.func237 7 body237 fun E hP hn hx => ?_
 unfold math_Abs at h
 obtain ⟨q2, hq2, h⟩ := bnS h
 obtain rfl := sj h
 exact (let Z0 := ((p1 : Nat) : Int); gR hP hn [⟨2, .xt (IK .u64 Z0), none⟩, ⟨4, .xt (FK (Int.toNat (iandn .u64 Z0 9223372036854775808))), none⟩] [] .raw [ExtS Tryz.prog 209 (FK p1) (IK .u64 Z0), ExtS Tryz.prog 242 (IK .u64 (iandn .u64 Z0 9223372036854775808)) (FK (Int.toNat (iandn .u64 Z0 9223372036854775808))), (FK (Int.toNat (iandn .u64 Z0 9223372036854775808))) = (FK (Int.toNat (iandn .u64 Z0 9223372036854775808))), litA (FK (Int.toNat (iandn .u64 Z0 9223372036854775808))) = true] ⟨(xBits Tryz.func209 (by kernel_rfl) (by kernel_rfl) (by kernel_rfl) (by kernel_rfl) (nNaNE hq2)), (xFrom Tryz.func242 (by kernel_rfl) (by kernel_rfl) (by kernel_rfl) (by kernel_rfl)), rfl, rfl, trivial⟩)
noncomputable def body229 : Code := match Tryz.f229.body with | some c => c | none => .skip
noncomputable def math_IsInf__0 (p1 : Nat) : Option Bool :=
 Option.bind (math_Abs p1) fun r2 =>
 some ((fcmp r2 9218868437227405311) == some .gt)
theorem math_IsInf__0_m {p1 : Nat} {r : Bool} (h : math_IsInf__0 p1 = some r) : Meets Tryz.prog 229 [(FK p1), (I 0)] (B r) := by
 refine gM Tryz.func229 15 body229 fun E hP hn hx => ?_
 unfold math_IsInf__0 at h
 obtain ⟨r2, hr2, h⟩ := bnS h
 obtain rfl := sj h
 exact (let Z0 := (fcmp r2 9218868437227405311); gR hP hn [⟨5, .callV [] (FK r2), none⟩, ⟨8, .bin (B (Z0 == some .gt)), none⟩] [] .raw [Meets Tryz.prog 237 [(FK p1)] (FK r2), litA (FK r2) = true, BinS Tryz.prog .gtr 142 (FK r2) (FK 9218868437227405311) (B (Z0 == some .gt)), (B (Z0 == some .gt)) = (B (Z0 == some .gt)), litA (B (Z0 == some .gt)) = true] ⟨(math_Abs_m hr2), rfl, fGtr, rfl, rfl, trivial⟩)
noncomputable def body208 : Code := match Tryz.f208.body with | some c => c | none => .skip
noncomputable def math_IsNaN (p1 : Nat) : Option Bool :=
 some ((fcmp p1 p1) != some .eq)
theorem math_IsNaN_m {p1 : Nat} {r : Bool} (h : math_IsNaN p1 = some r) : Meets Tryz.prog 208 [(FK p1)] (B r) := by
 refine gM Tryz.func208 6 body208 fun E hP hn hx => ?_
 unfold math_IsNaN at h
 obtain rfl := sj h
 exact (let Z0 := (fcmp p1 p1); gR hP hn [⟨3, .bin (B (Z0 != some .eq)), none⟩] [] .raw [BinS Tryz.prog .neq 142 (FK p1) (FK p1) (B (Z0 != some .eq)), (B (Z0 != some .eq)) = (B (Z0 != some .eq)), litA (B (Z0 != some .eq)) = true] ⟨fNeq, rfl, rfl, trivial⟩)
noncomputable def body230 : Code := match Tryz.f230.body with | some c => c | none => .skip
noncomputable def math_Trunc (p1 : Nat) : Option Nat :=
 Option.bind (nNaN p1) fun q2 =>
 some (fTr p1)
theorem math_Trunc_m {p1 : Nat} {r : Nat} (h : math_Trunc p1 = some r) : Meets Tryz.prog 230 [(FK p1)] (FK r) := by
 refine gM Tryz.func230 7 body230 fun E hP hn hx => ?_
 unfold math_Trunc at h
 obtain ⟨q2, hq2, h⟩ := bnS h
 obtain rfl := sj h
 exact gR hP hn [⟨3, .xt (FK (fTr p1)), none⟩] [] .raw [ExtS Tryz.prog 238 (FK p1) (FK (fTr p1)), (FK (fTr p1)) = (FK (fTr p1)), litA (FK (fTr p1)) = true] ⟨(xTrunc Tryz.func238 (by kernel_rfl) (by kernel_rfl) (by kernel_rfl) (by kernel_rfl) (nNaNE hq2)), rfl, rfl, trivial⟩
noncomputable def body206 : Code := match Tryz.f206.body with | some c => c | none => .skip
noncomputable def impl_KindOf (p1 : Nat) : Option Int :=
 Option.bind (math_IsNaN p1) fun r2 =>
 if r2 = true then
  some 0
 else
  Option.bind (math_IsInf__0 p1) fun r5 =>
  if r5 = true then
   some 1
  else
   if ((fcmp p1 0) == some .eq) = true then
    some 2
   else
    Option.bind (math_Trunc p1) fun r10 =>
    if ((fcmp p1 r10) == some .eq) = true then
     some 3
    else
     some 4
theorem impl_KindOf_m {p1 : Nat} {r : Int} (h : impl_KindOf p1 = some r) : Meets Tryz.prog 206 [(FK p1)] (I r) := by
 refine gM Tryz.func206 17 body206 fun E hP hn hx => ?_
 unfold impl_KindOf at h
 obtain ⟨r2, hr2, h⟩ := bnS h
 let Z0 := (fcmp p1 0)
 let H1 : List Hn := [⟨2, .callV [] (B r2), none⟩]
 let P2 : List Prop := [Meets Tryz.prog 208 [(FK p1)] (B r2), litA (B r2) = true]
 have AP2 : AllP P2 := ⟨(math_IsNaN_m hr2), rfl, trivial⟩
 rcases itS h with ⟨c3, h⟩ | ⟨c4, h⟩
 ·obtain rfl := sj h
  exact gR hP hn (H1 ++ [hT 4]) [] .raw (P2 ++ [r2 = true, (I 0) = (I 0), litA (I 0) = true]) (andP AP2 ⟨c3, rfl, rfl, trivial⟩)
 ·obtain ⟨r5, hr5, h⟩ := bnS h
  let H3 : List Hn := H1 ++ [hF 4, ⟨6, .callV [] (B r5), none⟩]
  let P4 : List Prop := P2 ++ [r2 = false, Meets Tryz.prog 229 [(FK p1), (I 0)] (B r5), litA (B r5) = true]
  have AP4 : AllP P4 := andP AP2 ⟨c4, (math_IsInf__0_m hr5), rfl, trivial⟩
  rcases itS h with ⟨c6, h⟩ | ⟨c7, h⟩
  ·obtain rfl := sj h
   exact gR hP hn (H3 ++ [hT 8]) [] .raw (P4 ++ [r5 = true, (I 1) = (I 1), litA (I 1) = true]) (andP AP4 ⟨c6, rfl, rfl, trivial⟩)
  ·let H5 : List Hn := H3 ++ [hF 8, ⟨10, .bin (B (Z0 == some .eq)), none⟩]
   let P6 : List Prop := P4 ++ [r5 = false, BinS Tryz.prog .eql 142 (FK p1) (FK 0) (B (Z0 == some .eq))]
   have AP6 : AllP P6 := andP AP4 ⟨c7, fEql, trivial⟩
   rcases itS h with ⟨c8, h⟩ | ⟨c9, h⟩
   ·obtain rfl := sj h
    exact gR hP hn (H5 ++ [hT 12]) [] .raw (P6 ++ [(Z0 == some .eq) = true, (I 2) = (I 2), litA (I 2) = true]) (andP AP6 ⟨c8, rfl, rfl, trivial⟩)
   ·obtain ⟨r10, hr10, h⟩ := bnS h
    let Z1 := (fcmp p1 r10)
    let H7 : List Hn := H5 ++ [hF 12, ⟨15, .callV [] (FK r10), none⟩, ⟨16, .bin (B (Z1 == some .eq)), none⟩]
    let P8 : List Prop := P6 ++ [(Z0 == some .eq) = false, Meets Tryz.prog 230 [(FK p1)] (FK r10), litA (FK r10) = true, BinS Tryz.prog .eql 142 (FK p1) (FK r10) (B (Z1 == some .eq))]
    have AP8 : AllP P8 := andP AP6 ⟨c9, (math_Trunc_m hr10), rfl, fEql, trivial⟩
    rcases itS h with ⟨c11, h⟩ | ⟨c12, h⟩
    ·obtain rfl := sj h
     exact gR hP hn (H7 ++ [hT 18]) [] .raw (P8 ++ [(Z1 == some .eq) = true, (I 3) = (I 3), litA (I 3) = true]) (andP AP8 ⟨c11, rfl, rfl, trivial⟩)
    ·obtain rfl := sj h
     exact gR hP hn (H7 ++ [hF 18]) [] .raw (P8 ++ [(Z1 == some .eq) = false, (I 4) = (I 4), litA (I 4) = true]) (andP AP8 ⟨c12, rfl, rfl, trivial⟩)
noncomputable def body186 : Code := match Tryz.f186.body with | some c => c | none => .skip
noncomputable def impl_ToIndex (p1 : Nat) (p2 : Int) : Option (Int × Bool) :=
 Option.bind (impl_KindOf p1) fun r3 =>
 Option.bind (impl_in p2 1 1000) fun r4 =>
 if (!r4) = true then
  some (0, false)
 else
  if (r3 != 2) = true then
   if (r3 != 3) = true then
    some (0, false)
   else
    if ((fcmp p1 0) == some .lt) = true then
     some (0, false)
    else
     if ((fcmp p1 (fOf p2)) == some .gt || (fcmp p1 (fOf p2)) == some .eq) = true then
      some (0, false)
     else
      Option.bind (fTo p1) fun x14 =>
      some (x14, true)
  else
   if ((fcmp p1 0) == some .lt) = true then
    some (0, false)
   else
    if ((fcmp p1 (fOf p2)) == some .gt || (fcmp p1 (fOf p2)) == some .eq) = true then
     some (0, false)
    else
     Option.bind (fTo p1) fun x20 =>
     some (x20, true)
theorem impl_ToIndex_m {p1 : Nat} {p2 : Int} {r : (Int × Bool)} (h : impl_ToIndex p1 p2 = some r) : Meets Tryz.prog 186 [(FK p1), (I p2)] (AV.tup [(I r.1), (B r.2)]) := by
 refine gM Tryz.func186 32 body186 fun E hP hn hx => ?_
 unfold impl_ToIndex at h
 obtain ⟨r3, hr3, h⟩ := bnS h
 obtain ⟨r4, hr4, h⟩ := bnS h
 let Z0 := (B true); let Z1 := (I 0); let Z2 := (B false); let Z3 := (B (r3 != 2)); let Z4 := (fcmp p1 0); let Z5 := (fOf p2); let Z6 := (fcmp p1 Z5)
 let H1 : List Hn := [⟨3, .callV [] (I r3), none⟩, ⟨6, .callV [] (B r4), none⟩]
 let P2 : List Prop := [Meets Tryz.prog 206 [(FK p1)] (I r3), litA (I r3) = true, Meets Tryz.prog 53 [(I p2), (I 1), (I 1000)] (B r4), litA (B r4) = true]
 have AP2 : AllP P2 := ⟨(impl_KindOf_m hr3), rfl, (impl_in_m hr4), rfl, trivial⟩
 rcases itS h with ⟨c5, h⟩ | ⟨c6, h⟩
 ·obtain rfl := sj h
  exact gR hP hn (H1 ++ [hO 8 Z0]) [] (.agg [.raw, .raw]) (P2 ++ [(B (!r4)) = Z0, Z1 = Z1, litA Z1 = true, Z2 = Z2, litA Z2 = true]) (andP AP2 ⟨(litB c5), rfl, rfl, rfl, rfl, trivial⟩)
 ·let H3 : List Hn := H1 ++ [hO 8 Z2]
  let P4 : List Prop := P2 ++ [(B (!r4)) = Z2]
  have AP4 : AllP P4 := andP AP2 ⟨(litB c6), trivial⟩
  rcases itS h with ⟨c7, h⟩ | ⟨c15, h⟩
  ·rcases itS h with ⟨c8, h⟩ | ⟨c9, h⟩
   ·obtain rfl := sj h
    exact gR hP hn (H3 ++ [hO 11 Z0, hO 16 Z0]) [] (.agg [.raw, .raw]) (P4 ++ [Z3 = Z0, (B (r3 != 3)) = Z0, Z1 = Z1, litA Z1 = true, Z2 = Z2, litA Z2 = true]) (andP AP4 ⟨(litB c7), (litB c8), rfl, rfl, rfl, rfl, trivial⟩)
   ·let H5 : List Hn := H3 ++ [hO 11 Z0, hO 16 Z2, ⟨18, .bin (B (Z4 == some .lt)), none⟩]
    let P6 : List Prop := P4 ++ [Z3 = Z0, (B (r3 != 3)) = Z2, BinS Tryz.prog .lss 142 (FK p1) (FK 0) (B (Z4 == some .lt))]
    have AP6 : AllP P6 := andP AP4 ⟨(litB c7), (litB c9), fLss, trivial⟩
    rcases itS h with ⟨c10, h⟩ | ⟨c11, h⟩
    ·obtain rfl := sj h
     exact gR hP hn (H5 ++ [hO 20 Z0]) [] (.agg [.raw, .raw]) (P6 ++ [(B (Z4 == some .lt)) = Z0, Z1 = Z1, litA Z1 = true, Z2 = Z2, litA Z2 = true]) (andP AP6 ⟨(litB c10), rfl, rfl, rfl, rfl, trivial⟩)
    ·let H7 : List Hn := H5 ++ [hO 20 Z2, ⟨23, .cnv (FK Z5), none⟩, ⟨24, .bin (B (Z6 == some .gt || Z6 == some .eq)), none⟩]
     let P8 : List Prop := P6 ++ [(B (Z4 == some .lt)) = Z2, CnvS Tryz.prog 3 142 (I p2) (FK Z5), BinS Tryz.prog .geq 142 (FK p1) (FK Z5) (B (Z6 == some .gt || Z6 == some .eq))]
     have AP8 : AllP P8 := andP AP6 ⟨(litB c11), (cIF (P := Tryz.prog) ty3 ty142), fGeq, trivial⟩
     rcases itS h with ⟨c12, h⟩ | ⟨c13, h⟩
     ·obtain rfl := sj h
      exact gR hP hn (H7 ++ [hT 26]) [] (.agg [.raw, .raw]) (P8 ++ [(Z6 == some .gt || Z6 == some .eq) = true, Z1 = Z1, litA Z1 = true, Z2 = Z2, litA Z2 = true]) (andP AP8 ⟨c12, rfl, rfl, rfl, rfl, trivial⟩)
     ·obtain ⟨x14, hx14, h⟩ := bnS h
      obtain rfl := sj h
      exact gR hP hn (H7 ++ [hF 26, ⟨28, .cnv (I x14), none⟩]) [] (.agg [.raw, .raw]) (P8 ++ [(Z6 == some .gt || Z6 == some .eq) = false, CnvS Tryz.prog 142 3 (FK p1) (I x14), (I x14) = (I x14), litA (I x14) = true, Z0 = Z0, litA Z0 = true]) (andP AP8 ⟨c13, (cFI (P := Tryz.prog) ty142 ty3 hx14), rfl, rfl, rfl, rfl, trivial⟩)
  ·let H9 : List Hn := H3 ++ [hO 11 Z2, ⟨18, .bin (B (Z4 == some .lt)), none⟩]
   let P10 : List Prop := P4 ++ [Z3 = Z2, BinS Tryz.prog .lss 142 (FK p1) (FK 0) (B (Z4 == some .lt))]
   have AP10 : AllP P10 := andP AP4 ⟨(litB c15), fLss, trivial⟩
   rcases itS h with ⟨c16, h⟩ | ⟨c17, h⟩
   ·obtain rfl := sj h
    exact gR hP hn (H9 ++ [hO 20 Z0]) [] (.agg [.raw, .raw]) (P10 ++ [(B (Z4 == some .lt)) = Z0, Z1 = Z1, litA Z1 = true, Z2 = Z2, litA Z2 = true]) (andP AP10 ⟨(litB c16), rfl, rfl, rfl, rfl, trivial⟩)
   ·let H11 : List Hn := H9 ++ [hO 20 Z2, ⟨23, .cnv (FK Z5), none⟩, ⟨24, .bin (B (Z6 == some .gt || Z6 == some .eq)), none⟩]
    let P12 : List Prop := P10 ++ [(B (Z4 == some .lt)) = Z2, CnvS Tryz.prog 3 142 (I p2) (FK Z5), BinS Tryz.prog .geq 142 (FK p1) (FK Z5) (B (Z6 == some .gt || Z6 == some .eq))]
    have AP12 : AllP P12 := andP AP10 ⟨(litB c17), (cIF (P := Tryz.prog) ty3 ty142), fGeq, trivial⟩
    rcases itS h with ⟨c18, h⟩ | ⟨c19, h⟩
    ·obtain rfl := sj h
     exact gR hP hn (H11 ++ [hT 26]) [] (.agg [.raw, .raw]) (P12 ++ [(Z6 == some .gt || Z6 == some .eq) = true, Z1 = Z1, litA Z1 = true, Z2 = Z2, litA Z2 = true]) (andP AP12 ⟨c18, rfl, rfl, rfl, rfl, trivial⟩)
    ·obtain ⟨x20, hx20, h⟩ := bnS h
     obtain rfl := sj h
     exact gR hP hn (H11 ++ [hF 26, ⟨28, .cnv (I x20), none⟩]) [] (.agg [.raw, .raw]) (P12 ++ [(Z6 == some .gt || Z6 == some .eq) = false, CnvS Tryz.prog 142 3 (FK p1) (I x20), (I x20) = (I x20), litA (I x20) = true, Z0 = Z0, litA Z0 = true]) (andP AP12 ⟨c19, (cFI (P := Tryz.prog) ty142 ty3 hx20), rfl, rfl, rfl, rfl, trivial⟩)
noncomputable def body183 : Code := match Tryz.f183.body with | some c => c | none => .skip
noncomputable def impl_State_joined (p1 : GState) (p2 : GThread) : Option (Int × Bool) :=
 if ((p2.Stack.length : Int) == 0) = true then
  some (0, false)
 else
  Option.bind (rd p2.Stack (w64 ((p2.Stack.length : Int) - 1))) fun x5 =>
  Option.bind (impl_ToIndex x5 (p1.Threads.length : Int)) fun r6 =>
  some (r6.1, r6.2)
theorem impl_State_joined_m {p1 : GState} {p2 : GThread} {r : (Int × Bool)} (h : impl_State_joined p1 p2 = some r) : Meets Tryz.prog 183 [(AV.rop (r57 p1) 0), (AV.agg ((r179 p2)))] (AV.tup [(I r.1), (B r.2)]) := by
 refine gM Tryz.func183 26 body183 fun E hP hn hx => ?_
 unfold impl_State_joined at h
 let Z0 := (((p2.Stack.map o142).length : Nat) : Int); let Z1 := (p2.Stack.length : Int); let Z2 := (I (p1.Threads.length : Int))
 let P1 : List Prop := [AV.lit (.int .i64 Z0) = (I Z1)]
 have AP1 : AllP P1 := ⟨(lenM o142), trivial⟩
 rcases itS h with ⟨c3, h⟩ | ⟨c4, h⟩
 ·obtain rfl := sj h
  exact gR hP hn [hW 0 1001, hO 5 (I Z1), hT 7] [] (.agg [.raw, .raw]) (P1 ++ [(Z1 == 0) = true, (I 0) = (I 0), litA (I 0) = true, (B false) = (B false), litA (B false) = true]) (andP AP1 ⟨c3, rfl, rfl, rfl, rfl, trivial⟩)
 ·obtain ⟨x5, hx5, h⟩ := bnS h
  obtain ⟨r6, hr6, h⟩ := bnS h
  obtain rfl := sj h
  exact (let Z3 := (AV.tup [(I r6.1), (B r6.2)]); gR hP hn [hW 0 1001, hO 5 (I Z1), hF 7, hO 12 (I Z1), ⟨14, .row (o142 x5), none⟩, hO 20 Z2, ⟨21, .callV [] Z3, none⟩] [] (.agg [.raw, .raw]) (P1 ++ [(Z1 == 0) = false, AV.lit (.int .i64 Z0) = (I Z1), (0 : Int) ≤ (w64 (Z1 - 1)), (p2.Stack.map o142)[(Int.toNat (w64 (Z1 - 1)))]? = some (o142 x5), AV.lit (.int .i64 (((p1.Threads.map r179).length : Nat) : Int)) = Z2, Meets Tryz.prog 186 [(FK x5), Z2] Z3, litA Z3 = true, (I r6.1) = (I r6.1), litA (I r6.1) = true, (B r6.2) = (B r6.2), litA (B r6.2) = true]) (andP AP1 ⟨c4, (lenM o142), (rd0 hx5), (rdM o142 hx5), (lenM r179), (impl_ToIndex_m hr6), rfl, rfl, rfl, rfl, rfl, trivial⟩))
noncomputable def body142 : Code := match Tryz.f142.body with | some c => c | none => .skip
noncomputable def impl_State_waits_j0  (p1 : GState) (r8 : (GOp × Bool))  : Option (Int × Bool) :=
 Option.bind (rd p1.Owner r8.1.A) fun x11 =>
 some (x11, (decide (x11 ≥ 0)))
theorem impl_State_waits_j0_m {E : Env} (hP : E.P = Tryz.prog) (hn : E.n = 91) (hx : FX E []) (p1 : GState) (r8 : (GOp × Bool))   (r : (Int × Bool)) (h : impl_State_waits_j0 p1 r8  = some r) : WAt E body142 (FQ (RetE Θ Tryz.f142.results.toList [] [] (AV.tup [(I r.1), (B r.2)]) E)) [true, false, true, false, true, true, true, false, true, false, true, false] ⟨[(0, (AV.rop (r57 p1) 0)), (8, (AV.ptr 1 0 0))], [(1, some ⟨144, 4, [((o144 r8.1))]⟩)], [1, JJ]⟩ := by
 unfold impl_State_waits_j0 at h
 obtain ⟨x11, hx11, h⟩ := bnS h
 obtain rfl := sj h
 exact (let Z0 := (B (decide (x11 ≥ 0))); gR hP hn [⟨6, .row (o3 x11), none⟩, ⟨14, .row (o3 x11), none⟩] [] (.agg [.raw, .raw]) [(0 : Int) ≤ r8.1.A, (p1.Owner.map o3)[(Int.toNat r8.1.A)]? = some (o3 x11), (0 : Int) ≤ r8.1.A, (p1.Owner.map o3)[(Int.toNat r8.1.A)]? = some (o3 x11), (I x11) = (I x11), litA (I x11) = true, Z0 = Z0, litA Z0 = true] ⟨(rd0 hx11), (rdM o3 hx11), (rd0 hx11), (rdM o3 hx11), rfl, rfl, rfl, rfl, trivial⟩)
noncomputable def impl_State_waits_j2  (p1 : GState) (p3 : GThread)  : Option (Int × Bool) :=
 Option.bind (impl_State_joined p1 p3) fun r15 =>
 if r15.2 = true then
  Option.bind (rd p1.Threads r15.1) fun x17 =>
  some (r15.1, (x17.State != 2))
 else
  some (r15.1, false)
theorem impl_State_waits_j2_m {E : Env} (hP : E.P = Tryz.prog) (hn : E.n = 91) (hx : FX E []) (p1 : GState) (p3 : GThread)   (r : (Int × Bool)) (h : impl_State_waits_j2 p1 p3  = some r) : WAt E body142 (FQ (RetE Θ Tryz.f142.results.toList [] [] (AV.tup [(I r.1), (B r.2)]) E)) [true, false, true, false, true, true, true, false, true, false, true, true, true, false] ⟨[(0, (AV.rop (r57 p1) 0)), (5, (AV.ptr 1 0 0))], [(1, some ⟨179, 6, [((r179 p3))]⟩)], [1, JJ]⟩ := by
 unfold impl_State_waits_j2 at h
 obtain ⟨r15, hr15, h⟩ := bnS h
 let Z0 := (I r15.1); let Z1 := (AV.tup [Z0, (B r15.2)]); let Z3 := (B false)
 let P1 : List Prop := [Meets Tryz.prog 183 [(AV.rop (r57 p1) 0), (AV.agg ((r179 p3)))] Z1, litA Z1 = true]
 have AP1 : AllP P1 := ⟨(impl_State_joined_m hr15), rfl, trivial⟩
 rcases itS h with ⟨c16, h⟩ | ⟨c18, h⟩
 ·obtain ⟨x17, hx17, h⟩ := bnS h
  obtain rfl := sj h
  exact (let Z2 := (B (x17.State != 2)); gR hP hn [⟨2, .callV [[]] Z1, none⟩, hO 10 (B true), ⟨16, .row (r179 x17), none⟩] [] (.agg [.raw, .raw]) (P1 ++ [(B r15.2) = (B true), (0 : Int) ≤ r15.1, (p1.Threads.map r179)[(Int.toNat r15.1)]? = some (r179 x17), Z0 = Z0, litA Z0 = true, Z2 = Z2, litA Z2 = true]) (andP AP1 ⟨(litB c16), (rd0 hx17), (rdM r179 hx17), rfl, rfl, rfl, rfl, trivial⟩))
 ·obtain rfl := sj h
  exact gR hP hn [⟨2, .callV [[]] Z1, none⟩, hO 10 Z3] [] (.agg [.raw, .raw]) (P1 ++ [(B r15.2) = Z3, Z0 = Z0, litA Z0 = true, Z3 = Z3, litA Z3 = true]) (andP AP1 ⟨(litB c18), rfl, rfl, rfl, rfl, trivial⟩)
noncomputable def impl_State_waits_j1  (p1 : GState) (p3 : GThread) (r8 : (GOp × Bool))  : Option (Int × Bool) :=
 if r8.2 = true then
  if (r8.1.Code == 15) = true then
   impl_State_waits_j2 p1 p3
  else
   some (0, false)
 else
  some (0, false)
theorem impl_State_waits_j1_m {E : Env} (hP : E.P = Tryz.prog) (hn : E.n = 91) (hx : FX E []) (p1 : GState) (p3 : GThread) (r8 : (GOp × Bool))   (r : (Int × Bool)) (h : impl_State_waits_j1 p1 p3 r8  = some r) : WAt E body142 (FQ (RetE Θ Tryz.f142.results.toList [] [] (AV.tup [(I r.1), (B r.2)]) E)) [true, false, true, false, true, true, true, false, true, false, true, true] ⟨[(0, (AV.rop (r57 p1) 0)), (5, (AV.ptr 1 0 0)), (8, (AV.ptr 2 0 0)), (9, (B r8.2))], [(1, some ⟨179, 6, [((r179 p3))]⟩), (2, some ⟨144, 4, [((o144 r8.1))]⟩)], [1, 2, JJ]⟩ := by
 unfold impl_State_waits_j1 at h
 let Z0 := (B false)
 rcases itS h with ⟨c13, h⟩ | ⟨c20, h⟩
 ·rcases itS h with ⟨c14, h⟩ | ⟨c19, h⟩
  ·exact gT hP hn hx [hO 1 (B true), hT 7] [(1, 1)] [0, 5] [] [(B r8.2) = (B true), (r8.1.Code == 15) = true, RenOK [(1, 1)] [((r179 p3))]] ⟨(litB c13), c14, (rok (treeB t179 p3)), trivial⟩ (impl_State_waits_j2_m hP hn hx p1 p3  _ h)
  ·obtain rfl := sj h
   exact gR hP hn [hO 1 (B true), hF 7] [] (.agg [.raw, .raw]) [(B r8.2) = (B true), (r8.1.Code == 15) = false, (I 0) = (I 0), litA (I 0) = true, Z0 = Z0, litA Z0 = true] ⟨(litB c13), c19, rfl, rfl, rfl, rfl, trivial⟩
 ·obtain rfl := sj h
  exact gR hP hn [hO 1 Z0] [] (.agg [.raw, .raw]) [(B r8.2) = Z0, (I 0) = (I 0), litA (I 0) = true, Z0 = Z0, litA Z0 = true] ⟨(litB c20), rfl, rfl, rfl, rfl, trivial⟩
noncomputable def impl_State_waits (p1 : GState) (p2 : GProg) (p3 : GThread) : Option (Int × Bool) :=
 if (p3.State == 4) = true then
  Option.bind (rd p1.Owner p3.Lock) fun x5 =>
  some (x5, (decide (x5 ≥ 0)))
 else
  if (p3.State == 1) = true then
   Option.bind (impl_Prog_next p2 p3) fun r8 =>
   if r8.2 = true then
    if (r8.1.Code == 12) = true then
     impl_State_waits_j0 p1 r8
    else
     impl_State_waits_j1 p1 p3 r8
   else
    impl_State_waits_j1 p1 p3 r8
  else
   some (0, false)
theorem impl_State_waits_m {p1 : GState} {p2 : GProg} {p3 : GThread} {r : (Int × Bool)} (h : impl_State_waits p1 p2 p3 = some r) : Meets Tryz.prog 142 [(AV.rop (r57 p1) 0), (AV.agg ((r34 p2))), (AV.agg ((r179 p3)))] (AV.tup [(I r.1), (B r.2)]) := by
 refine gM Tryz.func142 91 body142 fun E hP hn hx => ?_
 unfold impl_State_waits at h
 let Z0 := (p3.State == 4); let Z4 := (B false)
 let H1 : List Hn := [hW 0 1001, hW 1 1002]
 rcases itS h with ⟨c4, h⟩ | ⟨c6, h⟩
 ·obtain ⟨x5, hx5, h⟩ := bnS h
  obtain rfl := sj h
  exact (let Z1 := (B (decide (x5 ≥ 0))); gR hP hn (H1 ++ [hT 8, ⟨15, .row (o3 x5), none⟩, ⟨23, .row (o3 x5), none⟩]) [] (.agg [.raw, .raw]) [Z0 = true, (0 : Int) ≤ p3.Lock, (p1.Owner.map o3)[(Int.toNat p3.Lock)]? = some (o3 x5), (0 : Int) ≤ p3.Lock, (p1.Owner.map o3)[(Int.toNat p3.Lock)]? = some (o3 x5), (I x5) = (I x5), litA (I x5) = true, Z1 = Z1, litA Z1 = true] ⟨c4, (rd0 hx5), (rdM o3 hx5), (rd0 hx5), (rdM o3 hx5), rfl, rfl, rfl, rfl, trivial⟩)
 ·rcases itS h with ⟨c7, h⟩ | ⟨c22, h⟩
  ·obtain ⟨r8, hr8, h⟩ := bnS h
   let Z2 := (AV.tup [(AV.agg (o144 r8.1)), (B r8.2)]); let Z3 := ((o144 r8.1))
   let H2 : List Hn := H1 ++ [hF 8, hT 11, ⟨14, .callV [[], []] Z2, none⟩, hW 18 1003]
   let P3 : List Prop := [Z0 = false, (p3.State == 1) = true, Meets Tryz.prog 145 [(AV.agg ((r34 p2))), (AV.agg ((r179 p3)))] Z2, litA Z2 = true]
   have AP3 : AllP P3 := ⟨c6, c7, (impl_Prog_next_m hr8), rfl, trivial⟩
   rcases itS h with ⟨c9, h⟩ | ⟨c21, h⟩
   ·rcases itS h with ⟨c10, h⟩ | ⟨c12, h⟩
    ·exact gT hP hn hx (H2 ++ [hO 22 (B true), hT 28]) [(1003, 1)] [0, 8] [] (P3 ++ [(B r8.2) = (B true), (r8.1.Code == 12) = true, RenOK [(1003, 1)] [Z3]]) (andP AP3 ⟨(litB c9), c10, (rok rfl), trivial⟩) (impl_State_waits_j0_m hP hn hx p1 r8  _ h)
    ·exact gT hP hn hx (H2 ++ [hO 22 (B true), hF 28]) [(1002, 1), (1003, 2)] [0, 5, 8, 9] [] (P3 ++ [(B r8.2) = (B true), (r8.1.Code == 12) = false, RenOK [(1002, 1), (1003, 2)] [((r179 p3))], RenOK [(1002, 1), (1003, 2)] [Z3]]) (andP AP3 ⟨(litB c9), c12, (rok (treeB t179 p3)), (rok rfl), trivial⟩) (impl_State_waits_j1_m hP hn hx p1 p3 r8  _ h)
   ·exact gT hP hn hx (H2 ++ [hO 22 Z4]) [(1002, 1), (1003, 2)] [0, 5, 8, 9] [] (P3 ++ [(B r8.2) = Z4, RenOK [(1002, 1), (1003, 2)] [((r179 p3))], RenOK [(1002, 1), (1003, 2)] [Z3]]) (andP AP3 ⟨(litB c21), (rok (treeB t179 p3)), (rok rfl), trivial⟩) (impl_State_waits_j1_m hP hn hx p1 p3 r8  _ h)
  ·obtain rfl := sj h
   exact gR hP hn (H1 ++ [hF 8, hF 11]) [] (.agg [.raw, .raw]) [Z0 = false, (p3.State == 1) = false, (I 0) = (I 0), litA (I 0) = true, Z4 = Z4, litA Z4 = true] ⟨c6, c22, rfl, rfl, rfl, rfl, trivial⟩
noncomputable def body75 : Code := match Tryz.f75.body with | some c => c | none => .skip
noncomputable def impl_State_enabled_l0  (p1 : GState) : Nat → GProg → (List Int) → Int → Option (List Int)
 | 0, _, _, _ => none
 | n + 1, a3, a4, v5 =>
 if (decide (v5 < (p1.Threads.length : Int))) = true then
  Option.bind (rd p1.Threads v5) fun x7 =>
  Option.bind (impl_State_waits p1 a3 x7) fun r8 =>
  if (p1.Fault == 0) = true then
   if (!r8.2) = true then
    if (x7.State == 1) = true then
     Option.bind (app a4 [v5]) fun l12 =>
     impl_State_enabled_l0 p1 n a3 l12 (w64 (v5 + 1))
    else
     if (x7.State == 4) = true then
      Option.bind (app a4 [v5]) fun l15 =>
      impl_State_enabled_l0 p1 n a3 l15 (w64 (v5 + 1))
     else
      impl_State_enabled_l0 p1 n a3 a4 (w64 (v5 + 1))
   else
    impl_State_enabled_l0 p1 n a3 a4 (w64 (v5 + 1))
  else
   impl_State_enabled_l0 p1 n a3 a4 (w64 (v5 + 1))
 else
  some a4
theorem impl_State_enabled_l0_m {E : Env} (hP : E.P = Tryz.prog) (hn : E.n = 53) (hx : FX E []) (p1 : GState)  : ∀ (n : Nat) (a3 : GProg) (a4 : (List Int)) (v5 : Int) (r : (List Int)), impl_State_enabled_l0 p1 n a3 a4 v5 = some r → WAt E body75 (FQ (RetE Θ Tryz.f75.results.toList [] [] (AV.own 3 1 (r.map o3)) E)) [true, true, false, true, false] ⟨[(0, (AV.rop (r57 p1) 0)), (3, (AV.ptr 1 0 0)), (5, (AV.sl 2 0 (List.length (a4.map o3)))), (14, (AV.ro 6 (p1.Threads.map r179))), (15, (I (p1.Threads.length : Int))), (16, (I v5))], [(1, some ⟨34, 4, [((r34 a3))]⟩), (2, some ⟨3, 1, (a4.map o3)⟩)], [1, 2, JJ]⟩ := by
 intro n
 induction n with
 | zero => intro a3 a4 v5 r h; simp only [impl_State_enabled_l0] at h; cases h
 | succ n ih =>
  intro a3 a4 v5 r h
  simp only [impl_State_enabled_l0] at h
  let Z1 := (decide (v5 < (p1.Threads.length : Int))); let Z2 := ((r34 a3)); let Z3 := (B true); let Z7 := (a4.map o3); let Z8 := (List.length Z7); let Z9 := ((([v5].map o3).drop 0).take (List.length ([v5].map o3))); let Z10 := (B false)
  rcases itS h with ⟨c6, h⟩ | ⟨c19, h⟩
  ·obtain ⟨x7, hx7, h⟩ := bnS h
   obtain ⟨r8, hr8, h⟩ := bnS h
   let Z0 := (AV.tup [(I r8.1), (B r8.2)]); let Z5 := (B (!r8.2)); let Z6 := (B (x7.State == 1))
   let H1 : List Hn := [hT 1, ⟨3, .row (r179 x7), none⟩, hW 5 1001, ⟨11, .callV [[], []] Z0, none⟩]
   let P2 : List Prop := [Z1 = true, (0 : Int) ≤ v5, (p1.Threads.map r179)[(Int.toNat v5)]? = some (r179 x7), Meets Tryz.prog 142 [(AV.rop (r57 p1) 0), (AV.agg Z2), (AV.agg ((r179 x7)))] Z0, litA Z0 = true]
   have AP2 : AllP P2 := ⟨c6, (rd0 hx7), (rdM r179 hx7), (impl_State_waits_m hr8), rfl, trivial⟩
   rcases itS h with ⟨c9, h⟩ | ⟨c18, h⟩
   ·let P3 : List Prop := P2 ++ [(B (p1.Fault == 0)) = Z3]
    have AP3 : AllP P3 := andP AP2 ⟨(litB c9), trivial⟩
    rcases itS h with ⟨c10, h⟩ | ⟨c17, h⟩
    ·rcases itS h with ⟨c11, h⟩ | ⟨c13, h⟩
     ·obtain ⟨l12, hl12, h⟩ := bnS h
      exact (let Z4 := (l12.map o3); gT hP hn hx (H1 ++ [hO 22 Z3, hO 26 Z3, hO 30 Z3, hW 39 1002, ⟨40, .app 1003 Z4, none⟩]) [(1, 1), (1003, 2)] [0, 3, 5, 14, 15, 16] [] (P3 ++ [Z5 = Z3, Z6 = Z3, Z7.take Z8 ++ Z9 = Z4, Z9.all (fun r => r.all AV.plain) = true, (List.length Z4) * 8 ≤ 140737488355328, (List.length Z4) ≤ 140737488355328, RenOK [(1, 1), (1003, 2)] [Z2], RenOK [(1, 1), (1003, 2)] Z4]) (andP AP3 ⟨(litB c10), (litB c11), (appTD o3 hl12), (plD pa3), (appB o3 hl12 (by decide)), (appC o3 hl12), (rok (treeB t34 a3)), (rok (treeM t3)), trivial⟩) (ih a3 l12 (w64 (v5 + 1)) _ h))
     ·rcases itS h with ⟨c14, h⟩ | ⟨c16, h⟩
      ·obtain ⟨l15, hl15, h⟩ := bnS h
       exact (let Z11 := (l15.map o3); gT hP hn hx (H1 ++ [hO 22 Z3, hO 26 Z3, hO 30 Z10, hT 36, hW 39 1004, ⟨40, .app 1005 Z11, none⟩]) [(1, 1), (1005, 2)] [0, 3, 5, 14, 15, 16] [] (P3 ++ [Z5 = Z3, Z6 = Z10, (x7.State == 4) = true, Z7.take Z8 ++ Z9 = Z11, Z9.all (fun r => r.all AV.plain) = true, (List.length Z11) * 8 ≤ 140737488355328, (List.length Z11) ≤ 140737488355328, RenOK [(1, 1), (1005, 2)] [Z2], RenOK [(1, 1), (1005, 2)] Z11]) (andP AP3 ⟨(litB c10), (litB c13), c14, (appTD o3 hl15), (plD pa3), (appB o3 hl15 (by decide)), (appC o3 hl15), (rok (treeB t34 a3)), (rok (treeM t3)), trivial⟩) (ih a3 l15 (w64 (v5 + 1)) _ h))
      ·exact gT hP hn hx (H1 ++ [hO 22 Z3, hO 26 Z3, hO 30 Z10, hF 36]) [(1, 1), (2, 2)] [0, 3, 5, 14, 15, 16] [] (P3 ++ [Z5 = Z3, Z6 = Z10, (x7.State == 4) = false, RenOK [(1, 1), (2, 2)] [Z2], RenOK [(1, 1), (2, 2)] Z7]) (andP AP3 ⟨(litB c10), (litB c13), c16, (rok (treeB t34 a3)), (rok (treeM t3)), trivial⟩) (ih a3 a4 (w64 (v5 + 1)) _ h)
    ·exact gT hP hn hx (H1 ++ [hO 22 Z3, hO 26 Z10]) [(1, 1), (2, 2)] [0, 3, 5, 14, 15, 16] [] (P3 ++ [Z5 = Z10, RenOK [(1, 1), (2, 2)] [Z2], RenOK [(1, 1), (2, 2)] Z7]) (andP AP3 ⟨(litB c17), (rok (treeB t34 a3)), (rok (treeM t3)), trivial⟩) (ih a3 a4 (w64 (v5 + 1)) _ h)
   ·exact gT hP hn hx (H1 ++ [hO 22 Z10]) [(1, 1), (2, 2)] [0, 3, 5, 14, 15, 16] [] (P2 ++ [(B (p1.Fault == 0)) = Z10, RenOK [(1, 1), (2, 2)] [Z2], RenOK [(1, 1), (2, 2)] Z7]) (andP AP2 ⟨(litB c18), (rok (treeB t34 a3)), (rok (treeM t3)), trivial⟩) (ih a3 a4 (w64 (v5 + 1)) _ h)
  ·obtain rfl := sj h
   exact gR hP hn [hF 1] [] .own [Z1 = false, treeLL (Z7.take Z8) = true, Z7.take Z8 = Z7, noRoLL Z7 = true] ⟨c19, (treeT t3), takeM, (noRoM n3), trivial⟩
noncomputable def impl_State_enabled (p1 : GState) (p2 : GProg) : Option (List Int) :=
 impl_State_enabled_l0 p1 FU p2 [] 0
theorem impl_State_enabled_m {p1 : GState} {p2 : GProg} {r : (List Int)} (h : impl_State_enabled p1 p2 = some r) : Meets Tryz.prog 75 [(AV.rop (r57 p1) 0), (AV.agg ((r34 p2)))] (AV.own 3 1 (r.map o3)) := by
 refine gM Tryz.func75 53 body75 fun E hP hn hx => ?_
 unfold impl_State_enabled at h
 exact (let Z0 := (I (p1.Threads.length : Int)); gT hP hn hx [hW 0 1001, hW 2 1002, hO 8 Z0] [(1001, 1), (1002, 2)] [0, 3, 5, 14, 15, 16] [] [AV.lit (.int .i64 (((p1.Threads.map r179).length : Nat) : Int)) = Z0, RenOK [(1001, 1), (1002, 2)] [((r34 p2))], RenOK [(1001, 1), (1002, 2)] ([].map o3)] ⟨(lenM r179), (rok (treeB t34 p2)), (rok (treeM t3)), trivial⟩ (impl_State_enabled_l0_m hP hn hx p1 FU p2 [] 0 _ h))
noncomputable def body184 : Code := match Tryz.f184.body with | some c => c | none => .skip
noncomputable def impl_Op_takes_j2   (v11 : Bool) : Option (Int × Int) :=
 if v11 = true then
  some (2, 1)
 else
  some (0, 0)
theorem impl_Op_takes_j2_m {E : Env} (hP : E.P = Tryz.prog) (hn : E.n = 21) (hx : FX E [])   (v11 : Bool) (r : (Int × Int)) (h : impl_Op_takes_j2  v11 = some r) : WAt E body184 (FQ (RetE Θ Tryz.f184.results.toList [] [] (AV.tup [(I r.1), (I r.2)]) E)) [true, false, true, false, true, true, true, true, true] ⟨[(14, (B v11))], [], [JJ]⟩ := by
 unfold impl_Op_takes_j2 at h
 rcases itS h with ⟨c12, h⟩ | ⟨c13, h⟩
 ·obtain rfl := sj h
  exact gR hP hn [hT 0] [] (.agg [.raw, .raw]) [v11 = true, (I 2) = (I 2), litA (I 2) = true, (I 1) = (I 1), litA (I 1) = true] ⟨c12, rfl, rfl, rfl, rfl, trivial⟩
 ·obtain rfl := sj h
  exact gR hP hn [hF 0] [] (.agg [.raw, .raw]) [v11 = false, (I 0) = (I 0), litA (I 0) = true, (I 0) = (I 0), litA (I 0) = true] ⟨c13, rfl, rfl, rfl, rfl, trivial⟩
noncomputable def impl_Op_takes_j1  (p1 : GOp) (v7 : Bool) : Option (Int × Int) :=
 if v7 = true then
  some (1, 0)
 else
  if (p1.Code == 4) = true then
   impl_Op_takes_j2 (p1.Code == 4)
  else
   if (p1.Code == 5) = true then
    impl_Op_takes_j2 (p1.Code == 5)
   else
    if (p1.Code == 6) = true then
     impl_Op_takes_j2 (p1.Code == 6)
    else
     if (p1.Code == 7) = true then
      impl_Op_takes_j2 (p1.Code == 7)
     else
      if (p1.Code == 8) = true then
       impl_Op_takes_j2 (p1.Code == 8)
      else
       impl_Op_takes_j2 (p1.Code == 9)
theorem impl_Op_takes_j1_m {E : Env} (hP : E.P = Tryz.prog) (hn : E.n = 21) (hx : FX E []) (p1 : GOp)  (v7 : Bool) (r : (Int × Int)) (h : impl_Op_takes_j1 p1 v7 = some r) : WAt E body184 (FQ (RetE Θ Tryz.f184.results.toList [] [] (AV.tup [(I r.1), (I r.2)]) E)) [true, false, true, false, true, true, true] ⟨[(5, (I p1.Code)), (10, (B v7))], [], [JJ]⟩ := by
 unfold impl_Op_takes_j1 at h
 let Z0 := (p1.Code == 4); let Z1 := (p1.Code == 5); let Z2 := (p1.Code == 6); let Z3 := (p1.Code == 7); let Z4 := (p1.Code == 8)
 rcases itS h with ⟨c8, h⟩ | ⟨c9, h⟩
 ·obtain rfl := sj h
  exact gR hP hn [hT 0] [] (.agg [.raw, .raw]) [v7 = true, (I 1) = (I 1), litA (I 1) = true, (I 0) = (I 0), litA (I 0) = true] ⟨c8, rfl, rfl, rfl, rfl, trivial⟩
 ·rcases itS h with ⟨c10, h⟩ | ⟨c14, h⟩
  ·exact gT hP hn hx [hF 0, hT 3] [] [14] [] [v7 = false, Z0 = true] ⟨c9, c10, trivial⟩ (impl_Op_takes_j2_m hP hn hx Z0 _ h)
  ·let P1 : List Prop := [v7 = false, Z0 = false]
   have AP1 : AllP P1 := ⟨c9, c14, trivial⟩
   rcases itS h with ⟨c15, h⟩ | ⟨c16, h⟩
   ·exact gT hP hn hx [hF 0, hF 3, hT 6] [] [14] [] (P1 ++ [Z1 = true]) (andP AP1 ⟨c15, trivial⟩) (impl_Op_takes_j2_m hP hn hx Z1 _ h)
   ·rcases itS h with ⟨c17, h⟩ | ⟨c18, h⟩
    ·exact gT hP hn hx [hF 0, hF 3, hF 6, hT 9] [] [14] [] (P1 ++ [Z1 = false, Z2 = true]) (andP AP1 ⟨c16, c17, trivial⟩) (impl_Op_takes_j2_m hP hn hx Z2 _ h)
    ·rcases itS h with ⟨c19, h⟩ | ⟨c20, h⟩
     ·exact gT hP hn hx [hF 0, hF 3, hF 6, hF 9, hT 12] [] [14] [] (P1 ++ [Z1 = false, Z2 = false, Z3 = true]) (andP AP1 ⟨c16, c18, c19, trivial⟩) (impl_Op_takes_j2_m hP hn hx Z3 _ h)
     ·rcases itS h with ⟨c21, h⟩ | ⟨c22, h⟩
      ·exact gT hP hn hx [hF 0, hF 3, hF 6, hF 9, hF 12, hT 15] [] [14] [] (P1 ++ [Z1 = false, Z2 = false, Z3 = false, Z4 = true]) (andP AP1 ⟨c16, c18, c20, c21, trivial⟩) (impl_Op_takes_j2_m hP hn hx Z4 _ h)
      ·exact gT hP hn hx [hF 0, hF 3, hF 6, hF 9, hF 12, hF 15] [] [14] [] (P1 ++ [Z1 = false, Z2 = false, Z3 = false, Z4 = false]) (andP AP1 ⟨c16, c18, c20, c22, trivial⟩) (impl_Op_takes_j2_m hP hn hx (p1.Code == 9) _ h)
noncomputable def impl_Op_takes_j0  (p1 : GOp) (v3 : Bool) : Option (Int × Int) :=
 if v3 = true then
  some (0, 1)
 else
  if (p1.Code == 3) = true then
   impl_Op_takes_j1 p1 (p1.Code == 3)
  else
   if (p1.Code == 11) = true then
    impl_Op_takes_j1 p1 (p1.Code == 11)
   else
    impl_Op_takes_j1 p1 (p1.Code == 15)
theorem impl_Op_takes_j0_m {E : Env} (hP : E.P = Tryz.prog) (hn : E.n = 21) (hx : FX E []) (p1 : GOp)  (v3 : Bool) (r : (Int × Int)) (h : impl_Op_takes_j0 p1 v3 = some r) : WAt E body184 (FQ (RetE Θ Tryz.f184.results.toList [] [] (AV.tup [(I r.1), (I r.2)]) E)) [true, false, true, false, true] ⟨[(5, (I p1.Code)), (6, (B v3))], [], [JJ]⟩ := by
 unfold impl_Op_takes_j0 at h
 let Z0 := (p1.Code == 3); let Z1 := (p1.Code == 11)
 rcases itS h with ⟨c4, h⟩ | ⟨c5, h⟩
 ·obtain rfl := sj h
  exact gR hP hn [hT 0] [] (.agg [.raw, .raw]) [v3 = true, (I 0) = (I 0), litA (I 0) = true, (I 1) = (I 1), litA (I 1) = true] ⟨c4, rfl, rfl, rfl, rfl, trivial⟩
 ·rcases itS h with ⟨c6, h⟩ | ⟨c23, h⟩
  ·exact gT hP hn hx [hF 0, hT 3] [] [5, 10] [] [v3 = false, Z0 = true] ⟨c5, c6, trivial⟩ (impl_Op_takes_j1_m hP hn hx p1 Z0 _ h)
  ·rcases itS h with ⟨c24, h⟩ | ⟨c25, h⟩
   ·exact gT hP hn hx [hF 0, hF 3, hT 6] [] [5, 10] [] [v3 = false, Z0 = false, Z1 = true] ⟨c5, c23, c24, trivial⟩ (impl_Op_takes_j1_m hP hn hx p1 Z1 _ h)
   ·exact gT hP hn hx [hF 0, hF 3, hF 6] [] [5, 10] [] [v3 = false, Z0 = false, Z1 = false] ⟨c5, c23, c25, trivial⟩ (impl_Op_takes_j1_m hP hn hx p1 (p1.Code == 15) _ h)
noncomputable def impl_Op_takes (p1 : GOp) : Option (Int × Int) :=
 if (p1.Code == 1) = true then
  impl_Op_takes_j0 p1 (p1.Code == 1)
 else
  if (p1.Code == 2) = true then
   impl_Op_takes_j0 p1 (p1.Code == 2)
  else
   impl_Op_takes_j0 p1 (p1.Code == 14)
theorem impl_Op_takes_m {p1 : GOp} {r : (Int × Int)} (h : impl_Op_takes p1 = some r) : Meets Tryz.prog 184 [(AV.agg ((o144 p1)))] (AV.tup [(I r.1), (I r.2)]) := by
 refine gM Tryz.func184 21 body184 fun E hP hn hx => ?_
 unfold impl_Op_takes at h
 let Z0 := (p1.Code == 1); let Z1 := (p1.Code == 2)
 rcases itS h with ⟨c2, h⟩ | ⟨c26, h⟩
 ·exact gT hP hn hx [hW 0 1001, hT 7] [] [5, 6] [] [Z0 = true] ⟨c2, trivial⟩ (impl_Op_takes_j0_m hP hn hx p1 Z0 _ h)
 ·rcases itS h with ⟨c27, h⟩ | ⟨c28, h⟩
  ·exact gT hP hn hx [hW 0 1001, hF 7, hT 10] [] [5, 6] [] [Z0 = false, Z1 = true] ⟨c26, c27, trivial⟩ (impl_Op_takes_j0_m hP hn hx p1 Z1 _ h)
  ·exact gT hP hn hx [hW 0 1001, hF 7, hF 10] [] [5, 6] [] [Z0 = false, Z1 = false] ⟨c26, c28, trivial⟩ (impl_Op_takes_j0_m hP hn hx p1 (p1.Code == 14) _ h)
noncomputable def body185 : Code := match Tryz.f185.body with | some c => c | none => .skip
noncomputable def impl_isNo (p1 : Nat) : Option Bool :=
 Option.bind (impl_KindOf p1) fun r2 =>
 if (r2 == 0) = true then
  some true
 else
  some (r2 == 2)
theorem impl_isNo_m {p1 : Nat} {r : Bool} (h : impl_isNo p1 = some r) : Meets Tryz.prog 185 [(FK p1)] (B r) := by
 refine gM Tryz.func185 12 body185 fun E hP hn hx => ?_
 unfold impl_isNo at h
 obtain ⟨r2, hr2, h⟩ := bnS h
 let Z0 := (B (r2 == 2))
 rcases itS h with ⟨c3, h⟩ | ⟨c4, h⟩
 ·obtain rfl := sj h
  exact gR hP hn [⟨2, .callV [] (I r2), none⟩, hO 6 (B true)] [] .raw [Meets Tryz.prog 206 [(FK p1)] (I r2), litA (I r2) = true, (B (r2 == 0)) = (B true), (B true) = (B true), litA (B true) = true] ⟨(impl_KindOf_m hr2), rfl, (litB c3), rfl, rfl, trivial⟩
 ·obtain rfl := sj h
  exact gR hP hn [⟨2, .callV [] (I r2), none⟩, hO 6 (B false)] [] .raw [Meets Tryz.prog 206 [(FK p1)] (I r2), litA (I r2) = true, (B (r2 == 0)) = (B false), Z0 = Z0, litA Z0 = true] ⟨(impl_KindOf_m hr2), rfl, (litB c4), rfl, rfl, trivial⟩
noncomputable def body175 : Code := match Tryz.f175.body with | some c => c | none => .skip
noncomputable def impl_newThread (p1 : Int) : Option GThread :=
 some (GThread.mk p1 0 1 (-1) (-1) [])
theorem impl_newThread_m {p1 : Int} {r : GThread} (h : impl_newThread p1 = some r) : Meets Tryz.prog 175 [(I p1)] (AV.agg (o179 r)) := by
 refine gM Tryz.func175 6 body175 fun E hP hn hx => ?_
 unfold impl_newThread at h
 obtain rfl := sj h
 exact (let Z0 := (I (-1)); let Z1 := ([].map o142); gR hP hn [hW 0 1001, hW 2 1002] [] (.agg [.raw, .raw, .raw, .raw, .raw, .own]) [(I p1) = (I p1), litA (I p1) = true, (I 0) = (I 0), litA (I 0) = true, (I 1) = (I 1), litA (I 1) = true, Z0 = Z0, litA Z0 = true, Z0 = Z0, litA Z0 = true, treeLL (Z1.take (List.length Z1)) = true, Z1.take (List.length Z1) = Z1, noRoLL Z1 = true] ⟨rfl, rfl, rfl, rfl, rfl, rfl, rfl, rfl, rfl, rfl, (treeT t142), takeM, (noRoM n142), trivial⟩)
noncomputable def body146 : Code := match Tryz.f146.body with | some c => c | none => .skip
noncomputable def impl_boolInt (p1 : Bool) : Option Int :=
 if p1 = true then
  some 1
 else
  some 0
theorem impl_boolInt_m {p1 : Bool} {r : Int} (h : impl_boolInt p1 = some r) : Meets Tryz.prog 146 [(B p1)] (I r) := by
 refine gM Tryz.func146 4 body146 fun E hP hn hx => ?_
 unfold impl_boolInt at h
 rcases itS h with ⟨c2, h⟩ | ⟨c3, h⟩
 ·obtain rfl := sj h
  exact gR hP hn [hT 2] [] .raw [p1 = true, (I 1) = (I 1), litA (I 1) = true] ⟨c2, rfl, rfl, trivial⟩
 ·obtain rfl := sj h
  exact gR hP hn [hF 2] [] .raw [p1 = false, (I 0) = (I 0), litA (I 0) = true] ⟨c3, rfl, rfl, trivial⟩
noncomputable def body188 : Code := match Tryz.f188.body with | some c => c | none => .skip
noncomputable def impl_worked (p1 : Int) (p2 : Nat) (p3 : Nat) : Option Nat :=
 if (p1 == 4) = true then
  some (fad p2 p3)
 else
  if (p1 == 5) = true then
   some (fsb p2 p3)
  else
   if (p1 == 6) = true then
    some (fml p2 p3)
   else
    if (p1 == 7) = true then
     some (fdv p2 p3)
    else
     if (p1 == 8) = true then
      Option.bind (impl_boolInt ((fcmp p2 p3) == some .lt)) fun r13 =>
      some (fOf r13)
     else
      Option.bind (impl_SameNum p2 p3) fun r15 =>
      Option.bind (impl_boolInt r15) fun r16 =>
      some (fOf r16)
theorem impl_worked_m {p1 : Int} {p2 : Nat} {p3 : Nat} {r : Nat} (h : impl_worked p1 p2 p3 = some r) : Meets Tryz.prog 188 [(I p1), (FK p2), (FK p3)] (FK r) := by
 refine gM Tryz.func188 40 body188 fun E hP hn hx => ?_
 unfold impl_worked at h
 let Z0 := (fad p2 p3); let Z1 := (fsb p2 p3); let Z2 := (fml p2 p3); let Z3 := (fdv p2 p3)
 rcases itS h with ⟨c4, h⟩ | ⟨c5, h⟩
 ·obtain rfl := sj h
  exact gR hP hn [hT 4, ⟨7, .bin (FK Z0), none⟩] [] .raw [(p1 == 4) = true, BinS Tryz.prog .add 142 (FK p2) (FK p3) (FK Z0), (FK Z0) = (FK Z0), litA (FK Z0) = true] ⟨c4, fAdd, rfl, rfl, trivial⟩
 ·rcases itS h with ⟨c6, h⟩ | ⟨c7, h⟩
  ·obtain rfl := sj h
   exact gR hP hn [hF 4, hT 7, ⟨10, .bin (FK Z1), none⟩] [] .raw [(p1 == 4) = false, (p1 == 5) = true, BinS Tryz.prog .sub 142 (FK p2) (FK p3) (FK Z1), (FK Z1) = (FK Z1), litA (FK Z1) = true] ⟨c5, c6, fSub, rfl, rfl, trivial⟩
  ·let P1 : List Prop := [(p1 == 4) = false, (p1 == 5) = false]
   have AP1 : AllP P1 := ⟨c5, c7, trivial⟩
   rcases itS h with ⟨c8, h⟩ | ⟨c9, h⟩
   ·obtain rfl := sj h
    exact gR hP hn [hF 4, hF 7, hT 10, ⟨13, .bin (FK Z2), none⟩] [] .raw (P1 ++ [(p1 == 6) = true, BinS Tryz.prog .mul 142 (FK p2) (FK p3) (FK Z2), (FK Z2) = (FK Z2), litA (FK Z2) = true]) (andP AP1 ⟨c8, fMul, rfl, rfl, trivial⟩)
   ·rcases itS h with ⟨c10, h⟩ | ⟨c11, h⟩
    ·obtain rfl := sj h
     exact gR hP hn [hF 4, hF 7, hF 10, hT 13, ⟨16, .bin (FK Z3), none⟩] [] .raw (P1 ++ [(p1 == 6) = false, (p1 == 7) = true, BinS Tryz.prog .quo 142 (FK p2) (FK p3) (FK Z3), (FK Z3) = (FK Z3), litA (FK Z3) = true]) (andP AP1 ⟨c9, c10, fQuo, rfl, rfl, trivial⟩)
    ·rcases itS h with ⟨c12, h⟩ | ⟨c14, h⟩
     ·obtain ⟨r13, hr13, h⟩ := bnS h
      obtain rfl := sj h
      exact (let Z4 := (fOf r13); gR hP hn [hF 4, hF 7, hF 10, hF 13, hT 16, ⟨19, .bin (B ((fcmp p2 p3) == some .lt)), none⟩, ⟨20, .callV [] (I r13), none⟩, ⟨21, .cnv (FK Z4), none⟩] [] .raw (P1 ++ [(p1 == 6) = false, (p1 == 7) = false, (p1 == 8) = true, BinS Tryz.prog .lss 142 (FK p2) (FK p3) (B ((fcmp p2 p3) == some .lt)), Meets Tryz.prog 146 [(B ((fcmp p2 p3) == some .lt))] (I r13), litA (I r13) = true, CnvS Tryz.prog 3 142 (I r13) (FK Z4), (FK Z4) = (FK Z4), litA (FK Z4) = true]) (andP AP1 ⟨c9, c11, c12, fLss, (impl_boolInt_m hr13), rfl, (cIF (P := Tryz.prog) ty3 ty142), rfl, rfl, trivial⟩))
     ·obtain ⟨r15, hr15, h⟩ := bnS h
      obtain ⟨r16, hr16, h⟩ := bnS h
      obtain rfl := sj h
      exact (let Z5 := (fOf r16); gR hP hn [hF 4, hF 7, hF 10, hF 13, hF 16, ⟨19, .callV [] (B r15), none⟩, ⟨20, .callV [] (I r16), none⟩, ⟨21, .cnv (FK Z5), none⟩] [] .raw (P1 ++ [(p1 == 6) = false, (p1 == 7) = false, (p1 == 8) = false, Meets Tryz.prog 193 [(FK p2), (FK p3)] (B r15), litA (B r15) = true, Meets Tryz.prog 146 [(B r15)] (I r16), litA (I r16) = true, CnvS Tryz.prog 3 142 (I r16) (FK Z5), (FK Z5) = (FK Z5), litA (FK Z5) = true]) (andP AP1 ⟨c9, c11, c14, (impl_SameNum_m hr15), rfl, (impl_boolInt_m hr16), rfl, (cIF (P := Tryz.prog) ty3 ty142), rfl, rfl, trivial⟩))
noncomputable def body187 : Code := match Tryz.f187.body with | some c => c | none => .skip
noncomputable def impl_State_do_1 (p1 : GThread) (p2 : GOp) : Option Bool :=
 if (p1.State == 3) = true then
  some (p1.Cond == p2.A)
 else
  some false
theorem impl_State_do_1_m {p1 : GThread} {p2 : GOp} {r : Bool} (h : impl_State_do_1 p1 p2 = some r) : Meets Tryz.prog 187 [(AV.agg ((r179 p1))), (AV.rop (o144 p2) 0)] (B r) := by
 refine gM Tryz.func187 14 body187 fun E hP hn hx => ?_
 unfold impl_State_do_1 at h
 let Z0 := (B (p1.Cond == p2.A)); let Z1 := (B false)
 rcases itS h with ⟨c3, h⟩ | ⟨c4, h⟩
 ·obtain rfl := sj h
  exact gR hP hn [hW 0 1001, hO 5 (B true)] [] .raw [(B (p1.State == 3)) = (B true), Z0 = Z0, litA Z0 = true] ⟨(litB c3), rfl, rfl, trivial⟩
 ·obtain rfl := sj h
  exact gR hP hn [hW 0 1001, hO 5 Z1] [] .raw [(B (p1.State == 3)) = Z1, Z1 = Z1, litA Z1 = true] ⟨(litB c4), rfl, rfl, trivial⟩
noncomputable def body182_142 : Code := match Tryz.f182.body with | some c => c | none => .skip
noncomputable def slices_IndexFunc_Thread_Thread__impl_State_do_1_l0  (p1 : (List GThread)) (p2 : GOp) : Nat → Int → Option Int
 | 0, _ => none
 | n + 1, v3 =>
 if (decide (v3 < (p1.length : Int))) = true then
  Option.bind (rd p1 v3) fun x5 =>
  Option.bind (impl_State_do_1 x5 p2) fun r6 =>
  if r6 = true then
   some v3
  else
   slices_IndexFunc_Thread_Thread__impl_State_do_1_l0 p1 p2 n (w64 (v3 + 1))
 else
  some (-1)
theorem slices_IndexFunc_Thread_Thread__impl_State_do_1_l0_m {E : Env} (hP : E.P = Tryz.prog) (hn : E.n = 19) (hx : FX E []) (p1 : (List GThread)) (p2 : GOp)  : ∀ (n : Nat) (v3 : Int) (r : Int), slices_IndexFunc_Thread_Thread__impl_State_do_1_l0 p1 p2 n v3 = some r → WAt E body182_142 (FQ (RetE Θ Tryz.f182.results.toList [] [] (I r) E)) [true, false, true, false] ⟨[(0, (AV.ro 6 (p1.map r179))), (1, (AV.fn 187 [(AV.rop (o144 p2) 0)])), (7, (I (p1.length : Int))), (8, (I v3))], [], [JJ]⟩ := by
 intro n
 induction n with
 | zero => intro v3 r h; simp only [slices_IndexFunc_Thread_Thread__impl_State_do_1_l0] at h; cases h
 | succ n ih =>
  intro v3 r h
  simp only [slices_IndexFunc_Thread_Thread__impl_State_do_1_l0] at h
  let Z0 := (decide (v3 < (p1.length : Int)))
  rcases itS h with ⟨c4, h⟩ | ⟨c9, h⟩
  ·obtain ⟨x5, hx5, h⟩ := bnS h
   obtain ⟨r6, hr6, h⟩ := bnS h
   let P1 : List Prop := [Z0 = true, (0 : Int) ≤ v3, (p1.map r179)[(Int.toNat v3)]? = some (r179 x5), Meets Tryz.prog 187 [(AV.agg ((r179 x5))), (AV.rop (o144 p2) 0)] (B r6), litA (B r6) = true]
   have AP1 : AllP P1 := ⟨c4, (rd0 hx5), (rdM r179 hx5), (impl_State_do_1_m hr6), rfl, trivial⟩
   rcases itS h with ⟨c7, h⟩ | ⟨c8, h⟩
   ·obtain rfl := sj h
    exact gR hP hn [hT 1, ⟨7, .row (r179 x5), none⟩, ⟨9, .callV [[]] (B r6), none⟩, hT 10] [] .raw (P1 ++ [r6 = true, (I v3) = (I v3), litA (I v3) = true]) (andP AP1 ⟨c7, rfl, rfl, trivial⟩)
   ·exact gT hP hn hx [hT 1, ⟨7, .row (r179 x5), none⟩, ⟨9, .callV [[]] (B r6), none⟩, hF 10] [] [0, 1, 7, 8] [] (P1 ++ [r6 = false]) (andP AP1 ⟨c8, trivial⟩) (ih (w64 (v3 + 1)) _ h)
  ·obtain rfl := sj h
   exact gR hP hn [hF 1] [] .raw [Z0 = false, (I (-1)) = (I (-1)), litA (I (-1)) = true] ⟨c9, rfl, rfl, trivial⟩
noncomputable def slices_IndexFunc_Thread_Thread__impl_State_do_1 (p1 : (List GThread)) (p2 : GOp) : Option Int :=
 slices_IndexFunc_Thread_Thread__impl_State_do_1_l0 p1 p2 FU 0
theorem slices_IndexFunc_Thread_Thread__impl_State_do_1_m {p1 : (List GThread)} {p2 : GOp} {r : Int} (h : slices_IndexFunc_Thread_Thread__impl_State_do_1 p1 p2 = some r) : Meets Tryz.prog 182 [(AV.ro 6 (p1.map r179)), (AV.fn 187 [(AV.rop (o144 p2) 0)])] (I r) := by
 refine gM Tryz.func182 19 body182_142 fun E hP hn hx => ?_
 unfold slices_IndexFunc_Thread_Thread__impl_State_do_1 at h
 exact (let Z0 := (I (p1.length : Int)); gT hP hn hx [hO 2 Z0] [] [0, 1, 7, 8] [] [AV.lit (.int .i64 (((p1.map r179).length : Nat) : Int)) = Z0] ⟨(lenM r179), trivial⟩ (slices_IndexFunc_Thread_Thread__impl_State_do_1_l0_m hP hn hx p1 p2 FU 0 _ h))
noncomputable def body148 : Code := match Tryz.f148.body with | some c => c | none => .skip
noncomputable def impl_State_do (p1 : GState) (p2 : Int) (p3 : GOp) (p4 : GEvent) : Option (GEvent × GState) :=
 Option.bind (rd p1.Threads p2) fun x5 =>
 Option.bind (impl_Op_takes p3) fun r6 =>
 Option.bind (slc x5.Stack (w64 ((x5.Stack.length : Int) - r6.1)) (x5.Stack.length : Int)) fun l7 =>
 Option.bind (slices_Clone_float64_float64 l7) fun r8 =>
 Option.bind (slc x5.Stack 0 (w64 ((x5.Stack.length : Int) - r6.1))) fun l9 =>
 if (p3.Code == 1) = true then
  Option.bind (app l9 [p3.V]) fun l11 =>
  some (p4, (GState.mk (((p1.Threads.set (Int.toNat p2) (GThread.mk x5.Routine x5.Pc x5.State x5.Cond x5.Lock l9)).set (Int.toNat p2) (GThread.mk x5.Routine (w64 (x5.Pc + 1)) x5.State x5.Cond x5.Lock l9)).set (Int.toNat p2) (GThread.mk x5.Routine (w64 (x5.Pc + 1)) x5.State x5.Cond x5.Lock l11)) p1.Cells p1.Owner p1.Fault))
 else
  if (p3.Code == 2) = true then
   Option.bind (rd p1.Cells p3.A) fun x14 =>
   Option.bind (app l9 [x14]) fun l15 =>
   some ((GEvent.mk p4.Thread 2 p3.A p4.Lock p4.Pc), (GState.mk (((p1.Threads.set (Int.toNat p2) (GThread.mk x5.Routine x5.Pc x5.State x5.Cond x5.Lock l9)).set (Int.toNat p2) (GThread.mk x5.Routine (w64 (x5.Pc + 1)) x5.State x5.Cond x5.Lock l9)).set (Int.toNat p2) (GThread.mk x5.Routine (w64 (x5.Pc + 1)) x5.State x5.Cond x5.Lock l15)) p1.Cells p1.Owner p1.Fault))
  else
   if (p3.Code == 3) = true then
    Option.bind (rd r8 0) fun x18 =>
    Option.bind (rd p1.Cells p3.A) fun x19 =>
    some ((GEvent.mk p4.Thread 3 p3.A p4.Lock p4.Pc), (GState.mk ((p1.Threads.set (Int.toNat p2) (GThread.mk x5.Routine x5.Pc x5.State x5.Cond x5.Lock l9)).set (Int.toNat p2) (GThread.mk x5.Routine (w64 (x5.Pc + 1)) x5.State x5.Cond x5.Lock l9)) (p1.Cells.set (Int.toNat p3.A) x18) p1.Owner p1.Fault))
   else
    if (p3.Code == 10) = true then
     some (p4, (GState.mk ((p1.Threads.set (Int.toNat p2) (GThread.mk x5.Routine x5.Pc x5.State x5.Cond x5.Lock l9)).set (Int.toNat p2) (GThread.mk x5.Routine p3.A x5.State x5.Cond x5.Lock l9)) p1.Cells p1.Owner p1.Fault))
    else
     if (p3.Code == 11) = true then
      Option.bind (rd r8 0) fun x24 =>
      Option.bind (impl_isNo x24) fun r30 =>
      if r30 = true then
       some (p4, (GState.mk ((p1.Threads.set (Int.toNat p2) (GThread.mk x5.Routine x5.Pc x5.State x5.Cond x5.Lock l9)).set (Int.toNat p2) (GThread.mk x5.Routine p3.A x5.State x5.Cond x5.Lock l9)) p1.Cells p1.Owner p1.Fault))
      else
       some (p4, (GState.mk ((p1.Threads.set (Int.toNat p2) (GThread.mk x5.Routine x5.Pc x5.State x5.Cond x5.Lock l9)).set (Int.toNat p2) (GThread.mk x5.Routine (w64 (x5.Pc + 1)) x5.State x5.Cond x5.Lock l9)) p1.Cells p1.Owner p1.Fault))
     else
      if (p3.Code == 12) = true then
       Option.bind (rd p1.Owner p3.A) fun x35 =>
       some ((GEvent.mk p4.Thread 4 p3.A p4.Lock p4.Pc), (GState.mk ((p1.Threads.set (Int.toNat p2) (GThread.mk x5.Routine x5.Pc x5.State x5.Cond x5.Lock l9)).set (Int.toNat p2) (GThread.mk x5.Routine (w64 (x5.Pc + 1)) x5.State x5.Cond x5.Lock l9)) p1.Cells (p1.Owner.set (Int.toNat p3.A) p2) p1.Fault))
      else
       if (p3.Code == 13) = true then
        Option.bind (rd p1.Owner p3.A) fun x38 =>
        some ((GEvent.mk p4.Thread 5 p3.A p4.Lock p4.Pc), (GState.mk ((p1.Threads.set (Int.toNat p2) (GThread.mk x5.Routine x5.Pc x5.State x5.Cond x5.Lock l9)).set (Int.toNat p2) (GThread.mk x5.Routine (w64 (x5.Pc + 1)) x5.State x5.Cond x5.Lock l9)) p1.Cells (p1.Owner.set (Int.toNat p3.A) (-1)) p1.Fault))
       else
        if (p3.Code == 14) = true then
         Option.bind (app l9 [(fOf (((p1.Threads.set (Int.toNat p2) (GThread.mk x5.Routine x5.Pc x5.State x5.Cond x5.Lock l9)).set (Int.toNat p2) (GThread.mk x5.Routine (w64 (x5.Pc + 1)) x5.State x5.Cond x5.Lock l9)).length : Int))]) fun l41 =>
         Option.bind (impl_newThread p3.A) fun r42 =>
         Option.bind (app (((p1.Threads.set (Int.toNat p2) (GThread.mk x5.Routine x5.Pc x5.State x5.Cond x5.Lock l9)).set (Int.toNat p2) (GThread.mk x5.Routine (w64 (x5.Pc + 1)) x5.State x5.Cond x5.Lock l9)).set (Int.toNat p2) (GThread.mk x5.Routine (w64 (x5.Pc + 1)) x5.State x5.Cond x5.Lock l41)) [(GThread.mk r42.Routine r42.Pc r42.State r42.Cond r42.Lock r42.Stack)]) fun l43 =>
         some ((GEvent.mk p4.Thread 6 (((p1.Threads.set (Int.toNat p2) (GThread.mk x5.Routine x5.Pc x5.State x5.Cond x5.Lock l9)).set (Int.toNat p2) (GThread.mk x5.Routine (w64 (x5.Pc + 1)) x5.State x5.Cond x5.Lock l9)).length : Int) p4.Lock p4.Pc), (GState.mk l43 p1.Cells p1.Owner p1.Fault))
        else
         if (p3.Code == 15) = true then
          Option.bind (rd r8 0) fun x46 =>
          Option.bind (impl_ToIndex x46 (((p1.Threads.set (Int.toNat p2) (GThread.mk x5.Routine x5.Pc x5.State x5.Cond x5.Lock l9)).set (Int.toNat p2) (GThread.mk x5.Routine (w64 (x5.Pc + 1)) x5.State x5.Cond x5.Lock l9)).length : Int)) fun r47 =>
          some ((GEvent.mk p4.Thread 7 r47.1 p4.Lock p4.Pc), (GState.mk ((p1.Threads.set (Int.toNat p2) (GThread.mk x5.Routine x5.Pc x5.State x5.Cond x5.Lock l9)).set (Int.toNat p2) (GThread.mk x5.Routine (w64 (x5.Pc + 1)) x5.State x5.Cond x5.Lock l9)) p1.Cells p1.Owner p1.Fault))
         else
          if (p3.Code == 16) = true then
           Option.bind (rd p1.Owner p3.B) fun x50 =>
           some ((GEvent.mk p4.Thread 8 p3.A p3.B p4.Pc), (GState.mk ((p1.Threads.set (Int.toNat p2) (GThread.mk x5.Routine x5.Pc x5.State x5.Cond x5.Lock l9)).set (Int.toNat p2) (GThread.mk x5.Routine (w64 ((w64 (x5.Pc + 1)) - 1)) 3 p3.A p3.B l9)) p1.Cells (p1.Owner.set (Int.toNat p3.B) (-1)) p1.Fault))
          else
           if (p3.Code == 17) = true then
            Option.bind (slices_IndexFunc_Thread_Thread__impl_State_do_1 ((p1.Threads.set (Int.toNat p2) (GThread.mk x5.Routine x5.Pc x5.State x5.Cond x5.Lock l9)).set (Int.toNat p2) (GThread.mk x5.Routine (w64 (x5.Pc + 1)) x5.State x5.Cond x5.Lock l9)) p3) fun r54 =>
            if (decide (r54 ≥ 0)) = true then
             Option.bind (rd ((p1.Threads.set (Int.toNat p2) (GThread.mk x5.Routine x5.Pc x5.State x5.Cond x5.Lock l9)).set (Int.toNat p2) (GThread.mk x5.Routine (w64 (x5.Pc + 1)) x5.State x5.Cond x5.Lock l9)) r54) fun x56 =>
             some ((GEvent.mk p4.Thread 10 p3.A r54 p4.Pc), (GState.mk (((p1.Threads.set (Int.toNat p2) (GThread.mk x5.Routine x5.Pc x5.State x5.Cond x5.Lock l9)).set (Int.toNat p2) (GThread.mk x5.Routine (w64 (x5.Pc + 1)) x5.State x5.Cond x5.Lock l9)).set (Int.toNat r54) (GThread.mk x56.Routine x56.Pc 4 x56.Cond x56.Lock x56.Stack)) p1.Cells p1.Owner p1.Fault))
            else
             some ((GEvent.mk p4.Thread 10 p3.A r54 p4.Pc), (GState.mk ((p1.Threads.set (Int.toNat p2) (GThread.mk x5.Routine x5.Pc x5.State x5.Cond x5.Lock l9)).set (Int.toNat p2) (GThread.mk x5.Routine (w64 (x5.Pc + 1)) x5.State x5.Cond x5.Lock l9)) p1.Cells p1.Owner p1.Fault))
           else
            Option.bind (rd r8 0) fun x59 =>
            Option.bind (rd r8 1) fun x60 =>
            Option.bind (impl_worked p3.Code x59 x60) fun r61 =>
            Option.bind (app l9 [r61]) fun l62 =>
            some (p4, (GState.mk (((p1.Threads.set (Int.toNat p2) (GThread.mk x5.Routine x5.Pc x5.State x5.Cond x5.Lock l9)).set (Int.toNat p2) (GThread.mk x5.Routine (w64 (x5.Pc + 1)) x5.State x5.Cond x5.Lock l9)).set (Int.toNat p2) (GThread.mk x5.Routine (w64 (x5.Pc + 1)) x5.State x5.Cond x5.Lock l62)) p1.Cells p1.Owner p1.Fault))
theorem impl_State_do_m {p1 : GState} {p2 : Int} {p3 : GOp} {p4 : GEvent} {r : (GEvent × GState)} (h : impl_State_do p1 p2 p3 p4 = some r) : MeetsR Tryz.prog 148 [⟨57, 4, [(o57 p1)]⟩] [(AV.ptr 0 0 0), (I p2), (AV.agg ((o144 p3))), (AV.agg ((o59 p4)))] [true] [⟨57, 4, [(o57 r.2)]⟩] (AV.agg (o59 r.1)) := by
 refine meetsR_of Θ_ok Tryz.func148 rfl (c := body148) (by kernel_rfl) (Nat.le_of_ble_eq_true rfl) rfl (Nat.le_of_ble_eq_true rfl) rfl (fr := [0]) (frI rfl) ?_
 intro E hP hn hx
 replace hn : E.n = 285 := hn
 unfold impl_State_do at h
 obtain ⟨x5, hx5, h⟩ := bnS h
 obtain ⟨r6, hr6, h⟩ := bnS h
 obtain ⟨l7, hl7, h⟩ := bnS h
 obtain ⟨r8, hr8, h⟩ := bnS h
 obtain ⟨l9, hl9, h⟩ := bnS h
 let Z0 := ((o57 p1)); let Z1 := (p1.Threads.map o179); let Z2 := (AV.sl 1004 0 (List.length Z1)); let Z3 := (p1.Cells.map o142); let Z4 := (AV.own 142 1 Z3); let Z5 := (p1.Owner.map o3); let Z6 := (AV.own 3 1 Z5); let Z7 := (I p1.Fault); let Z8 := [Z2, Z4, Z6, Z7]; let Z9 := (AV.tup [(I r6.1), (I r6.2)]); let Z10 := ((o179 x5)); let Z11 := (x5.Stack.map o142); let Z12 := (I x5.Routine); let Z13 := (I x5.State); let Z14 := (I x5.Cond); let Z15 := (I x5.Lock); let Z16 := (List.length Z11); let Z17 := [Z12, (I x5.Pc), Z13, Z14, Z15, (AV.sl 1005 0 Z16)]; let Z18 := (Z1.set (Int.toNat p2) Z17); let Z19 := (x5.Stack.length : Int); let Z20 := (l7.map o142); let Z21 := (r8.map o142); let Z22 := (AV.own 142 1 Z21); let Z23 := [Z12, (I x5.Pc), Z13, Z14, Z15, AV.dead]; let Z24 := (Z1.set (Int.toNat p2) Z23); let Z25 := (l9.map o142); let Z26 := (List.length Z25); let Z27 := (AV.sl 1007 0 Z26); let Z28 := [Z12, (I x5.Pc), Z13, Z14, Z15, Z27]; let Z29 := (Z1.set (Int.toNat p2) Z28); let Z30 := (p1.Threads.set (Int.toNat p2) (GThread.mk x5.Routine x5.Pc x5.State x5.Cond x5.Lock l9)); let Z31 := (Z30.map o179); let Z32 := (AV.own 142 1 Z25); let Z33 := [Z12, (I x5.Pc), Z13, Z14, Z15, Z32]; let Z34 := (x5.Pc + 1); let Z35 := (w64 Z34); let Z36 := (Z30.set (Int.toNat p2) (GThread.mk x5.Routine Z35 x5.State x5.Cond x5.Lock l9)); let Z37 := (Z36.map o179); let Z38 := (w64 (Z19 - r6.1)); let Z39 := ((Z11.length : Nat) : Int); let Z40 := (I Z35); let Z41 := (GThread.mk x5.Routine x5.Pc x5.State x5.Cond x5.Lock l9); let Z42 := [Z12, Z40, Z13, Z14, Z15, Z32]; let Z43 := (AV.sl 1008 0 Z26); let Z44 := [Z12, Z40, Z13, Z14, Z15, Z43]; let Z45 := (Z37.set (Int.toNat p2) Z44); let Z54 := ((([p3.V].map o142).drop 0).take (List.length ([p3.V].map o142))); let Z55 := (AV.ptr 1004 (Int.toNat p2) 0); let Z56 := (AV.ptr 1004 (Int.toNat p2) 5); let Z58 := (AV.agg ((o59 p4))); let Z59 := (GThread.mk x5.Routine (w64 Z34) x5.State x5.Cond x5.Lock l9); let Z61 := (AV.sl 1011 0 Z26); let Z62 := [Z12, Z40, Z13, Z14, Z15, Z61]; let Z63 := (Z37.set (Int.toNat p2) Z62); let Z64 := (AV.sl 1004 0 (List.length Z63)); let Z65 := [Z64, Z4, Z6, Z7]; let Z66 := (List.length Z3); let Z67 := (AV.sl 1012 0 Z66); let Z68 := [Z64, Z67, Z6, Z7]; let Z79 := (AV.ptr 1001 0 1); let Z80 := (I p3.A); let Z81 := (AV.ptr 1002 0 1); let Z82 := (I p4.Thread); let Z83 := (I p4.Obj); let Z84 := (I p4.Lock); let Z85 := (I p4.Pc); let Z86 := (Root.mk 59 5 [[Z82, (I 2), Z83, Z84, Z85]]); let Z89 := (AV.agg [Z82, (I 2), Z80, Z84, Z85]); let Z91 := (List.length Z37); let Z92 := (AV.sl 1004 0 Z91); let Z93 := [Z92, Z4, Z6, Z7]; let Z94 := [Z93]; let Z95 := (AV.sl 1015 0 Z66); let Z96 := [Z92, Z95, Z6, Z7]; let Z99 := (AV.own 179 6 Z37); let Z100 := [Z99, Z95, Z6, Z7]; let Z102 := (Root.mk 59 5 [[Z82, (I 3), Z83, Z84, Z85]]); let Z103 := (((List.length Z21) : Nat) : Int); let Z105 := (AV.agg [Z82, (I 3), Z80, Z84, Z85]); let Z107 := (Z30.set (Int.toNat p2) (GThread.mk x5.Routine p3.A x5.State x5.Cond x5.Lock l9)); let Z108 := (Z107.map o179); let Z109 := [[(AV.own 179 6 Z108), Z4, Z6, Z7]]; let Z110 := (AV.sl 1004 0 (List.length Z108)); let Z111 := (Z8.set 0 (AV.own 179 6 Z108)); let Z112 := (o57 (GState.mk Z107 p1.Cells p1.Owner p1.Fault)); let Z113 := (GState.mk Z107 p1.Cells p1.Owner p1.Fault); let Z114 := [[Z99, Z4, Z6, Z7]]; let Z115 := (o57 (GState.mk Z36 p1.Cells p1.Owner p1.Fault)); let Z116 := (GState.mk Z36 p1.Cells p1.Owner p1.Fault); let Z117 := (List.length Z5); let Z118 := (AV.sl 1016 0 Z117); let Z119 := [Z92, Z4, Z118, Z7]; let Z120 := (p1.Owner.set (Int.toNat p3.A) p2); let Z121 := (Z120.map o3); let Z122 := [Z99, Z4, Z118, Z7]; let Z123 := [[Z99, Z4, (AV.own 3 1 Z121), Z7]]; let Z124 := (Root.mk 59 5 [[Z82, (I 4), Z83, Z84, Z85]]); let Z125 := ((Z117 : Nat) : Int); let Z126 := (o57 (GState.mk Z36 p1.Cells Z120 p1.Fault)); let Z127 := (AV.agg [Z82, (I 4), Z80, Z84, Z85]); let Z128 := (GState.mk Z36 p1.Cells Z120 p1.Fault); let Z129 := (AV.sl 1017 0 Z117); let Z130 := [Z92, Z4, Z129, Z7]; let Z131 := (p1.Owner.set (Int.toNat p3.A) (-1)); let Z132 := (Z131.map o3); let Z133 := [Z99, Z4, Z129, Z7]; let Z134 := [[Z99, Z4, (AV.own 3 1 Z132), Z7]]; let Z135 := (Root.mk 59 5 [[Z82, (I 5), Z83, Z84, Z85]]); let Z136 := [(I (-1))]; let Z137 := (o57 (GState.mk Z36 p1.Cells Z131 p1.Fault)); let Z138 := (AV.agg [Z82, (I 5), Z80, Z84, Z85]); let Z139 := (GState.mk Z36 p1.Cells Z131 p1.Fault); let Z140 := (I (Z36.length : Int)); let Z141 := (AV.sl 1018 0 Z26); let Z142 := [Z12, Z40, Z13, Z14, Z15, Z141]; let Z143 := (Z37.set (Int.toNat p2) Z142); let Z144 := [[(AV.sl 1004 0 (List.length Z143)), Z4, Z6, Z7]]; let Z145 := (fOf (Z36.length : Int)); let Z164 := (AV.ptr 0 0 0); let Z165 := ((Z91 : Nat) : Int); let Z166 := (Root.mk 59 5 [[Z82, (I 6), Z83, Z84, Z85]]); let Z167 := ((([Z145].map o142).drop 0).take (List.length ([Z145].map o142))); let Z169 := (AV.agg [Z82, (I 6), Z140, Z84, Z85]); let Z173 := (p3.Code == 15); let Z174 := (AV.sl 1006 0 (List.length Z21)); let Z175 := (AV.ptr 1006 (Int.toNat 0) 0); let Z176 := (AV.ptr 1002 0 2); let Z180 := (AV.sl 1024 0 Z117); let Z181 := [Z92, Z4, Z180, Z7]; let Z182 := (p1.Owner.set (Int.toNat p3.B) (-1)); let Z183 := (Z182.map o3); let Z184 := (w64 (Z35 - 1)); let Z185 := ((Z30.set (Int.toNat p2) (GThread.mk x5.Routine Z184 x5.State x5.Cond x5.Lock l9)).map o179); let Z186 := [Z12, (I Z184), Z13, Z14, Z15, Z32]; let Z187 := ((Z30.set (Int.toNat p2) (GThread.mk x5.Routine Z184 3 x5.Cond x5.Lock l9)).map o179); let Z188 := [Z12, (I Z184), (I 3), Z14, Z15, Z32]; let Z189 := ((Z30.set (Int.toNat p2) (GThread.mk x5.Routine Z184 3 p3.A x5.Lock l9)).map o179); let Z190 := [Z12, (I Z184), (I 3), Z80, Z15, Z32]; let Z191 := (Z30.set (Int.toNat p2) (GThread.mk x5.Routine Z184 3 p3.A p3.B l9)); let Z192 := (Z191.map o179); let Z193 := (AV.own 179 6 Z192); let Z194 := [Z193, Z4, Z180, Z7]; let Z195 := [[Z193, Z4, (AV.own 3 1 Z183), Z7]]; let Z196 := (AV.ptr 1001 0 2); let Z197 := (I p3.B); let Z198 := (Root.mk 59 5 [[Z82, (I 8), Z83, Z84, Z85]]); let Z199 := (Root.mk 59 5 [[Z82, (I 8), Z80, Z84, Z85]]); let Z200 := (AV.ptr 1004 (Int.toNat p2) 2); let Z201 := (AV.ptr 1004 (Int.toNat p2) 3); let Z202 := (o57 (GState.mk Z191 p1.Cells Z182 p1.Fault)); let Z203 := (AV.agg [Z82, (I 8), Z80, Z197, Z85]); let Z204 := (GState.mk Z191 p1.Cells Z182 p1.Fault); let Z205 := (Z36.map r179); let Z206 := (Root.mk 59 5 [[Z82, (I 10), Z83, Z84, Z85]]); let Z214 := (AV.sl 1025 0 Z26); let Z215 := [Z12, Z40, Z13, Z14, Z15, Z214]; let Z216 := (Z37.set (Int.toNat p2) Z215)
 let H1 : List Hn := [hW 0 1001, hW 1 1002, hW 2 1003, ⟨6, .unpack 0 1004 0 0 Z0 179 6 Z1 [Z8], none⟩, ⟨11, .callV [[]] Z9, none⟩, ⟨20, .unpack 1004 1005 (Int.toNat p2) 5 Z10 142 1 Z11 Z18, none⟩, ⟨20, .row Z17, none⟩, hO 21 (I Z19), ⟨28, .row Z17, none⟩, ⟨31, .call [Z20] Z22 [1006], none⟩, ⟨37, .row Z17, none⟩, ⟨39, .fgt 1004 (Int.toNat p2) 5 Z17 Z24, none⟩, ⟨39, .shr 1007 Z25, none⟩, ⟨42, .sto Z23 Z29, none⟩, ⟨46, .row Z28, none⟩, ⟨50, .pack 1004 1007 (Int.toNat p2) 5 Z28 Z31, none⟩, ⟨50, .sto Z33 Z37, none⟩]
 let P2 : List Prop := [[Z0][0]? = some Z0, Z0[0]? = some (AV.own 179 6 Z1), 0 < 6, [Z0].set 0 (Z0.set 0 Z2) = [Z8], (0 : Int) ≤ p2, p2 < (((List.length Z1) : Nat) : Int), Meets Tryz.prog 184 [(AV.agg ((o144 p3)))] Z9, litA Z9 = true, Z1[(Int.toNat p2)]? = some Z10, Z10[5]? = some (AV.own 142 1 Z11), 0 < 1, Z1.set (Int.toNat p2) (Z10.set 5 (AV.sl 1005 0 Z16)) = Z18, Z18[(Int.toNat p2)]? = some Z17, AV.lit (.int .i64 ((Z16 : Nat) : Int)) = (I Z19), Z18[(Int.toNat p2)]? = some Z17, (0 : Int) ≤ Z38, Z38 ≤ Z39, Z39 ≤ ((Z16 : Nat) : Int), Meets Tryz.prog 143 [(AV.ro 1 Z20)] Z22, noRo Z22 = true, Frz ((Z11.drop (Int.toNat Z38)).take (subO (Int.toNat Z39) (Int.toNat Z38))) Z20, Z18[(Int.toNat p2)]? = some Z17, Z18[(Int.toNat p2)]? = some Z17, Z18.set (Int.toNat p2) (Z17.set 5 .dead) = Z24, (0 : Int) ≤ Z38, Z38 ≤ Z39, Z11.take (Int.toNat Z38) = Z25, Z16 = Z16, Z24[(Int.toNat p2)]? = some Z23, Z24.set (Int.toNat p2) (wr Z23 5 [Z27]) = Z29, [Z27].length = 1, 5 + [Z27].length ≤ Z23.length, Z29[(Int.toNat p2)]? = some Z28, Z29[(Int.toNat p2)]? = some Z28, Z28[5]? = some Z27, treeLL Z25 = true, Z29.set (Int.toNat p2) (Z28.set 5 Z32) = Z31, Z31[(Int.toNat p2)]? = some Z33, Z31.set (Int.toNat p2) (wr Z33 1 [Z40]) = Z37, [Z40].length = 1, 1 + [Z40].length ≤ Z33.length]
 have AP2 : AllP P2 := ⟨rfl, rfl, (by decide), rfl, (rd0 hx5), (rdL o179 hx5), (impl_Op_takes_m hr6), rfl, (rdM o179 hx5), rfl, (by decide), rfl, (setE (rdM o179 hx5)), (lenM o142), (setE (rdM o179 hx5)), (sl0 hl7), (sl1e o142 hl7), (Int.le_refl _), (slices_Clone_float64_float64_m hr8), (by simp +zetaDelta only [noRo, noRoL, noRoM n142, Bool.and_self]), (frzSe t142 z142 hl7), (setE (rdM o179 hx5)), (setE (rdM o179 hx5)), (setHH rfl), (sl1 hl9), (sl2 o142 hl9), (shT o142 hl9), rfl, (setE (rdM o179 hx5)), (setHH rfl), rfl, leB, (setE (rdM o179 hx5)), (setE (rdM o179 hx5)), rfl, (treeM t142), (setPe o179 (y := Z41) rfl), (rdM o179 (rdS (y := Z41) hx5)), (setMrq o179), rfl, leB, trivial⟩
 rcases itS h with ⟨c10, h⟩ | ⟨c12, h⟩
 ·obtain ⟨l11, hl11, h⟩ := bnS h
  obtain rfl := sj h
  exact (let Z46 := (l11.map o142); let Z47 := (List.length Z46); let Z48 := (AV.sl 1010 0 Z47); let Z49 := [Z12, Z40, Z13, Z14, Z15, Z48]; let Z50 := (Z37.set (Int.toNat p2) Z49); let Z51 := (Z36.set (Int.toNat p2) (GThread.mk x5.Routine Z35 x5.State x5.Cond x5.Lock l11)); let Z52 := (Z51.map o179); let Z53 := [[(AV.own 179 6 Z52), Z4, Z6, Z7]]; let Z57 := (o57 (GState.mk Z51 p1.Cells p1.Owner p1.Fault)); let Z60 := (GState.mk Z51 p1.Cells p1.Owner p1.Fault); gR hP hn (H1 ++ [hT 55, ⟨56, .unpack 1004 1008 (Int.toNat p2) 5 Z42 142 1 Z25 Z45, none⟩, ⟨60, .row Z44, none⟩, hW 63 1009, ⟨64, .app 1010 Z46, none⟩, ⟨70, .row Z44, none⟩, ⟨73, .sto Z44 Z50, none⟩, ⟨76, .pack 1004 1010 (Int.toNat p2) 5 Z49 Z52, none⟩, ⟨76, .pack 0 1004 0 0 Z8 Z53, none⟩]) [] .raw (P2 ++ [(p3.Code == 1) = true, Z37[(Int.toNat p2)]? = some Z42, Z42[5]? = some Z32, 0 < 1, Z37.set (Int.toNat p2) (Z42.set 5 Z43) = Z45, Z45[(Int.toNat p2)]? = some Z44, Z25.take Z26 ++ Z54 = Z46, Z54.all (fun r => r.all AV.plain) = true, Z47 * 8 ≤ 140737488355328, Z47 ≤ 140737488355328, Z55 = Z55, Z55 = Z55, Z55 = Z55, Z55 = Z55, Z56 = Z56, Z43 = Z43, Z45[(Int.toNat p2)]? = some Z44, Z45[(Int.toNat p2)]? = some Z44, Z45.set (Int.toNat p2) (wr Z44 5 [Z48]) = Z50, [Z48].length = 1, 5 + [Z48].length ≤ Z44.length, Z50[(Int.toNat p2)]? = some Z49, Z49[5]? = some Z48, treeLL Z46 = true, Z50.set (Int.toNat p2) (Z49.set 5 (AV.own 142 1 Z46)) = Z52, [Z8][0]? = some Z8, Z8[0]? = some (AV.sl 1004 0 (List.length Z52)), treeLL Z52 = true, [Z8].set 0 (Z8.set 0 (AV.own 179 6 Z52)) = Z53, Z53 = [Z57], treeLL [Z57] = true, noRoLL [Z57] = true, Z58 = Z58, litA Z58 = true]) (andP AP2 ⟨c10, (rdM o179 (rdS (y := Z59) (rdS (y := Z41) hx5))), rfl, (by decide), rfl, (setE (rdM o179 (rdS (y := Z59) (rdS (y := Z41) hx5)))), (appTD o142 hl11), (plD pa142), (appB o142 hl11 (by decide)), (appC o142 hl11), rfl, rfl, rfl, rfl, rfl, rfl, (setE (rdM o179 (rdS (y := Z59) (rdS (y := Z41) hx5)))), (setE (rdM o179 (rdS (y := Z59) (rdS (y := Z41) hx5)))), (setHH rfl), rfl, leB, (setE (rdM o179 (rdS (y := Z59) (rdS (y := Z41) hx5)))), rfl, (treeM t142), (setPe o179 (y := (GThread.mk x5.Routine (w64 Z34) x5.State x5.Cond x5.Lock l11)) rfl), rfl, (pkS lnq), (treeM t179), rfl, rfl, (treeB t57 Z60), (noRoB n57 Z60), rfl, rfl, trivial⟩))
 ·let P3 : List Prop := P2 ++ [(p3.Code == 1) = false]
  have AP3 : AllP P3 := andP AP2 ⟨c12, trivial⟩
  rcases itS h with ⟨c13, h⟩ | ⟨c16, h⟩
  ·obtain ⟨x14, hx14, h⟩ := bnS h
   obtain ⟨l15, hl15, h⟩ := bnS h
   obtain rfl := sj h
   exact (let Z69 := (l15.map o142); let Z70 := (List.length Z69); let Z71 := (AV.sl 1014 0 Z70); let Z72 := [Z12, Z40, Z13, Z14, Z15, Z71]; let Z73 := (Z37.set (Int.toNat p2) Z72); let Z74 := (Z36.set (Int.toNat p2) (GThread.mk x5.Routine Z35 x5.State x5.Cond x5.Lock l15)); let Z75 := (Z74.map o179); let Z76 := (AV.own 179 6 Z75); let Z77 := [Z76, Z67, Z6, Z7]; let Z78 := [[Z76, Z4, Z6, Z7]]; let Z87 := ((([x14].map o142).drop 0).take (List.length ([x14].map o142))); let Z88 := (o57 (GState.mk Z74 p1.Cells p1.Owner p1.Fault)); let Z90 := (GState.mk Z74 p1.Cells p1.Owner p1.Fault); gR hP hn (H1 ++ [hF 55, hT 58, ⟨65, .unpack 1004 1011 (Int.toNat p2) 5 Z42 142 1 Z25 Z63, none⟩, ⟨65, .eqr 0 [Z65], none⟩, ⟨65, .unpack 0 1012 0 1 Z65 142 1 Z3 [Z68], none⟩, ⟨69, .row Z62, none⟩, ⟨77, .row [(FK x14)], none⟩, hW 78 1013, ⟨79, .app 1014 Z69, none⟩, ⟨85, .row Z62, none⟩, ⟨88, .sto Z62 Z73, none⟩, ⟨91, .pack 1004 1014 (Int.toNat p2) 5 Z72 Z75, none⟩, ⟨91, .pack 0 1004 0 0 Z68 [Z77], none⟩, ⟨91, .pack 0 1012 0 1 Z77 Z78, none⟩]) [] .raw (P3 ++ [(p3.Code == 2) = true, Z79 = Z79, Z79 = Z79, Z80 = Z80, Z80 = Z80, Z81 = Z81, [(1002, some Z86)] = [(1002, some Z86)], Z37[(Int.toNat p2)]? = some Z42, Z42[5]? = some Z32, 0 < 1, Z37.set (Int.toNat p2) (Z42.set 5 Z61) = Z63, [Z8] = [Z65], [Z65][0]? = some Z65, Z65[1]? = some Z4, 0 < 1, [Z65].set 0 (Z65.set 1 Z67) = [Z68], Z63[(Int.toNat p2)]? = some Z62, (0 : Int) ≤ p3.A, p3.A < ((Z66 : Nat) : Int), Z3[(Int.toNat p3.A)]? = some [(FK x14)], Z25.take Z26 ++ Z87 = Z69, Z87.all (fun r => r.all AV.plain) = true, Z70 * 8 ≤ 140737488355328, Z70 ≤ 140737488355328, Z55 = Z55, Z55 = Z55, Z55 = Z55, Z55 = Z55, Z56 = Z56, Z61 = Z61, Z63[(Int.toNat p2)]? = some Z62, Z63[(Int.toNat p2)]? = some Z62, Z63.set (Int.toNat p2) (wr Z62 5 [Z71]) = Z73, [Z71].length = 1, 5 + [Z71].length ≤ Z62.length, Z73[(Int.toNat p2)]? = some Z72, Z72[5]? = some Z71, treeLL Z69 = true, Z73.set (Int.toNat p2) (Z72.set 5 (AV.own 142 1 Z69)) = Z75, [Z68][0]? = some Z68, Z68[0]? = some (AV.sl 1004 0 (List.length Z75)), treeLL Z75 = true, [Z68].set 0 (Z68.set 0 Z76) = [Z77], [Z77][0]? = some Z77, Z77[1]? = some Z67, treeLL Z3 = true, [Z77].set 0 (Z77.set 1 Z4) = Z78, Z78 = [Z88], treeLL [Z88] = true, noRoLL [Z88] = true, Z89 = Z89, litA Z89 = true]) (andP AP3 ⟨c13, rfl, rfl, rfl, rfl, rfl, rfl, (rdM o179 (rdS (y := Z59) (rdS (y := Z41) hx5))), rfl, (by decide), rfl, (congrArg (fun nn => [[(AV.sl 1004 0 nn), Z4, Z6, (I p1.Fault)]]) (show (List.length Z1) = (List.length Z63) from lnq)), rfl, rfl, (by decide), rfl, (setE (rdM o179 (rdS (y := Z59) (rdS (y := Z41) hx5)))), (rd0 hx14), (rdL o142 hx14), (rdM o142 hx14), (appTD o142 hl15), (plD pa142), (appB o142 hl15 (by decide)), (appC o142 hl15), rfl, rfl, rfl, rfl, rfl, rfl, (setE (rdM o179 (rdS (y := Z59) (rdS (y := Z41) hx5)))), (setE (rdM o179 (rdS (y := Z59) (rdS (y := Z41) hx5)))), (setHH rfl), rfl, leB, (setE (rdM o179 (rdS (y := Z59) (rdS (y := Z41) hx5)))), rfl, (treeM t142), (setPe o179 (y := (GThread.mk x5.Routine (w64 Z34) x5.State x5.Cond x5.Lock l15)) rfl), rfl, (pkS lnq), (treeM t179), rfl, rfl, rfl, (treeM t142), rfl, rfl, (treeB t57 Z90), (noRoB n57 Z90), rfl, rfl, trivial⟩))
  ·let H4 : List Hn := H1 ++ [hF 55, hF 58]
   let P5 : List Prop := P3 ++ [(p3.Code == 2) = false]
   have AP5 : AllP P5 := andP AP3 ⟨c16, trivial⟩
   rcases itS h with ⟨c17, h⟩ | ⟨c20, h⟩
   ·obtain ⟨x18, hx18, h⟩ := bnS h
    obtain ⟨x19, hx19, h⟩ := bnS h
    obtain rfl := sj h
    exact (let Z97 := (p1.Cells.set (Int.toNat p3.A) x18); let Z98 := (Z97.map o142); let Z101 := [[Z99, (AV.own 142 1 Z98), Z6, Z7]]; let Z104 := (o57 (GState.mk Z36 Z97 p1.Owner p1.Fault)); let Z106 := (GState.mk Z36 Z97 p1.Owner p1.Fault); gR hP hn (H4 ++ [hT 61, ⟨68, .eqr 0 Z94, none⟩, ⟨68, .unpack 0 1015 0 1 Z93 142 1 Z3 [Z96], none⟩, ⟨76, .row [(FK x18)], none⟩, ⟨78, .sto [(FK x19)] Z98, none⟩, ⟨81, .pack 0 1004 0 0 Z96 [Z100], none⟩, ⟨81, .pack 0 1015 0 1 Z100 Z101, none⟩]) [] .raw (P5 ++ [(p3.Code == 3) = true, Z79 = Z79, Z79 = Z79, Z80 = Z80, Z80 = Z80, Z81 = Z81, [(1002, some Z102)] = [(1002, some Z102)], [Z8] = Z94, Z94[0]? = some Z93, Z93[1]? = some Z4, 0 < 1, Z94.set 0 (Z93.set 1 Z95) = [Z96], (0 : Int) ≤ 0, 0 < Z103, Z21[(Int.toNat 0)]? = some [(FK x18)], (0 : Int) ≤ p3.A, p3.A < ((Z66 : Nat) : Int), Z3[(Int.toNat p3.A)]? = some [(FK x19)], Z3.set (Int.toNat p3.A) (wr [(FK x19)] 0 [(FK x18)]) = Z98, [(FK x18)].length = 1, 0 + [(FK x18)].length ≤ [(FK x19)].length, [Z96][0]? = some Z96, Z96[0]? = some Z92, treeLL Z37 = true, [Z96].set 0 (Z96.set 0 Z99) = [Z100], [Z100][0]? = some Z100, Z100[1]? = some (AV.sl 1015 0 (List.length Z98)), treeLL Z98 = true, [Z100].set 0 (Z100.set 1 (AV.own 142 1 Z98)) = Z101, Z101 = [Z104], treeLL [Z104] = true, noRoLL [Z104] = true, Z105 = Z105, litA Z105 = true]) (andP AP5 ⟨c17, rfl, rfl, rfl, rfl, rfl, rfl, (congrArg (fun nn => [[(AV.sl 1004 0 nn), Z4, Z6, (I p1.Fault)]]) (show (List.length Z1) = (List.length Z37) from lnq)), rfl, rfl, (by decide), rfl, (rd0 hx18), (rdL o142 hx18), (rdM o142 hx18), (rd0 hx19), (rdL o142 hx19), (rdM o142 hx19), (setM o142), rfl, leB, rfl, rfl, (treeM t179), rfl, rfl, (pkS lnq), (treeM t142), rfl, rfl, (treeB t57 Z106), (noRoB n57 Z106), rfl, rfl, trivial⟩))
   ·let P6 : List Prop := P5 ++ [(p3.Code == 3) = false]
    have AP6 : AllP P6 := andP AP5 ⟨c20, trivial⟩
    rcases itS h with ⟨c21, h⟩ | ⟨c22, h⟩
    ·obtain rfl := sj h
     exact gR hP hn (H4 ++ [hF 61, hT 64, ⟨70, .sto Z42 Z108, none⟩, ⟨73, .pack 0 1004 0 0 Z8 Z109, none⟩]) [] .raw (P6 ++ [(p3.Code == 10) = true, Z37[(Int.toNat p2)]? = some Z42, Z37.set (Int.toNat p2) (wr Z42 1 [Z80]) = Z108, [Z80].length = 1, 1 + [Z80].length ≤ Z42.length, [Z8][0]? = some Z8, Z8[0]? = some Z110, treeLL Z108 = true, [Z8].set 0 Z111 = Z109, Z109 = [Z112], treeLL [Z112] = true, noRoLL [Z112] = true, Z58 = Z58, litA Z58 = true]) (andP AP6 ⟨c21, (rdM o179 (rdS (y := Z59) (rdS (y := Z41) hx5))), (setSSq o179), rfl, leB, rfl, (pkS lnq), (treeM t179), rfl, rfl, (treeB t57 Z113), (noRoB n57 Z113), rfl, rfl, trivial⟩)
    ·let H7 : List Hn := H4 ++ [hF 61, hF 64]
     let P8 : List Prop := P6 ++ [(p3.Code == 10) = false]
     have AP8 : AllP P8 := andP AP6 ⟨c22, trivial⟩
     rcases itS h with ⟨c23, h⟩ | ⟨c33, h⟩
     ·obtain ⟨x24, hx24, h⟩ := bnS h
      obtain ⟨r30, hr30, h⟩ := bnS h
      let H9 : List Hn := H7 ++ [hT 67, ⟨70, .row [(FK x24)], none⟩, ⟨71, .callV [] (B r30), none⟩]
      let P10 : List Prop := P8 ++ [(p3.Code == 11) = true, (0 : Int) ≤ 0, 0 < Z103, Z21[(Int.toNat 0)]? = some [(FK x24)], Meets Tryz.prog 185 [(FK x24)] (B r30), litA (B r30) = true]
      have AP10 : AllP P10 := andP AP8 ⟨c23, (rd0 hx24), (rdL o142 hx24), (rdM o142 hx24), (impl_isNo_m hr30), rfl, trivial⟩
      rcases itS h with ⟨c31, h⟩ | ⟨c32, h⟩
      ·obtain rfl := sj h
       exact gR hP hn (H9 ++ [hT 72, ⟨78, .sto Z42 Z108, none⟩, ⟨81, .pack 0 1004 0 0 Z8 Z109, none⟩]) [] .raw (P10 ++ [r30 = true, Z37[(Int.toNat p2)]? = some Z42, Z37.set (Int.toNat p2) (wr Z42 1 [Z80]) = Z108, [Z80].length = 1, 1 + [Z80].length ≤ Z42.length, [Z8][0]? = some Z8, Z8[0]? = some Z110, treeLL Z108 = true, [Z8].set 0 Z111 = Z109, Z109 = [Z112], treeLL [Z112] = true, noRoLL [Z112] = true, Z58 = Z58, litA Z58 = true]) (andP AP10 ⟨c31, (rdM o179 (rdS (y := Z59) (rdS (y := Z41) hx5))), (setSSq o179), rfl, leB, rfl, (pkS lnq), (treeM t179), rfl, rfl, (treeB t57 Z113), (noRoB n57 Z113), rfl, rfl, trivial⟩)
      ·obtain rfl := sj h
       exact gR hP hn (H9 ++ [hF 72, ⟨75, .pack 0 1004 0 0 Z8 Z114, none⟩]) [] .raw (P10 ++ [r30 = false, [Z8][0]? = some Z8, Z8[0]? = some Z92, treeLL Z37 = true, [Z8].set 0 (Z8.set 0 Z99) = Z114, Z114 = [Z115], treeLL [Z115] = true, noRoLL [Z115] = true, Z58 = Z58, litA Z58 = true]) (andP AP10 ⟨c32, rfl, (pkS lnq), (treeM t179), rfl, rfl, (treeB t57 Z116), (noRoB n57 Z116), rfl, rfl, trivial⟩)
     ·let P11 : List Prop := P8 ++ [(p3.Code == 11) = false]
      have AP11 : AllP P11 := andP AP8 ⟨c33, trivial⟩
      rcases itS h with ⟨c34, h⟩ | ⟨c36, h⟩
      ·obtain ⟨x35, hx35, h⟩ := bnS h
       obtain rfl := sj h
       exact gR hP hn (H7 ++ [hF 67, hT 70, ⟨77, .eqr 0 Z94, none⟩, ⟨77, .unpack 0 1016 0 2 Z93 3 1 Z5 [Z119], none⟩, ⟨85, .sto [(I x35)] Z121, none⟩, ⟨88, .pack 0 1004 0 0 Z119 [Z122], none⟩, ⟨88, .pack 0 1016 0 2 Z122 Z123, none⟩]) [] .raw (P11 ++ [(p3.Code == 12) = true, Z79 = Z79, Z79 = Z79, Z80 = Z80, Z80 = Z80, Z81 = Z81, [(1002, some Z124)] = [(1002, some Z124)], [Z8] = Z94, Z94[0]? = some Z93, Z93[2]? = some Z6, 0 < 1, Z94.set 0 (Z93.set 2 Z118) = [Z119], (0 : Int) ≤ p3.A, p3.A < Z125, Z5[(Int.toNat p3.A)]? = some [(I x35)], Z5.set (Int.toNat p3.A) (wr [(I x35)] 0 [(I p2)]) = Z121, [(I p2)].length = 1, 0 + [(I p2)].length ≤ [(I x35)].length, [Z119][0]? = some Z119, Z119[0]? = some Z92, treeLL Z37 = true, [Z119].set 0 (Z119.set 0 Z99) = [Z122], [Z122][0]? = some Z122, Z122[2]? = some (AV.sl 1016 0 (List.length Z121)), treeLL Z121 = true, [Z122].set 0 (Z122.set 2 (AV.own 3 1 Z121)) = Z123, Z123 = [Z126], treeLL [Z126] = true, noRoLL [Z126] = true, Z127 = Z127, litA Z127 = true]) (andP AP11 ⟨c34, rfl, rfl, rfl, rfl, rfl, rfl, (congrArg (fun nn => [[(AV.sl 1004 0 nn), Z4, Z6, (I p1.Fault)]]) (show (List.length Z1) = (List.length Z37) from lnq)), rfl, rfl, (by decide), rfl, (rd0 hx35), (rdL o3 hx35), (rdM o3 hx35), (setM o3), rfl, leB, rfl, rfl, (treeM t179), rfl, rfl, (pkS lnq), (treeM t3), rfl, rfl, (treeB t57 Z128), (noRoB n57 Z128), rfl, rfl, trivial⟩)
      ·let P12 : List Prop := P11 ++ [(p3.Code == 12) = false]
       have AP12 : AllP P12 := andP AP11 ⟨c36, trivial⟩
       rcases itS h with ⟨c37, h⟩ | ⟨c39, h⟩
       ·obtain ⟨x38, hx38, h⟩ := bnS h
        obtain rfl := sj h
        exact gR hP hn (H7 ++ [hF 67, hF 70, hT 73, ⟨80, .eqr 0 Z94, none⟩, ⟨80, .unpack 0 1017 0 2 Z93 3 1 Z5 [Z130], none⟩, ⟨87, .sto [(I x38)] Z132, none⟩, ⟨90, .pack 0 1004 0 0 Z130 [Z133], none⟩, ⟨90, .pack 0 1017 0 2 Z133 Z134, none⟩]) [] .raw (P12 ++ [(p3.Code == 13) = true, Z79 = Z79, Z79 = Z79, Z80 = Z80, Z80 = Z80, Z81 = Z81, [(1002, some Z135)] = [(1002, some Z135)], [Z8] = Z94, Z94[0]? = some Z93, Z93[2]? = some Z6, 0 < 1, Z94.set 0 (Z93.set 2 Z129) = [Z130], (0 : Int) ≤ p3.A, p3.A < Z125, Z5[(Int.toNat p3.A)]? = some [(I x38)], Z5.set (Int.toNat p3.A) (wr [(I x38)] 0 Z136) = Z132, Z136.length = 1, 0 + Z136.length ≤ [(I x38)].length, [Z130][0]? = some Z130, Z130[0]? = some Z92, treeLL Z37 = true, [Z130].set 0 (Z130.set 0 Z99) = [Z133], [Z133][0]? = some Z133, Z133[2]? = some (AV.sl 1017 0 (List.length Z132)), treeLL Z132 = true, [Z133].set 0 (Z133.set 2 (AV.own 3 1 Z132)) = Z134, Z134 = [Z137], treeLL [Z137] = true, noRoLL [Z137] = true, Z138 = Z138, litA Z138 = true]) (andP AP12 ⟨c37, rfl, rfl, rfl, rfl, rfl, rfl, (congrArg (fun nn => [[(AV.sl 1004 0 nn), Z4, Z6, (I p1.Fault)]]) (show (List.length Z1) = (List.length Z37) from lnq)), rfl, rfl, (by decide), rfl, (rd0 hx38), (rdL o3 hx38), (rdM o3 hx38), (setM o3), rfl, leB, rfl, rfl, (treeM t179), rfl, rfl, (pkS lnq), (treeM t3), rfl, rfl, (treeB t57 Z139), (noRoB n57 Z139), rfl, rfl, trivial⟩)
       ·let H13 : List Hn := H7 ++ [hF 67, hF 70, hF 73]
        let P14 : List Prop := P12 ++ [(p3.Code == 13) = false]
        have AP14 : AllP P14 := andP AP12 ⟨c39, trivial⟩
        rcases itS h with ⟨c40, h⟩ | ⟨c44, h⟩
        ·obtain ⟨l41, hl41, h⟩ := bnS h
         obtain ⟨r42, hr42, h⟩ := bnS h
         obtain ⟨l43, hl43, h⟩ := bnS h
         obtain rfl := sj h
         exact (let Z146 := (l41.map o142); let Z147 := (List.length Z146); let Z148 := (AV.sl 1020 0 Z147); let Z149 := [Z12, Z40, Z13, Z14, Z15, Z148]; let Z150 := (Z37.set (Int.toNat p2) Z149); let Z151 := (AV.sl 1004 0 (List.length Z150)); let Z152 := (Z36.set (Int.toNat p2) (GThread.mk x5.Routine Z35 x5.State x5.Cond x5.Lock l41)); let Z153 := (Z152.map o179); let Z154 := (AV.agg (o179 r42)); let Z155 := (r42.Stack.map o142); let Z156 := (AV.sl 1021 0 (List.length Z155)); let Z157 := [(I r42.Routine), (I r42.Pc), (I r42.State), (I r42.Cond), (I r42.Lock), Z156]; let Z158 := (Z153 ++ [Z157]); let Z159 := (List.length Z152); let Z160 := (l43.map o179); let Z161 := (List.length Z158); let Z162 := ([(AV.sl 1023 0 Z161), Z4, Z6, Z7]); let Z163 := [[(AV.own 179 6 Z160), Z4, Z6, Z7]]; let Z168 := (o57 (GState.mk l43 p1.Cells p1.Owner p1.Fault)); let Z170 := (GState.mk l43 p1.Cells p1.Owner p1.Fault); gR hP hn (H13 ++ [hT 76, ⟨77, .eqr 0 Z94, none⟩, hO 81 Z140, ⟨86, .unpack 1004 1018 (Int.toNat p2) 5 Z42 142 1 Z25 Z143, none⟩, ⟨86, .eqr 0 Z144, none⟩, ⟨90, .row Z142, none⟩, hO 95 Z140, ⟨96, .cnv (FK Z145), none⟩, hW 97 1019, ⟨98, .app 1020 Z146, none⟩, ⟨104, .row Z142, none⟩, ⟨107, .sto Z142 Z150, none⟩, ⟨108, .eqr 0 [[Z151, Z4, Z6, Z7]], none⟩, ⟨108, .pack 1004 1020 (Int.toNat p2) 5 Z149 Z153, none⟩, ⟨115, .call [] Z154 [1021], none⟩, hW 116 1022, ⟨117, .app 1023 Z158, none⟩, ⟨129, .pack 1023 1021 Z159 5 Z157 Z160, none⟩, ⟨134, .pack 0 1023 0 0 Z162 Z163, none⟩]) [] .raw (P14 ++ [(p3.Code == 14) = true, [Z8] = Z94, Z164 = Z164, Z164 = Z164, Z164 = Z164, Z164 = Z164, Z164 = Z164, Z164 = Z164, Z92 = Z92, Z92 = Z92, Z140 = Z140, AV.lit (.int .i64 Z165) = Z140, Z140 = Z140, AV.lit (.int .i64 Z165) = Z140, Z81 = Z81, [(1002, some Z166)] = [(1002, some Z166)], Z37[(Int.toNat p2)]? = some Z42, Z42[5]? = some Z32, 0 < 1, Z37.set (Int.toNat p2) (Z42.set 5 Z141) = Z143, Z94 = Z144, Z143[(Int.toNat p2)]? = some Z142, AV.lit (.int .i64 (((List.length Z143) : Nat) : Int)) = Z140, CnvS Tryz.prog 3 142 Z140 (FK Z145), Z25.take Z26 ++ Z167 = Z146, Z167.all (fun r => r.all AV.plain) = true, Z147 * 8 ≤ 140737488355328, Z147 ≤ 140737488355328, Z55 = Z55, Z55 = Z55, Z55 = Z55, Z55 = Z55, Z56 = Z56, Z141 = Z141, Z143[(Int.toNat p2)]? = some Z142, Z143[(Int.toNat p2)]? = some Z142, Z143.set (Int.toNat p2) (wr Z142 5 [Z148]) = Z150, [Z148].length = 1, 5 + [Z148].length ≤ Z142.length, Z144 = [[Z151, Z4, Z6, Z7]], Z150[(Int.toNat p2)]? = some Z149, Z149[5]? = some Z148, treeLL Z146 = true, Z150.set (Int.toNat p2) (Z149.set 5 (AV.own 142 1 Z146)) = Z153, Meets Tryz.prog 175 [Z80] Z154, noRo Z154 = true, Z153.take (List.length Z150) ++ [Z157] = Z158, [Z157].all (fun r => r.all AV.plain) = true, Z161 * 64 ≤ 140737488355328, Z161 ≤ 140737488355328, Z164 = Z164, Z164 = Z164, Z164 = Z164, Z164 = Z164, Z164 = Z164, Z164 = Z164, Z164 = Z164, Z164 = Z164, Z164 = Z164, Z151 = Z151, Z151 = Z151, Z158[Z159]? = some Z157, Z157[5]? = some Z156, treeLL Z155 = true, Z158.set Z159 (Z157.set 5 (AV.own 142 1 Z155)) = Z160, [Z162][0]? = some Z162, Z162[0]? = some (AV.sl 1023 0 (List.length Z160)), treeLL Z160 = true, [Z162].set 0 (Z162.set 0 (AV.own 179 6 Z160)) = Z163, Z163 = [Z168], treeLL [Z168] = true, noRoLL [Z168] = true, Z169 = Z169, litA Z169 = true]) (andP AP14 ⟨c40, (congrArg (fun nn => [[(AV.sl 1004 0 nn), Z4, Z6, (I p1.Fault)]]) (show (List.length Z1) = (List.length Z37) from lnq)), rfl, rfl, rfl, rfl, rfl, rfl, rfl, rfl, rfl, (lenM o179), rfl, (lenM o179), rfl, rfl, (rdM o179 (rdS (y := Z59) (rdS (y := Z41) hx5))), rfl, (by decide), rfl, (congrArg (fun nn => [[(AV.sl 1004 0 nn), Z4, Z6, (I p1.Fault)]]) (show (List.length Z37) = (List.length Z143) from lnq)), (setE (rdM o179 (rdS (y := Z59) (rdS (y := Z41) hx5)))), (by simp +zetaDelta only [List.length_set, List.length_map]), (cIF (P := Tryz.prog) ty3 ty142), (appTD o142 hl41), (plD pa142), (appB o142 hl41 (by decide)), (appC o142 hl41), rfl, rfl, rfl, rfl, rfl, rfl, (setE (rdM o179 (rdS (y := Z59) (rdS (y := Z41) hx5)))), (setE (rdM o179 (rdS (y := Z59) (rdS (y := Z41) hx5)))), (setHH rfl), rfl, leB, (congrArg (fun nn => [[(AV.sl 1004 0 nn), Z4, Z6, (I p1.Fault)]]) (show (List.length Z143) = (List.length Z150) from lnq)), (setE (rdM o179 (rdS (y := Z59) (rdS (y := Z41) hx5)))), rfl, (treeM t142), (setPe o179 (y := (GThread.mk x5.Routine (w64 Z34) x5.State x5.Cond x5.Lock l41)) rfl), (impl_newThread_m hr42), (by simp +zetaDelta only [noRo, noRoL, noRoM n142, o179, Bool.and_self]), (adT lnq), rfl, (apB o179 hl43 (by decide)), (apC o179 hl43), rfl, rfl, rfl, rfl, rfl, rfl, rfl, rfl, rfl, rfl, rfl, (apG o179), rfl, (treeM t142), (apS o179 hl43), rfl, (pkS lnq), (treeM t179), rfl, rfl, (treeB t57 Z170), (noRoB n57 Z170), rfl, rfl, trivial⟩))
        ·let P15 : List Prop := P14 ++ [(p3.Code == 14) = false]
         have AP15 : AllP P15 := andP AP14 ⟨c44, trivial⟩
         rcases itS h with ⟨c45, h⟩ | ⟨c48, h⟩
         ·obtain ⟨x46, hx46, h⟩ := bnS h
          obtain ⟨r47, hr47, h⟩ := bnS h
          obtain rfl := sj h
          exact (let Z171 := (B r47.2); let Z172 := (AV.tup [(I r47.1), Z171]); let Z177 := [Z82, (I 7), (I r47.1), Z84, Z85]; let Z178 := (Root.mk 59 5 [Z177]); let Z179 := (AV.agg Z177); gR hP hn (H13 ++ [hF 76, hT 79, ⟨82, .eqr 0 Z94, none⟩, ⟨84, .row [(FK x46)], none⟩, hO 89 Z140, ⟨90, .callV [] Z172, none⟩, ⟨98, .pack 0 1004 0 0 Z93 Z114, none⟩]) [] .raw (P15 ++ [Z173 = true, [Z8] = Z94, Z174 = Z174, Z175 = Z175, (0 : Int) ≤ 0, 0 < Z103, (FK x46) = (FK x46), Z21[(Int.toNat 0)]? = some [(FK x46)], Z164 = Z164, Z164 = Z164, Z164 = Z164, Z92 = Z92, Z140 = Z140, AV.lit (.int .i64 Z165) = Z140, Z172 = Z172, Meets Tryz.prog 186 [(FK x46), Z140] Z172, litA Z172 = true, Z172 = Z172, (I r47.1) = (I r47.1), Z171 = Z171, Z171 = Z171, Z176 = Z176, [(1002, some Z178)] = [(1002, some Z178)], Z94[0]? = some Z93, Z93[0]? = some Z92, treeLL Z37 = true, Z94.set 0 (Z93.set 0 Z99) = Z114, Z114 = [Z115], treeLL [Z115] = true, noRoLL [Z115] = true, Z179 = Z179, litA Z179 = true]) (andP AP15 ⟨c45, (congrArg (fun nn => [[(AV.sl 1004 0 nn), Z4, Z6, (I p1.Fault)]]) (show (List.length Z1) = (List.length Z37) from lnq)), rfl, rfl, (rd0 hx46), (rdL o142 hx46), rfl, (rdM o142 hx46), rfl, rfl, rfl, rfl, rfl, (lenM o179), rfl, (impl_ToIndex_m hr47), rfl, rfl, rfl, rfl, rfl, rfl, rfl, rfl, rfl, (treeM t179), rfl, rfl, (treeB t57 Z116), (noRoB n57 Z116), rfl, rfl, trivial⟩))
         ·rcases itS h with ⟨c49, h⟩ | ⟨c51, h⟩
          ·obtain ⟨x50, hx50, h⟩ := bnS h
           obtain rfl := sj h
           exact gR hP hn (H13 ++ [hF 76, hF 79, hT 82, ⟨93, .eqr 0 Z94, none⟩, ⟨93, .unpack 0 1024 0 2 Z93 3 1 Z5 [Z181], none⟩, ⟨100, .sto [(I x50)] Z183, none⟩, ⟨104, .row Z42, none⟩, ⟨108, .sto Z42 Z185, none⟩, ⟨118, .sto Z186 Z187, none⟩, ⟨121, .sto Z188 Z189, none⟩, ⟨124, .sto Z190 Z192, none⟩, ⟨127, .pack 0 1004 0 0 Z181 [Z194], none⟩, ⟨127, .pack 0 1024 0 2 Z194 Z195, none⟩]) [] .raw (P15 ++ [Z173 = false, (p3.Code == 16) = true, Z79 = Z79, Z79 = Z79, Z80 = Z80, Z80 = Z80, Z196 = Z196, Z196 = Z196, Z196 = Z196, Z197 = Z197, Z197 = Z197, Z197 = Z197, Z81 = Z81, [(1002, some Z198)] = [(1002, some Z198)], Z176 = Z176, [(1002, some Z199)] = [(1002, some Z199)], [Z8] = Z94, Z94[0]? = some Z93, Z93[2]? = some Z6, 0 < 1, Z94.set 0 (Z93.set 2 Z180) = [Z181], (0 : Int) ≤ p3.B, p3.B < Z125, Z5[(Int.toNat p3.B)]? = some [(I x50)], Z5.set (Int.toNat p3.B) (wr [(I x50)] 0 Z136) = Z183, Z136.length = 1, 0 + Z136.length ≤ [(I x50)].length, Z37[(Int.toNat p2)]? = some Z42, Z37[(Int.toNat p2)]? = some Z42, Z37.set (Int.toNat p2) (wr Z42 1 [(I Z184)]) = Z185, [(I Z184)].length = 1, 1 + [(I Z184)].length ≤ Z42.length, Z55 = Z55, Z55 = Z55, Z55 = Z55, Z55 = Z55, Z55 = Z55, Z55 = Z55, Z79 = Z79, Z79 = Z79, Z80 = Z80, Z80 = Z80, Z196 = Z196, Z196 = Z196, Z196 = Z196, Z197 = Z197, Z197 = Z197, Z197 = Z197, Z55 = Z55, Z200 = Z200, [(1004, some (Root.mk 179 6 Z187))] = [(1004, some (Root.mk 179 6 Z187))], Z185[(Int.toNat p2)]? = some Z186, Z185.set (Int.toNat p2) (wr Z186 2 [(I 3)]) = Z187, [(I 3)].length = 1, 2 + [(I 3)].length ≤ Z186.length, Z55 = Z55, Z201 = Z201, [(1004, some (Root.mk 179 6 Z189))] = [(1004, some (Root.mk 179 6 Z189))], Z187[(Int.toNat p2)]? = some Z188, Z187.set (Int.toNat p2) (wr Z188 3 [Z80]) = Z189, [Z80].length = 1, 3 + [Z80].length ≤ Z188.length, Z189[(Int.toNat p2)]? = some Z190, Z189.set (Int.toNat p2) (wr Z190 4 [Z197]) = Z192, [Z197].length = 1, 4 + [Z197].length ≤ Z190.length, [Z181][0]? = some Z181, Z181[0]? = some (AV.sl 1004 0 (List.length Z192)), treeLL Z192 = true, [Z181].set 0 (Z181.set 0 Z193) = [Z194], [Z194][0]? = some Z194, Z194[2]? = some (AV.sl 1024 0 (List.length Z183)), treeLL Z183 = true, [Z194].set 0 (Z194.set 2 (AV.own 3 1 Z183)) = Z195, Z195 = [Z202], treeLL [Z202] = true, noRoLL [Z202] = true, Z203 = Z203, litA Z203 = true]) (andP AP15 ⟨c48, c49, rfl, rfl, rfl, rfl, rfl, rfl, rfl, rfl, rfl, rfl, rfl, rfl, rfl, rfl, (congrArg (fun nn => [[(AV.sl 1004 0 nn), Z4, Z6, (I p1.Fault)]]) (show (List.length Z1) = (List.length Z37) from lnq)), rfl, rfl, (by decide), rfl, (rd0 hx50), (rdL o3 hx50), (rdM o3 hx50), (setM o3), rfl, leB, (rdM o179 (rdS (y := Z59) (rdS (y := Z41) hx5))), (rdM o179 (rdS (y := Z59) (rdS (y := Z41) hx5))), (setSSq o179), rfl, leB, rfl, rfl, rfl, rfl, rfl, rfl, rfl, rfl, rfl, rfl, rfl, rfl, rfl, rfl, rfl, rfl, rfl, rfl, rfl, (rdM o179 (rdS (y := (GThread.mk x5.Routine (w64 ((w64 Z34) - 1)) x5.State x5.Cond x5.Lock l9)) (rdS (y := Z41) hx5))), (setSSq o179), rfl, leB, rfl, rfl, rfl, (rdM o179 (rdS (y := (GThread.mk x5.Routine (w64 ((w64 Z34) - 1)) 3 x5.Cond x5.Lock l9)) (rdS (y := Z41) hx5))), (setSSq o179), rfl, leB, (rdM o179 (rdS (y := (GThread.mk x5.Routine (w64 ((w64 Z34) - 1)) 3 p3.A x5.Lock l9)) (rdS (y := Z41) hx5))), (setSSq o179), rfl, leB, rfl, (pkS lnq), (treeM t179), rfl, rfl, (pkS lnq), (treeM t3), rfl, rfl, (treeB t57 Z204), (noRoB n57 Z204), rfl, rfl, trivial⟩)
          ·let P16 : List Prop := P15 ++ [Z173 = false, (p3.Code == 16) = false]
           have AP16 : AllP P16 := andP AP15 ⟨c48, c51, trivial⟩
           rcases itS h with ⟨c52, h⟩ | ⟨c58, h⟩
           ·obtain ⟨r54, hr54, h⟩ := bnS h
            let Z212 := (AV.agg [Z82, (I 10), Z80, (I r54), Z85])
            let H17 : List Hn := H13 ++ [hF 76, hF 79, hF 82, hT 85, ⟨95, .eqr 0 Z94, none⟩, ⟨97, .callV [Z205, []] (I r54), none⟩]
            let P18 : List Prop := P16 ++ [(p3.Code == 17) = true, Z79 = Z79, Z79 = Z79, Z80 = Z80, Z80 = Z80, Z81 = Z81, [(1002, some Z206)] = [(1002, some Z206)], [Z8] = Z94, Meets Tryz.prog 182 [(AV.ro 6 Z205), (AV.fn 187 [(AV.rop (o144 p3) 0)])] (I r54), litA (I r54) = true, Frz ((Z37.drop 0).take Z91) Z205]
            have AP18 : AllP P18 := andP AP16 ⟨c52, rfl, rfl, rfl, rfl, rfl, rfl, (congrArg (fun nn => [[(AV.sl 1004 0 nn), Z4, Z6, (I p1.Fault)]]) (show (List.length Z1) = (List.length Z37) from lnq)), (slices_IndexFunc_Thread_Thread__impl_State_do_1_m hr54), rfl, (frzF t179 z179), trivial⟩
            rcases itS h with ⟨c55, h⟩ | ⟨c57, h⟩
            ·obtain ⟨x56, hx56, h⟩ := bnS h
             obtain rfl := sj h
             exact (let Z207 := ((o179 x56)); let Z208 := (Z36.set (Int.toNat r54) (GThread.mk x56.Routine x56.Pc 4 x56.Cond x56.Lock x56.Stack)); let Z209 := (Z208.map o179); let Z210 := [[(AV.own 179 6 Z209), Z4, Z6, Z7]]; let Z211 := (o57 (GState.mk Z208 p1.Cells p1.Owner p1.Fault)); let Z213 := (GState.mk Z208 p1.Cells p1.Owner p1.Fault); gR hP hn (H17 ++ [hT 103, ⟨112, .sto Z207 Z209, none⟩, ⟨115, .pack 0 1004 0 0 Z93 Z210, none⟩]) [] .raw (P18 ++ [(decide (r54 ≥ 0)) = true, (0 : Int) ≤ r54, r54 < Z165, Z37[(Int.toNat r54)]? = some Z207, Z37.set (Int.toNat r54) (wr Z207 2 [(I 4)]) = Z209, [(I 4)].length = 1, 2 + [(I 4)].length ≤ Z207.length, Z94[0]? = some Z93, Z93[0]? = some (AV.sl 1004 0 (List.length Z209)), treeLL Z209 = true, Z94.set 0 (Z93.set 0 (AV.own 179 6 Z209)) = Z210, Z210 = [Z211], treeLL [Z211] = true, noRoLL [Z211] = true, Z212 = Z212, litA Z212 = true]) (andP AP18 ⟨c55, (rd0 hx56), (rdL o179 hx56), (rdM o179 hx56), (setMrq o179), rfl, leB, rfl, (pkS lnq), (treeM t179), rfl, rfl, (treeB t57 Z213), (noRoB n57 Z213), rfl, rfl, trivial⟩))
            ·obtain rfl := sj h
             exact gR hP hn (H17 ++ [hF 103, ⟨106, .pack 0 1004 0 0 Z93 Z114, none⟩]) [] .raw (P18 ++ [(decide (r54 ≥ 0)) = false, Z94[0]? = some Z93, Z93[0]? = some Z92, treeLL Z37 = true, Z94.set 0 (Z93.set 0 Z99) = Z114, Z114 = [Z115], treeLL [Z115] = true, noRoLL [Z115] = true, Z212 = Z212, litA Z212 = true]) (andP AP18 ⟨c57, rfl, rfl, (treeM t179), rfl, rfl, (treeB t57 Z116), (noRoB n57 Z116), rfl, rfl, trivial⟩)
           ·obtain ⟨x59, hx59, h⟩ := bnS h
            obtain ⟨x60, hx60, h⟩ := bnS h
            obtain ⟨r61, hr61, h⟩ := bnS h
            obtain ⟨l62, hl62, h⟩ := bnS h
            obtain rfl := sj h
            exact (let Z217 := (l62.map o142); let Z218 := (List.length Z217); let Z219 := (AV.sl 1027 0 Z218); let Z220 := [Z12, Z40, Z13, Z14, Z15, Z219]; let Z221 := (Z37.set (Int.toNat p2) Z220); let Z222 := (Z36.set (Int.toNat p2) (GThread.mk x5.Routine Z35 x5.State x5.Cond x5.Lock l62)); let Z223 := (Z222.map o179); let Z224 := [[(AV.own 179 6 Z223), Z4, Z6, Z7]]; let Z225 := ((([r61].map o142).drop 0).take (List.length ([r61].map o142))); let Z226 := (o57 (GState.mk Z222 p1.Cells p1.Owner p1.Fault)); let Z227 := (GState.mk Z222 p1.Cells p1.Owner p1.Fault); gR hP hn (H13 ++ [hF 76, hF 79, hF 82, hF 85, ⟨86, .unpack 1004 1025 (Int.toNat p2) 5 Z42 142 1 Z25 Z216, none⟩, ⟨90, .row Z215, none⟩, ⟨95, .row [(FK x59)], none⟩, ⟨98, .row [(FK x60)], none⟩, ⟨99, .callV [] (FK r61), none⟩, hW 100 1026, ⟨101, .app 1027 Z217, none⟩, ⟨107, .row Z215, none⟩, ⟨110, .sto Z215 Z221, none⟩, ⟨113, .pack 1004 1027 (Int.toNat p2) 5 Z220 Z223, none⟩, ⟨113, .pack 0 1004 0 0 Z8 Z224, none⟩]) [] .raw (P16 ++ [(p3.Code == 17) = false, Z37[(Int.toNat p2)]? = some Z42, Z42[5]? = some Z32, 0 < 1, Z37.set (Int.toNat p2) (Z42.set 5 Z214) = Z216, Z216[(Int.toNat p2)]? = some Z215, (0 : Int) ≤ 0, 0 < Z103, Z21[(Int.toNat 0)]? = some [(FK x59)], (0 : Int) ≤ 1, 1 < Z103, Z21[(Int.toNat 1)]? = some [(FK x60)], Meets Tryz.prog 188 [(I p3.Code), (FK x59), (FK x60)] (FK r61), litA (FK r61) = true, Z25.take Z26 ++ Z225 = Z217, Z225.all (fun r => r.all AV.plain) = true, Z218 * 8 ≤ 140737488355328, Z218 ≤ 140737488355328, Z55 = Z55, Z55 = Z55, Z55 = Z55, Z55 = Z55, Z56 = Z56, Z214 = Z214, Z216[(Int.toNat p2)]? = some Z215, Z216[(Int.toNat p2)]? = some Z215, Z216.set (Int.toNat p2) (wr Z215 5 [Z219]) = Z221, [Z219].length = 1, 5 + [Z219].length ≤ Z215.length, Z221[(Int.toNat p2)]? = some Z220, Z220[5]? = some Z219, treeLL Z217 = true, Z221.set (Int.toNat p2) (Z220.set 5 (AV.own 142 1 Z217)) = Z223, [Z8][0]? = some Z8, Z8[0]? = some (AV.sl 1004 0 (List.length Z223)), treeLL Z223 = true, [Z8].set 0 (Z8.set 0 (AV.own 179 6 Z223)) = Z224, Z224 = [Z226], treeLL [Z226] = true, noRoLL [Z226] = true, Z58 = Z58, litA Z58 = true]) (andP AP16 ⟨c58, (rdM o179 (rdS (y := Z59) (rdS (y := Z41) hx5))), rfl, (by decide), rfl, (setE (rdM o179 (rdS (y := Z59) (rdS (y := Z41) hx5)))), (rd0 hx59), (rdL o142 hx59), (rdM o142 hx59), (rd0 hx60), (rdL o142 hx60), (rdM o142 hx60), (impl_worked_m hr61), rfl, (appTD o142 hl62), (plD pa142), (appB o142 hl62 (by decide)), (appC o142 hl62), rfl, rfl, rfl, rfl, rfl, rfl, (setE (rdM o179 (rdS (y := Z59) (rdS (y := Z41) hx5)))), (setE (rdM o179 (rdS (y := Z59) (rdS (y := Z41) hx5)))), (setHH rfl), rfl, leB, (setE (rdM o179 (rdS (y := Z59) (rdS (y := Z41) hx5)))), rfl, (treeM t142), (setPe o179 (y := (GThread.mk x5.Routine (w64 Z34) x5.State x5.Cond x5.Lock l62)) rfl), rfl, (pkS lnq), (treeM t179), rfl, rfl, (treeB t57 Z227), (noRoB n57 Z227), rfl, rfl, trivial⟩))
noncomputable def body147 : Code := match Tryz.f147.body with | some c => c | none => .skip
noncomputable def impl_State_faultOf_j0  (p1 : GState) (p2 : Int) (p3 : GOp) (x4 : GThread)  : Option Int :=
 if (p3.Code == 13) = true then
  Option.bind (rd p1.Owner p3.A) fun x11 =>
  if (x11 != p2) = true then
   some 2
  else
   some 0
 else
  if (p3.Code == 16) = true then
   Option.bind (rd p1.Owner p3.B) fun x16 =>
   if (x16 != p2) = true then
    some 2
   else
    some 0
  else
   if (p3.Code == 15) = true then
    Option.bind (impl_State_joined p1 x4) fun r21 =>
    if (!r21.2) = true then
     some 3
    else
     some 0
   else
    if (p3.Code == 14) = true then
     if ((p1.Threads.length : Int) == 5) = true then
      some 4
     else
      some 0
    else
     some 0
theorem impl_State_faultOf_j0_m {E : Env} (hP : E.P = Tryz.prog) (hn : E.n = 83) (hx : FX E []) (p1 : GState) (p2 : Int) (p3 : GOp) (x4 : GThread)   (r : Int) (h : impl_State_faultOf_j0 p1 p2 p3 x4  = some r) : WAt E body147 (FQ (RetE Θ Tryz.f147.results.toList [] [] (I r) E)) [true, true, true, false, true, true] ⟨[(0, (AV.rop (r57 p1) 0)), (1, (I p2)), (5, (AV.ptr 1 0 0)), (7, (AV.ptr 2 0 0))], [(1, some ⟨144, 4, [((o144 p3))]⟩), (2, some ⟨179, 6, [((r179 x4))]⟩)], [1, 2, JJ]⟩ := by
 unfold impl_State_faultOf_j0 at h
 let Z1 := (p3.Code == 15); let Z2 := (p1.Threads.length : Int)
 rcases itS h with ⟨c10, h⟩ | ⟨c14, h⟩
 ·obtain ⟨x11, hx11, h⟩ := bnS h
  let P1 : List Prop := [(p3.Code == 13) = true, (0 : Int) ≤ p3.A, (p1.Owner.map o3)[(Int.toNat p3.A)]? = some (o3 x11)]
  have AP1 : AllP P1 := ⟨c10, (rd0 hx11), (rdM o3 hx11), trivial⟩
  rcases itS h with ⟨c12, h⟩ | ⟨c13, h⟩
  ·obtain rfl := sj h
   exact gR hP hn [hT 4, ⟨11, .row (o3 x11), none⟩, hT 15] [] .raw (P1 ++ [(x11 != p2) = true, (I 2) = (I 2), litA (I 2) = true]) (andP AP1 ⟨c12, rfl, rfl, trivial⟩)
  ·obtain rfl := sj h
   exact gR hP hn [hT 4, ⟨11, .row (o3 x11), none⟩, hF 15] [] .raw (P1 ++ [(x11 != p2) = false, (I 0) = (I 0), litA (I 0) = true]) (andP AP1 ⟨c13, rfl, rfl, trivial⟩)
 ·let P2 : List Prop := [(p3.Code == 13) = false]
  have AP2 : AllP P2 := ⟨c14, trivial⟩
  rcases itS h with ⟨c15, h⟩ | ⟨c19, h⟩
  ·obtain ⟨x16, hx16, h⟩ := bnS h
   let P3 : List Prop := P2 ++ [(p3.Code == 16) = true, (0 : Int) ≤ p3.B, (p1.Owner.map o3)[(Int.toNat p3.B)]? = some (o3 x16)]
   have AP3 : AllP P3 := andP AP2 ⟨c15, (rd0 hx16), (rdM o3 hx16), trivial⟩
   rcases itS h with ⟨c17, h⟩ | ⟨c18, h⟩
   ·obtain rfl := sj h
    exact gR hP hn [hF 4, hT 7, ⟨14, .row (o3 x16), none⟩, hT 18] [] .raw (P3 ++ [(x16 != p2) = true, (I 2) = (I 2), litA (I 2) = true]) (andP AP3 ⟨c17, rfl, rfl, trivial⟩)
   ·obtain rfl := sj h
    exact gR hP hn [hF 4, hT 7, ⟨14, .row (o3 x16), none⟩, hF 18] [] .raw (P3 ++ [(x16 != p2) = false, (I 0) = (I 0), litA (I 0) = true]) (andP AP3 ⟨c18, rfl, rfl, trivial⟩)
  ·let P4 : List Prop := P2 ++ [(p3.Code == 16) = false]
   have AP4 : AllP P4 := andP AP2 ⟨c19, trivial⟩
   rcases itS h with ⟨c20, h⟩ | ⟨c24, h⟩
   ·obtain ⟨r21, hr21, h⟩ := bnS h
    let Z0 := (AV.tup [(I r21.1), (B r21.2)])
    let H5 : List Hn := [hF 4, hF 7, hT 10, ⟨13, .callV [[]] Z0, none⟩]
    let P6 : List Prop := P4 ++ [Z1 = true, Meets Tryz.prog 183 [(AV.rop (r57 p1) 0), (AV.agg ((r179 x4)))] Z0, litA Z0 = true]
    have AP6 : AllP P6 := andP AP4 ⟨c20, (impl_State_joined_m hr21), rfl, trivial⟩
    rcases itS h with ⟨c22, h⟩ | ⟨c23, h⟩
    ·obtain rfl := sj h
     exact gR hP hn (H5 ++ [hT 21]) [] .raw (P6 ++ [(!r21.2) = true, (I 3) = (I 3), litA (I 3) = true]) (andP AP6 ⟨c22, rfl, rfl, trivial⟩)
    ·obtain rfl := sj h
     exact gR hP hn (H5 ++ [hF 21]) [] .raw (P6 ++ [(!r21.2) = false, (I 0) = (I 0), litA (I 0) = true]) (andP AP6 ⟨c23, rfl, rfl, trivial⟩)
   ·rcases itS h with ⟨c25, h⟩ | ⟨c28, h⟩
    ·let P7 : List Prop := P4 ++ [Z1 = false, (p3.Code == 14) = true, AV.lit (.int .i64 (((p1.Threads.map r179).length : Nat) : Int)) = (I Z2)]
     have AP7 : AllP P7 := andP AP4 ⟨c24, c25, (lenM r179), trivial⟩
     rcases itS h with ⟨c26, h⟩ | ⟨c27, h⟩
     ·obtain rfl := sj h
      exact gR hP hn [hF 4, hF 7, hF 10, hT 13, hO 18 (I Z2), hT 20] [] .raw (P7 ++ [(Z2 == 5) = true, (I 4) = (I 4), litA (I 4) = true]) (andP AP7 ⟨c26, rfl, rfl, trivial⟩)
     ·obtain rfl := sj h
      exact gR hP hn [hF 4, hF 7, hF 10, hT 13, hO 18 (I Z2), hF 20] [] .raw (P7 ++ [(Z2 == 5) = false, (I 0) = (I 0), litA (I 0) = true]) (andP AP7 ⟨c27, rfl, rfl, trivial⟩)
    ·obtain rfl := sj h
     exact gR hP hn [hF 4, hF 7, hF 10, hF 13] [] .raw (P4 ++ [Z1 = false, (p3.Code == 14) = false, (I 0) = (I 0), litA (I 0) = true]) (andP AP4 ⟨c24, c28, rfl, rfl, trivial⟩)
noncomputable def impl_State_faultOf (p1 : GState) (p2 : Int) (p3 : GOp) : Option Int :=
 Option.bind (rd p1.Threads p2) fun x4 =>
 Option.bind (impl_Op_takes p3) fun r5 =>
 if (decide ((x4.Stack.length : Int) < r5.1)) = true then
  some 1
 else
  if (decide ((w64 ((w64 ((x4.Stack.length : Int) - r5.1)) + r5.2)) > 8)) = true then
   some 1
  else
   impl_State_faultOf_j0 p1 p2 p3 x4
theorem impl_State_faultOf_m {p1 : GState} {p2 : Int} {p3 : GOp} {r : Int} (h : impl_State_faultOf p1 p2 p3 = some r) : Meets Tryz.prog 147 [(AV.rop (r57 p1) 0), (I p2), (AV.agg ((o144 p3)))] (I r) := by
 refine gM Tryz.func147 83 body147 fun E hP hn hx => ?_
 unfold impl_State_faultOf at h
 obtain ⟨x4, hx4, h⟩ := bnS h
 obtain ⟨r5, hr5, h⟩ := bnS h
 let Z0 := (AV.tup [(I r5.1), (I r5.2)]); let Z1 := (x4.Stack.length : Int); let Z2 := (((x4.Stack.map o142).length : Nat) : Int); let Z3 := (B (decide (Z1 < r5.1))); let Z4 := (decide ((w64 ((w64 (Z1 - r5.1)) + r5.2)) > 8))
 let H1 : List Hn := [hW 0 1001, ⟨7, .row (r179 x4), none⟩, hW 9 1002, ⟨12, .callV [[]] Z0, none⟩, hO 20 (I Z1)]
 let P2 : List Prop := [(0 : Int) ≤ p2, (p1.Threads.map r179)[(Int.toNat p2)]? = some (r179 x4), Meets Tryz.prog 184 [(AV.agg ((o144 p3)))] Z0, litA Z0 = true, AV.lit (.int .i64 Z2) = (I Z1)]
 have AP2 : AllP P2 := ⟨(rd0 hx4), (rdM r179 hx4), (impl_Op_takes_m hr5), rfl, (lenM o142), trivial⟩
 rcases itS h with ⟨c6, h⟩ | ⟨c7, h⟩
 ·obtain rfl := sj h
  exact gR hP hn (H1 ++ [hO 23 (B true)]) [] .raw (P2 ++ [Z3 = (B true), (I 1) = (I 1), litA (I 1) = true]) (andP AP2 ⟨(litB c6), rfl, rfl, trivial⟩)
 ·let P3 : List Prop := P2 ++ [Z3 = (B false), AV.lit (.int .i64 Z2) = (I Z1)]
  have AP3 : AllP P3 := andP AP2 ⟨(litB c7), (lenM o142), trivial⟩
  rcases itS h with ⟨c8, h⟩ | ⟨c9, h⟩
  ·obtain rfl := sj h
   exact gR hP hn (H1 ++ [hO 23 (B false), hO 26 (I Z1), hT 33]) [] .raw (P3 ++ [Z4 = true, (I 1) = (I 1), litA (I 1) = true]) (andP AP3 ⟨c8, rfl, rfl, trivial⟩)
  ·exact gT hP hn hx (H1 ++ [hO 23 (B false), hO 26 (I Z1), hF 33]) [(1001, 1), (1002, 2)] [0, 1, 5, 7] [] (P3 ++ [Z4 = false, RenOK [(1001, 1), (1002, 2)] [((o144 p3))], RenOK [(1001, 1), (1002, 2)] [((r179 x4))]]) (andP AP3 ⟨c9, (rok rfl), (rok (treeB t179 x4)), trivial⟩) (impl_State_faultOf_j0_m hP hn hx p1 p2 p3 x4  _ h)
noncomputable def body77 : Code := match Tryz.f77.body with | some c => c | none => .skip
noncomputable def impl_State_step (p1 : GState) (p2 : GProg) (p3 : Int) : Option (GEvent × GState) :=
 Option.bind (rd p1.Threads p3) fun x4 =>
 Option.bind (impl_Prog_next p2 (GThread.mk x4.Routine x4.Pc x4.State x4.Cond x4.Lock x4.Stack)) fun r5 =>
 if (x4.State == 4) = true then
  Option.bind (rd p1.Owner x4.Lock) fun x7 =>
  Option.bind (impl_boolInt r5.2) fun r8 =>
  some ((GEvent.mk p3 9 x4.Cond x4.Lock x4.Pc), (GState.mk (p1.Threads.set (Int.toNat p3) (GThread.mk x4.Routine (w64 (x4.Pc + r8)) 1 (-1) (-1) x4.Stack)) p1.Cells (p1.Owner.set (Int.toNat x4.Lock) p3) p1.Fault))
 else
  if (!r5.2) = true then
   some ((GEvent.mk p3 11 (-1) (-1) x4.Pc), (GState.mk (p1.Threads.set (Int.toNat p3) (GThread.mk x4.Routine x4.Pc 2 x4.Cond x4.Lock x4.Stack)) p1.Cells p1.Owner p1.Fault))
  else
   Option.bind (impl_State_faultOf (GState.mk p1.Threads p1.Cells p1.Owner p1.Fault) p3 r5.1) fun r12 =>
   if (r12 != 0) = true then
    some ((GEvent.mk p3 12 r12 (-1) x4.Pc), (GState.mk p1.Threads p1.Cells p1.Owner r12))
   else
    Option.bind (impl_State_do (GState.mk p1.Threads p1.Cells p1.Owner p1.Fault) p3 r5.1 (GEvent.mk p3 1 (-1) (-1) x4.Pc)) fun r15 =>
    some (r15.1, r15.2)
theorem impl_State_step_m {p1 : GState} {p2 : GProg} {p3 : Int} {r : (GEvent × GState)} (h : impl_State_step p1 p2 p3 = some r) : MeetsR Tryz.prog 77 [⟨57, 4, [(o57 p1)]⟩] [(AV.ptr 0 0 0), (AV.agg ((r34 p2))), (I p3)] [true] [⟨57, 4, [(o57 r.2)]⟩] (AV.agg (o59 r.1)) := by
 refine meetsR_of Θ_ok Tryz.func77 rfl (c := body77) (by kernel_rfl) (Nat.le_of_ble_eq_true rfl) rfl (Nat.le_of_ble_eq_true rfl) rfl (fr := [0]) (frI rfl) ?_
 intro E hP hn hx
 replace hn : E.n = 105 := hn
 unfold impl_State_step at h
 obtain ⟨x4, hx4, h⟩ := bnS h
 obtain ⟨r5, hr5, h⟩ := bnS h
 let Z0 := ((o57 p1)); let Z1 := (p1.Threads.map o179); let Z2 := (AV.sl 1003 0 (List.length Z1)); let Z3 := (AV.own 142 1 (p1.Cells.map o142)); let Z4 := (p1.Owner.map o3); let Z5 := (AV.own 3 1 Z4); let Z6 := (I p1.Fault); let Z7 := [Z2, Z3, Z5, Z6]; let Z8 := ((o179 x4)); let Z9 := (I x4.Routine); let Z10 := (I x4.Pc); let Z11 := (I x4.Cond); let Z12 := (I x4.Lock); let Z13 := (x4.Stack.map o142); let Z14 := (AV.own 142 1 Z13); let Z15 := [Z9, Z10, (I x4.State), Z11, Z12, Z14]; let Z16 := (AV.sl 1005 0 (List.length Z13)); let Z17 := [Z9, Z10, (I x4.State), Z11, Z12, Z16]; let Z18 := (Z1.set (Int.toNat p3) Z17); let Z19 := (B r5.2); let Z20 := (AV.tup [(AV.agg (o144 r5.1)), Z19]); let Z21 := (AV.own 179 6 Z1); let Z22 := (AV.agg ((r34 p2))); let Z23 := (AV.ptr 1003 (Int.toNat p3) 0); let Z24 := (AV.agg Z17); let Z25 := (AV.agg ((o144 r5.1))); let Z26 := (AV.tup [Z25, Z19]); let Z27 := [Z22, (AV.agg [Z9, Z10, (I x4.State), Z11, Z12, (AV.ro 1 Z13)])]; let Z28 := ((Z13.drop 0).take (List.length Z13)); let Z29 := ([(1006, (Root.mk 144 4 [[(I 0), (I 0), (I 0), (FK 0)]]))].map sm); let Z30 := (Root.mk 144 4 [((o144 r5.1))]); let Z31 := (AV.sl 1003 0 (List.length Z18)); let Z32 := [Z31, Z3, Z5, Z6]; let Z33 := (AV.sl 1007 0 (List.length Z4)); let Z34 := [Z31, Z3, Z33, Z6]; let Z35 := (p1.Owner.set (Int.toNat x4.Lock) p3); let Z36 := (Z35.map o3); let Z37 := ((p1.Threads.set (Int.toNat p3) (GThread.mk x4.Routine x4.Pc 1 x4.Cond x4.Lock x4.Stack)).map o179); let Z38 := [Z9, Z10, (I 1), Z11, Z12, Z14]; let Z39 := ((p1.Threads.set (Int.toNat p3) (GThread.mk x4.Routine x4.Pc 1 (-1) x4.Lock x4.Stack)).map o179); let Z40 := (I (-1)); let Z41 := [Z9, Z10, (I 1), Z40, Z12, Z14]; let Z42 := ((p1.Threads.set (Int.toNat p3) (GThread.mk x4.Routine x4.Pc 1 (-1) (-1) x4.Stack)).map o179); let Z43 := [Z9, Z10, (I 1), Z40, Z40, Z14]; let Z49 := (x4.State == 4); let Z50 := (AV.ptr 1003 (Int.toNat p3) 3); let Z51 := (AV.ptr 1003 (Int.toNat p3) 4); let Z52 := (Root.mk 59 5 [[(I p3), (I 9), Z40, Z40, Z10]]); let Z53 := (Root.mk 59 5 [[(I p3), (I 9), Z11, Z40, Z10]]); let Z54 := (Z17.set 5 Z14); let Z57 := (AV.agg [(I p3), (I 9), Z11, Z12, Z10]); let Z58 := (GThread.mk x4.Routine x4.Pc 1 (-1) (-1) x4.Stack); let Z60 := (p1.Threads.set (Int.toNat p3) (GThread.mk x4.Routine x4.Pc 2 x4.Cond x4.Lock x4.Stack)); let Z61 := (Z60.map o179); let Z62 := [[(AV.own 179 6 Z61), Z3, Z5, Z6]]; let Z63 := (o57 (GState.mk Z60 p1.Cells p1.Owner p1.Fault)); let Z64 := (AV.agg [(I p3), (I 11), Z40, Z40, Z10]); let Z65 := (GState.mk Z60 p1.Cells p1.Owner p1.Fault); let Z66 := [Z21, Z3, Z5, Z6]; let Z67 := (r57 (GState.mk p1.Threads p1.Cells p1.Owner p1.Fault)); let Z68 := (GState.mk p1.Threads p1.Cells p1.Owner p1.Fault); let Z72 := (o57 (GState.mk p1.Threads p1.Cells p1.Owner p1.Fault))
 let H1 : List Hn := [hW 0 1001, hW 1 1002, ⟨5, .unpack 0 1003 0 0 Z0 179 6 Z1 [Z7], none⟩, ⟨13, .row Z8, none⟩, hW 15 1004, ⟨17, .unpack 1003 1005 (Int.toNat p3) 5 Z15 142 1 Z13 Z18, none⟩, ⟨20, .row Z17, none⟩, ⟨21, .callV [[], [], Z13] Z20, none⟩, hW 25 1006, ⟨31, .row Z17, none⟩]
 let P2 : List Prop := [[Z0][0]? = some Z0, Z0[0]? = some Z21, 0 < 6, [Z0].set 0 (Z0.set 0 Z2) = [Z7], (0 : Int) ≤ p3, p3 < (((List.length Z1) : Nat) : Int), Z1[(Int.toNat p3)]? = some Z8, Z1[(Int.toNat p3)]? = some Z15, Z15[5]? = some Z14, 0 < 1, Z1.set (Int.toNat p3) (Z15.set 5 Z16) = Z18, Z22 = Z22, Z22 = Z22, Z23 = Z23, Z23 = Z23, Z23 = Z23, Z23 = Z23, Z24 = Z24, Z18[(Int.toNat p3)]? = some Z17, Z24 = Z24, Z18[(Int.toNat p3)]? = some Z17, Z26 = Z26, Meets Tryz.prog 145 Z27 Z20, litA Z20 = true, Frz Z28 Z13, Z26 = Z26, Meets Tryz.prog 145 Z27 Z20, litA Z20 = true, Frz Z28 Z13, Z26 = Z26, Z26 = Z26, Z25 = Z25, Z25 = Z25, Z19 = Z19, Z19 = Z19, Z19 = Z19, (AV.ptr 1006 0 0) = (AV.ptr 1006 0 0), Z29 = Z29, [(1006, some Z30)] = [(1006, some Z30)], Z18[(Int.toNat p3)]? = some Z17]
 have AP2 : AllP P2 := ⟨rfl, rfl, (by decide), rfl, (rd0 hx4), (rdL o179 hx4), (rdM o179 hx4), (rdM o179 hx4), rfl, (by decide), rfl, rfl, rfl, rfl, rfl, rfl, rfl, rfl, (setE (rdM o179 hx4)), rfl, (setE (rdM o179 hx4)), rfl, (impl_Prog_next_m hr5), rfl, (frzF t142 z142), rfl, (impl_Prog_next_m hr5), rfl, (frzF t142 z142), rfl, rfl, rfl, rfl, rfl, rfl, rfl, rfl, rfl, rfl, (setE (rdM o179 hx4)), trivial⟩
 rcases itS h with ⟨c6, h⟩ | ⟨c9, h⟩
 ·obtain ⟨x7, hx7, h⟩ := bnS h
  obtain ⟨r8, hr8, h⟩ := bnS h
  obtain rfl := sj h
  exact (let Z44 := (p1.Threads.set (Int.toNat p3) (GThread.mk x4.Routine (w64 (x4.Pc + r8)) 1 (-1) (-1) x4.Stack)); let Z45 := (Z44.map o179); let Z46 := (AV.own 179 6 Z45); let Z47 := [Z46, Z3, Z33, Z6]; let Z48 := [[Z46, Z3, (AV.own 3 1 Z36), Z6]]; let Z55 := [(I (w64 (x4.Pc + r8)))]; let Z56 := (o57 (GState.mk Z44 p1.Cells Z35 p1.Fault)); let Z59 := (GState.mk Z44 p1.Cells Z35 p1.Fault); gR hP hn (H1 ++ [hT 34, ⟨38, .row Z17, none⟩, ⟨42, .row Z17, none⟩, ⟨49, .eqr 0 [Z32], none⟩, ⟨49, .unpack 0 1007 0 2 Z32 3 1 Z4 [Z34], none⟩, ⟨56, .row Z17, none⟩, ⟨59, .sto [(I x7)] Z36, none⟩, ⟨65, .pack 1003 1005 (Int.toNat p3) 5 Z17 Z1, none⟩, ⟨65, .sto Z8 Z37, none⟩, ⟨68, .sto Z38 Z39, none⟩, ⟨71, .sto Z41 Z42, none⟩, ⟨75, .row Z43, none⟩, ⟨77, .callV [] (I r8), none⟩, ⟨81, .sto Z43 Z45, none⟩, ⟨84, .pack 0 1003 0 0 Z34 [Z47], none⟩, ⟨84, .pack 0 1007 0 2 Z47 Z48, none⟩]) [] .raw (P2 ++ [Z49 = true, Z23 = Z23, Z23 = Z23, Z23 = Z23, Z23 = Z23, Z50 = Z50, Z50 = Z50, Z11 = Z11, Z18[(Int.toNat p3)]? = some Z17, Z11 = Z11, Z18[(Int.toNat p3)]? = some Z17, Z23 = Z23, Z23 = Z23, Z23 = Z23, Z23 = Z23, Z23 = Z23, Z23 = Z23, Z51 = Z51, Z51 = Z51, Z51 = Z51, Z12 = Z12, Z18[(Int.toNat p3)]? = some Z17, Z12 = Z12, Z18[(Int.toNat p3)]? = some Z17, Z12 = Z12, Z18[(Int.toNat p3)]? = some Z17, (AV.ptr 1004 0 1) = (AV.ptr 1004 0 1), [(1004, some Z52)] = [(1004, some Z52)], (AV.ptr 1004 0 2) = (AV.ptr 1004 0 2), [(1004, some Z53)] = [(1004, some Z53)], [Z7] = [Z32], [Z32][0]? = some Z32, Z32[2]? = some Z5, 0 < 1, [Z32].set 0 (Z32.set 2 Z33) = [Z34], Z18[(Int.toNat p3)]? = some Z17, (0 : Int) ≤ x4.Lock, x4.Lock < (((List.length Z4) : Nat) : Int), Z4[(Int.toNat x4.Lock)]? = some [(I x7)], Z4.set (Int.toNat x4.Lock) (wr [(I x7)] 0 [(I p3)]) = Z36, [(I p3)].length = 1, 0 + [(I p3)].length ≤ [(I x7)].length, Z18[(Int.toNat p3)]? = some Z17, Z17[5]? = some Z16, treeLL Z13 = true, Z18.set (Int.toNat p3) Z54 = Z1, Z1[(Int.toNat p3)]? = some Z8, Z1.set (Int.toNat p3) (wr Z8 2 [(I 1)]) = Z37, [(I 1)].length = 1, 2 + [(I 1)].length ≤ Z8.length, Z37[(Int.toNat p3)]? = some Z38, Z37.set (Int.toNat p3) (wr Z38 3 [Z40]) = Z39, [Z40].length = 1, 3 + [Z40].length ≤ Z38.length, Z39[(Int.toNat p3)]? = some Z41, Z39.set (Int.toNat p3) (wr Z41 4 [Z40]) = Z42, [Z40].length = 1, 4 + [Z40].length ≤ Z41.length, Z42[(Int.toNat p3)]? = some Z43, Meets Tryz.prog 146 [Z19] (I r8), litA (I r8) = true, Z42[(Int.toNat p3)]? = some Z43, Z42.set (Int.toNat p3) (wr Z43 1 Z55) = Z45, Z55.length = 1, 1 + Z55.length ≤ Z43.length, [Z34][0]? = some Z34, Z34[0]? = some (AV.sl 1003 0 (List.length Z45)), treeLL Z45 = true, [Z34].set 0 (Z34.set 0 Z46) = [Z47], [Z47][0]? = some Z47, Z47[2]? = some (AV.sl 1007 0 (List.length Z36)), treeLL Z36 = true, [Z47].set 0 (Z47.set 2 (AV.own 3 1 Z36)) = Z48, Z48 = [Z56], treeLL [Z56] = true, noRoLL [Z56] = true, Z57 = Z57, litA Z57 = true]) (andP AP2 ⟨c6, rfl, rfl, rfl, rfl, rfl, rfl, rfl, (setE (rdM o179 hx4)), rfl, (setE (rdM o179 hx4)), rfl, rfl, rfl, rfl, rfl, rfl, rfl, rfl, rfl, rfl, (setE (rdM o179 hx4)), rfl, (setE (rdM o179 hx4)), rfl, (setE (rdM o179 hx4)), rfl, rfl, rfl, rfl, (congrArg (fun nn => [[(AV.sl 1003 0 nn), Z3, Z5, (I p1.Fault)]]) (show (List.length Z1) = (List.length Z18) from lnq)), rfl, rfl, (by decide), rfl, (setE (rdM o179 hx4)), (rd0 hx7), (rdL o3 hx7), (rdM o3 hx7), (setM o3), rfl, leB, (setE (rdM o179 hx4)), rfl, (treeM t142), (setPi o179 hx4), (rdM o179 hx4), (setMrq o179), rfl, leB, (rdM o179 (rdS (y := (GThread.mk x4.Routine x4.Pc 1 x4.Cond x4.Lock x4.Stack)) hx4)), (setSSq o179), rfl, leB, (rdM o179 (rdS (y := (GThread.mk x4.Routine x4.Pc 1 (-1) x4.Lock x4.Stack)) hx4)), (setSSq o179), rfl, leB, (rdM o179 (rdS (y := Z58) hx4)), (impl_boolInt_m hr8), rfl, (rdM o179 (rdS (y := Z58) hx4)), (setSSq o179), rfl, leB, rfl, (pkS lnq), (treeM t179), rfl, rfl, (pkS lnq), (treeM t3), rfl, rfl, (treeB t57 Z59), (noRoB n57 Z59), rfl, rfl, trivial⟩))
 ·rcases itS h with ⟨c10, h⟩ | ⟨c11, h⟩
  ·obtain rfl := sj h
   exact gR hP hn (H1 ++ [hF 34, hT 38, ⟨44, .pack 1003 1005 (Int.toNat p3) 5 Z17 Z1, none⟩, ⟨44, .sto Z8 Z61, none⟩, ⟨47, .pack 0 1003 0 0 Z7 Z62, none⟩]) [] .raw (P2 ++ [Z49 = false, (!r5.2) = true, Z18[(Int.toNat p3)]? = some Z17, Z17[5]? = some Z16, treeLL Z13 = true, Z18.set (Int.toNat p3) Z54 = Z1, Z1[(Int.toNat p3)]? = some Z8, Z1.set (Int.toNat p3) (wr Z8 2 [(I 2)]) = Z61, [(I 2)].length = 1, 2 + [(I 2)].length ≤ Z8.length, [Z7][0]? = some Z7, Z7[0]? = some (AV.sl 1003 0 (List.length Z61)), treeLL Z61 = true, [Z7].set 0 (Z7.set 0 (AV.own 179 6 Z61)) = Z62, Z62 = [Z63], treeLL [Z63] = true, noRoLL [Z63] = true, Z64 = Z64, litA Z64 = true]) (andP AP2 ⟨c9, c10, (setE (rdM o179 hx4)), rfl, (treeM t142), (setPi o179 hx4), (rdM o179 hx4), (setMrq o179), rfl, leB, rfl, (pkS lnq), (treeM t179), rfl, rfl, (treeB t57 Z65), (noRoB n57 Z65), rfl, rfl, trivial⟩)
  ·obtain ⟨r12, hr12, h⟩ := bnS h
   let Z69 := (o57 (GState.mk p1.Threads p1.Cells p1.Owner r12)); let Z70 := (AV.agg [(I p3), (I 12), (I r12), Z40, Z10]); let Z71 := (GState.mk p1.Threads p1.Cells p1.Owner r12)
   let H3 : List Hn := H1 ++ [hF 34, hF 38, ⟨42, .pack 1003 1005 (Int.toNat p3) 5 Z17 Z1, none⟩, ⟨42, .pack 0 1003 0 0 Z7 [Z66], none⟩, ⟨42, .callV [[Z66, Z67], []] (I r12), none⟩]
   let P4 : List Prop := P2 ++ [Z49 = false, (!r5.2) = false, Z18[(Int.toNat p3)]? = some Z17, Z17[5]? = some Z16, treeLL Z13 = true, Z18.set (Int.toNat p3) Z54 = Z1, [Z7][0]? = some Z7, Z7[0]? = some Z2, treeLL Z1 = true, [Z7].set 0 (Z7.set 0 Z21) = [Z66], Meets Tryz.prog 147 [(AV.rop Z67 0), (I p3), Z25] (I r12), litA (I r12) = true, [Z66][0]? = some Z66, treeL Z66 = true, frzL Z66 = Z67]
   have AP4 : AllP P4 := andP AP2 ⟨c9, c11, (setE (rdM o179 hx4)), rfl, (treeM t142), (setPi o179 hx4), rfl, rfl, (treeM t179), rfl, (impl_State_faultOf_m hr12), rfl, rfl, rfl, (z57 Z68), trivial⟩
   rcases itS h with ⟨c13, h⟩ | ⟨c14, h⟩
   ·obtain rfl := sj h
    exact gR hP hn (H3 ++ [hT 46]) [] .raw (P4 ++ [(r12 != 0) = true, [[Z21, Z3, Z5, (I r12)]] = [Z69], treeLL [Z69] = true, noRoLL [Z69] = true, Z70 = Z70, litA Z70 = true]) (andP AP4 ⟨c13, rfl, (treeB t57 Z71), (noRoB n57 Z71), rfl, rfl, trivial⟩)
   ·obtain ⟨r15, hr15, h⟩ := bnS h
    obtain rfl := sj h
    exact (let Z73 := (o57 r15.2); let Z74 := (AV.agg (o59 r15.1)); let Z75 := (AV.agg ((o59 r15.1))); let Z76 := (rtf (renA [(0, 0)] Z74) []); gR hP hn (H3 ++ [hF 46, ⟨51, .callX [0] [true] [⟨57, 4, [Z72]⟩] [⟨57, 4, [Z73]⟩] [[], []] Z74 [] Z75 [], none⟩]) [] .raw (P4 ++ [(r12 != 0) = false, MeetsR Tryz.prog 148 [⟨57, 4, [Z72]⟩] [(AV.ptr 0 0 0), (I p3), Z25, (AV.agg [(I p3), (I 1), Z40, Z40, Z10])] [true] [⟨57, 4, [Z73]⟩] Z74, (some (Root.mk 57 4 [Z66]) = some (Root.mk 57 4 [Z72])) ∧ True, (treeLL [Z72] = true ∧ noRoLL [Z72] = true) ∧ True, ([Z73].length = [Z72].length) ∧ True, Z76.1 = Z75, Z76.2.1 = [], [(Z73)] = [Z73], treeLL [Z73] = true, noRoLL [Z73] = true, Z75 = Z75, litA Z75 = true]) (andP AP4 ⟨c14, (impl_State_do_m hr15), ⟨rfl, trivial⟩, ⟨⟨treeB t57 Z68, noRoB n57 Z68⟩, trivial⟩, ⟨rfl, trivial⟩, rfl, rfl, rfl, (treeB t57 r15.2), (noRoB n57 r15.2), rfl, rfl, trivial⟩))
noncomputable def body89 : Code := match Tryz.f89.body with | some c => c | none => .skip
noncomputable def slices_Index_int_int_l0  (p1 : (List Int)) (p2 : Int) : Nat → Int → Option Int
 | 0, _ => none
 | n + 1, v3 =>
 if (decide (v3 < (p1.length : Int))) = true then
  Option.bind (rd p1 v3) fun x5 =>
  if (p2 == x5) = true then
   some v3
  else
   slices_Index_int_int_l0 p1 p2 n (w64 (v3 + 1))
 else
  some (-1)
theorem slices_Index_int_int_l0_m {E : Env} (hP : E.P = Tryz.prog) (hn : E.n = 19) (hx : FX E []) (p1 : (List Int)) (p2 : Int)  : ∀ (n : Nat) (v3 : Int) (r : Int), slices_Index_int_int_l0 p1 p2 n v3 = some r → WAt E body89 (FQ (RetE Θ Tryz.f89.results.toList [] [] (I r) E)) [true, false, true, false] ⟨[(0, (AV.ro 1 (p1.map o3))), (1, (I p2)), (7, (I (p1.length : Int))), (8, (I v3))], [], [JJ]⟩ := by
 intro n
 induction n with
 | zero => intro v3 r h; simp only [slices_Index_int_int_l0] at h; cases h
 | succ n ih =>
  intro v3 r h
  simp only [slices_Index_int_int_l0] at h
  let Z0 := (decide (v3 < (p1.length : Int)))
  rcases itS h with ⟨c4, h⟩ | ⟨c8, h⟩
  ·obtain ⟨x5, hx5, h⟩ := bnS h
   let P1 : List Prop := [Z0 = true, (0 : Int) ≤ v3, (p1.map o3)[(Int.toNat v3)]? = some (o3 x5)]
   have AP1 : AllP P1 := ⟨c4, (rd0 hx5), (rdM o3 hx5), trivial⟩
   rcases itS h with ⟨c6, h⟩ | ⟨c7, h⟩
   ·obtain rfl := sj h
    exact gR hP hn [hT 1, ⟨7, .row (o3 x5), none⟩, hT 10] [] .raw (P1 ++ [(p2 == x5) = true, (I v3) = (I v3), litA (I v3) = true]) (andP AP1 ⟨c6, rfl, rfl, trivial⟩)
   ·exact gT hP hn hx [hT 1, ⟨7, .row (o3 x5), none⟩, hF 10] [] [0, 1, 7, 8] [] (P1 ++ [(p2 == x5) = false]) (andP AP1 ⟨c7, trivial⟩) (ih (w64 (v3 + 1)) _ h)
  ·obtain rfl := sj h
   exact gR hP hn [hF 1] [] .raw [Z0 = false, (I (-1)) = (I (-1)), litA (I (-1)) = true] ⟨c8, rfl, rfl, trivial⟩
noncomputable def slices_Index_int_int (p1 : (List Int)) (p2 : Int) : Option Int :=
 slices_Index_int_int_l0 p1 p2 FU 0
theorem slices_Index_int_int_m {p1 : (List Int)} {p2 : Int} {r : Int} (h : slices_Index_int_int p1 p2 = some r) : Meets Tryz.prog 89 [(AV.ro 1 (p1.map o3)), (I p2)] (I r) := by
 refine gM Tryz.func89 19 body89 fun E hP hn hx => ?_
 unfold slices_Index_int_int at h
 exact (let Z0 := (I (p1.length : Int)); gT hP hn hx [hO 2 Z0] [] [0, 1, 7, 8] [] [AV.lit (.int .i64 (((p1.map o3).length : Nat) : Int)) = Z0] ⟨(lenM o3), trivial⟩ (slices_Index_int_int_l0_m hP hn hx p1 p2 FU 0 _ h))
noncomputable def body74 : Code := match Tryz.f74.body with | some c => c | none => .skip
noncomputable def slices_Contains_int_int (p1 : (List Int)) (p2 : Int) : Option Bool :=
 Option.bind (slices_Index_int_int p1 p2) fun r3 =>
 some (decide (r3 ≥ 0))
theorem slices_Contains_int_int_m {p1 : (List Int)} {p2 : Int} {r : Bool} (h : slices_Contains_int_int p1 p2 = some r) : Meets Tryz.prog 74 [(AV.ro 1 (p1.map o3)), (I p2)] (B r) := by
 refine gM Tryz.func74 9 body74 fun E hP hn hx => ?_
 unfold slices_Contains_int_int at h
 obtain ⟨r3, hr3, h⟩ := bnS h
 obtain rfl := sj h
 exact (let Z0 := (B (decide (r3 ≥ 0))); gR hP hn [⟨3, .callV [] (I r3), none⟩] [] .raw [Meets Tryz.prog 89 [(AV.ro 1 (p1.map o3)), (I p2)] (I r3), litA (I r3) = true, Z0 = Z0, litA Z0 = true] ⟨(slices_Index_int_int_m hr3), rfl, rfl, rfl, trivial⟩)
noncomputable def body21 : Code := match Tryz.f21.body with | some c => c | none => .skip
noncomputable def impl_StepState_j0  (p3 : Int) (a11 : GProg) (a12 : GState) (a13 : GState) (a14 : GEvent) : Option (GState × GEvent × Bool) :=
 Option.bind (impl_State_copied a12) fun r15 =>
 Option.bind (impl_State_step (GState.mk r15.Threads r15.Cells r15.Owner r15.Fault) a11 p3) fun r16 =>
 some ((GState.mk r16.2.Threads r16.2.Cells r16.2.Owner r16.2.Fault), r16.1, true)
theorem impl_StepState_j0_m {E : Env} (hP : E.P = Tryz.prog) (hn : E.n = 31) (hx : FX E []) (p3 : Int)  (a11 : GProg) (a12 : GState) (a13 : GState) (a14 : GEvent) (r : (GState × GEvent × Bool)) (h : impl_StepState_j0 p3 a11 a12 a13 a14 = some r) : WAt E body21 (FQ (RetE Θ Tryz.f21.results.toList [] [] (AV.tup [(AV.agg (o57 r.1)), (AV.agg (o59 r.2.1)), (B r.2.2)]) E)) [true, false, true, true] ⟨[(2, (I p3)), (3, (AV.ptr 1 0 0)), (4, (AV.ptr 2 0 0)), (6, (AV.ptr 3 0 0)), (7, (AV.ptr 4 0 0))], [(1, some ⟨34, 4, [((r34 a11))]⟩), (2, some ⟨57, 4, [((r57 a12))]⟩), (3, some ⟨57, 4, [((o57 a13))]⟩), (4, some ⟨59, 5, [((o59 a14))]⟩)], [1, 2, 3, 4, JJ]⟩ := by
 unfold impl_StepState_j0 at h
 obtain ⟨r15, hr15, h⟩ := bnS h
 obtain ⟨r16, hr16, h⟩ := bnS h
 obtain rfl := sj h
 exact (let Z0 := (AV.agg (o57 r15)); let Z1 := (r15.Threads.map o179); let Z2 := (AV.sl 1001 0 (List.length Z1)); let Z3 := (r15.Cells.map o142); let Z4 := (AV.sl 1002 0 (List.length Z3)); let Z5 := (r15.Owner.map o3); let Z6 := (AV.sl 1003 0 (List.length Z5)); let Z7 := (I r15.Fault); let Z8 := [Z2, Z4, Z6, Z7]; let Z9 := (AV.own 179 6 Z1); let Z10 := [Z9, Z4, Z6, Z7]; let Z11 := (AV.own 142 1 Z3); let Z12 := [Z9, Z11, Z6, Z7]; let Z13 := [[Z9, Z11, (AV.own 3 1 Z5), Z7]]; let Z14 := (o57 (GState.mk r15.Threads r15.Cells r15.Owner r15.Fault)); let Z15 := (o57 r16.2); let Z16 := (AV.agg (o59 r16.1)); let Z17 := (AV.agg ((o59 r16.1))); let Z18 := (r16.2.Threads.map o179); let Z19 := (List.length Z18); let Z20 := (AV.sl 1006 0 Z19); let Z21 := (r16.2.Cells.map o142); let Z22 := (r16.2.Owner.map o3); let Z23 := (AV.own 3 1 Z22); let Z24 := (I r16.2.Fault); let Z25 := [Z20, (AV.own 142 1 Z21), Z23, Z24]; let Z26 := (List.length Z21); let Z27 := (AV.sl 1007 0 Z26); let Z28 := [Z20, Z27, Z23, Z24]; let Z29 := (List.length Z22); let Z30 := [Z20, Z27, (AV.sl 1008 0 Z29), Z24]; let Z31 := (rtf (renA [(0, 1004)] Z16) []); let Z32 := (GState.mk r15.Threads r15.Cells r15.Owner r15.Fault); gR hP hn [⟨1, .call [[]] Z0 [1001, 1002, 1003], none⟩, hW 2 1004, ⟨6, .pack 1004 1001 0 0 Z8 [Z10], none⟩, ⟨6, .pack 1004 1002 0 1 Z10 [Z12], none⟩, ⟨6, .pack 1004 1003 0 2 Z12 Z13, none⟩, ⟨6, .callX [1004] [true] [⟨57, 4, [Z14]⟩] [⟨57, 4, [Z15]⟩] [[]] Z16 [] Z17 [], none⟩, hW 7 1005, ⟨9, .unpack 1004 1006 0 0 (Z15) 179 6 Z18 [Z25], none⟩, ⟨9, .unpack 1004 1007 0 1 Z25 142 1 Z21 [Z28], none⟩, ⟨9, .unpack 1004 1008 0 2 Z28 3 1 Z22 [Z30], none⟩] [] (.agg [.agg [.own, .own, .own, .raw], .raw, .raw]) [Meets Tryz.prog 76 [(AV.agg ((r57 a12)))] Z0, noRo Z0 = true, [Z8][0]? = some Z8, Z8[0]? = some Z2, treeLL Z1 = true, [Z8].set 0 (Z8.set 0 Z9) = [Z10], [Z10][0]? = some Z10, Z10[1]? = some Z4, treeLL Z3 = true, [Z10].set 0 (Z10.set 1 Z11) = [Z12], [Z12][0]? = some Z12, Z12[2]? = some Z6, treeLL Z5 = true, [Z12].set 0 (Z12.set 2 (AV.own 3 1 Z5)) = Z13, MeetsR Tryz.prog 77 [⟨57, 4, [Z14]⟩] [(AV.ptr 0 0 0), (AV.agg ((r34 a11))), (I p3)] [true] [⟨57, 4, [Z15]⟩] Z16, (some (Root.mk 57 4 Z13) = some (Root.mk 57 4 [Z14])) ∧ True, (treeLL [Z14] = true ∧ noRoLL [Z14] = true) ∧ True, ([Z15].length = [Z14].length) ∧ True, Z31.1 = Z17, Z31.2.1 = [], [(Z15)][0]? = some (Z15), (Z15)[0]? = some (AV.own 179 6 Z18), 0 < 6, [(Z15)].set 0 ((Z15).set 0 Z20) = [Z25], [Z25][0]? = some Z25, Z25[1]? = some (AV.own 142 1 Z21), 0 < 1, [Z25].set 0 (Z25.set 1 Z27) = [Z28], [Z28][0]? = some Z28, Z28[2]? = some Z23, 0 < 1, [Z28].set 0 (Z28.set 2 (AV.sl 1008 0 Z29)) = [Z30], (AV.agg Z30) = (AV.agg Z30), Z17 = Z17, Z17 = Z17, [(3, some (Root.mk 57 4 [Z30]))] = [(3, some (Root.mk 57 4 [Z30]))], treeLL (Z18.take Z19) = true, Z18.take Z19 = Z18, noRoLL Z18 = true, treeLL (Z21.take Z26) = true, Z21.take Z26 = Z21, noRoLL Z21 = true, treeLL (Z22.take Z29) = true, Z22.take Z29 = Z22, noRoLL Z22 = true, Z24 = Z24, litA Z24 = true, Z17 = Z17, litA Z17 = true, (B true) = (B true), litA (B true) = true] ⟨(impl_State_copied_m hr15), (by simp +zetaDelta only [noRo, noRoL, noRoM n3, noRoM n142, noRoM n179, o57, Bool.and_self]), rfl, rfl, (treeM t179), rfl, rfl, rfl, (treeM t142), rfl, rfl, rfl, (treeM t3), rfl, (impl_State_step_m hr16), ⟨rfl, trivial⟩, ⟨⟨treeB t57 Z32, noRoB n57 Z32⟩, trivial⟩, ⟨rfl, trivial⟩, rfl, rfl, rfl, rfl, (by decide), rfl, rfl, rfl, (by decide), rfl, rfl, rfl, (by decide), rfl, rfl, rfl, rfl, rfl, (treeT t179), takeM, (noRoM n179), (treeT t142), takeM, (noRoM n142), (treeT t3), takeM, (noRoM n3), rfl, rfl, rfl, rfl, rfl, rfl, trivial⟩)
noncomputable def impl_StepState (p1 : GProg) (p2 : GState) (p3 : Int) : Option (GState × GEvent × Bool) :=
 Option.bind (impl_GoodState p1 p2) fun r4 =>
 if (!r4) = true then
  some ((GState.mk [] [] [] 0), (GEvent.mk 0 0 0 0 0), false)
 else
  Option.bind (impl_State_enabled p2 p1) fun r7 =>
  Option.bind (slices_Contains_int_int r7 p3) fun r8 =>
  if (!r8) = true then
   some ((GState.mk [] [] [] 0), (GEvent.mk 0 0 0 0 0), false)
  else
   impl_StepState_j0 p3 p1 p2 (GState.mk [] [] [] 0) (GEvent.mk 0 0 0 0 0)
theorem impl_StepState_m {p1 : GProg} {p2 : GState} {p3 : Int} {r : (GState × GEvent × Bool)} (h : impl_StepState p1 p2 p3 = some r) : Meets Tryz.prog 21 [(AV.agg ((r34 p1))), (AV.agg ((r57 p2))), (I p3)] (AV.tup [(AV.agg (o57 r.1)), (AV.agg (o59 r.2.1)), (B r.2.2)]) := by
 refine gM Tryz.func21 31 body21 fun E hP hn hx => ?_
 unfold impl_StepState at h
 obtain ⟨r4, hr4, h⟩ := bnS h
 let Z0 := ((r57 p2)); let Z1 := (I 0); let Z2 := (AV.agg [Z1, Z1, Z1, Z1, Z1]); let Z3 := (B false); let Z6 := (AV.own 179 6 ([].map o179)); let Z7 := [[Z6, nS, nS, Z1]]; let Z8 := (AV.own 142 1 ([].map o142)); let Z9 := [[Z6, Z8, nS, Z1]]; let Z10 := [[Z6, Z8, (AV.own 3 1 ([].map o3)), Z1]]; let Z11 := (GState.mk [] [] [] 0)
 let H1 : List Hn := [hW 0 1001, hW 1 1002, hW 2 1003, hW 3 1004, ⟨7, .callV [[], []] (B r4), none⟩]
 let P2 : List Prop := [Meets Tryz.prog 73 [(AV.agg ((r34 p1))), (AV.agg Z0)] (B r4), litA (B r4) = true]
 have AP2 : AllP P2 := ⟨(impl_GoodState_m hr4), rfl, trivial⟩
 rcases itS h with ⟨c5, h⟩ | ⟨c6, h⟩
 ·obtain rfl := sj h
  exact gR hP hn (H1 ++ [hO 9 (B true)]) [] (.agg [.agg [.own, .own, .own, .raw], .raw, .raw]) (P2 ++ [(B (!r4)) = (B true), Z1 = Z1, litA Z1 = true, Z2 = Z2, litA Z2 = true, Z3 = Z3, litA Z3 = true]) (andP AP2 ⟨(litB c5), rfl, rfl, rfl, rfl, rfl, rfl, trivial⟩)
 ·obtain ⟨r7, hr7, h⟩ := bnS h
  obtain ⟨r8, hr8, h⟩ := bnS h
  let Z4 := (r7.map o3); let Z5 := (AV.own 3 1 Z4)
  let H3 : List Hn := H1 ++ [hO 9 Z3, ⟨11, .call [[Z0, (r57 p2)], []] Z5 [1005], none⟩, ⟨13, .callV [Z4] (B r8), none⟩]
  let P4 : List Prop := P2 ++ [(B (!r4)) = Z3, Meets Tryz.prog 75 [(AV.rop (r57 p2) 0), (AV.agg ((r34 p1)))] Z5, noRo Z5 = true, [Z0][0]? = some Z0, treeL Z0 = true, frzL Z0 = (r57 p2), Meets Tryz.prog 74 [(AV.ro 1 Z4), (I p3)] (B r8), litA (B r8) = true, Frz ((Z4.drop 0).take (List.length Z4)) Z4]
  have AP4 : AllP P4 := andP AP2 ⟨(litB c6), (impl_State_enabled_m hr7), (by simp +zetaDelta only [noRo, noRoL, noRoM n3, Bool.and_self]), rfl, rfl, rfl, (slices_Contains_int_int_m hr8), rfl, (frzF t3 z3), trivial⟩
  rcases itS h with ⟨c9, h⟩ | ⟨c10, h⟩
  ·obtain rfl := sj h
   exact gR hP hn (H3 ++ [hT 16]) [] (.agg [.agg [.own, .own, .own, .raw], .raw, .raw]) (P4 ++ [(!r8) = true, Z1 = Z1, litA Z1 = true, Z2 = Z2, litA Z2 = true, Z3 = Z3, litA Z3 = true]) (andP AP4 ⟨c9, rfl, rfl, rfl, rfl, rfl, rfl, trivial⟩)
  ·exact gT hP hn hx (H3 ++ [hF 16, ⟨17, .own0 1003 1 [] [nS, nS, Z1] 179 6 Z7, none⟩, ⟨17, .own0 1003 1 [Z6] [nS, Z1] 142 1 Z9, none⟩, ⟨17, .own0 1003 1 [Z6, Z8] [Z1] 3 1 Z10, none⟩]) [(1001, 1), (1002, 2), (1003, 3), (1004, 4)] [2, 3, 4, 6, 7] [] (P4 ++ [(!r8) = false, [[nS, nS, nS, Z1]] = List.replicate 1 ([] ++ AV.lit (.slice none 0 0) :: [nS, nS, Z1]), List.replicate 1 ([] ++ AV.own 179 6 [] :: [nS, nS, Z1]) = Z7, Z7 = List.replicate 1 ([Z6] ++ AV.lit (.slice none 0 0) :: [nS, Z1]), List.replicate 1 ([Z6] ++ AV.own 142 1 [] :: [nS, Z1]) = Z9, Z9 = List.replicate 1 ([Z6, Z8] ++ AV.lit (.slice none 0 0) :: [Z1]), List.replicate 1 ([Z6, Z8] ++ AV.own 3 1 [] :: [Z1]) = Z10, RenOK [(1001, 1), (1002, 2), (1003, 3), (1004, 4)] [((r34 p1))], RenOK [(1001, 1), (1002, 2), (1003, 3), (1004, 4)] [Z0], RenOK [(1001, 1), (1002, 2), (1003, 3), (1004, 4)] Z10, RenOK [(1001, 1), (1002, 2), (1003, 3), (1004, 4)] [[Z1, Z1, Z1, Z1, Z1]]]) (andP AP4 ⟨c10, rfl, rfl, rfl, rfl, rfl, rfl, (rok (treeB t34 p1)), (rok (treeB t57 p2)), (rok (treeB t57 Z11)), (rok rfl), trivial⟩) (impl_StepState_j0_m hP hn hx p3 p1 p2 Z11 (GEvent.mk 0 0 0 0 0) _ h)
noncomputable def body23 : Code := match Tryz.f23.body with | some c => c | none => .skip
noncomputable def laws_eqEvent (p1 : GEvent) (p2 : GEvent) : Option Bool :=
 if (p1.Thread != p2.Thread) = true then
  some false
 else
  if (p1.Kind != p2.Kind) = true then
   some false
  else
   if (p1.Obj != p2.Obj) = true then
    some false
   else
    if (p1.Lock != p2.Lock) = true then
     some false
    else
     if (p1.Pc != p2.Pc) = true then
      some false
     else
      some true
theorem laws_eqEvent_m {p1 : GEvent} {p2 : GEvent} {r : Bool} (h : laws_eqEvent p1 p2 = some r) : Meets Tryz.prog 23 [(AV.agg ((o59 p1))), (AV.agg ((o59 p2)))] (B r) := by
 refine gM Tryz.func23 30 body23 fun E hP hn hx => ?_
 unfold laws_eqEvent at h
 let Z0 := (p1.Thread != p2.Thread); let Z1 := (B false); let Z2 := (p1.Kind != p2.Kind); let Z3 := (p1.Lock != p2.Lock)
 let H1 : List Hn := [hW 0 1001, hW 1 1002]
 rcases itS h with ⟨c3, h⟩ | ⟨c4, h⟩
 ·obtain rfl := sj h
  exact gR hP hn (H1 ++ [hT 8]) [] .raw [Z0 = true, Z1 = Z1, litA Z1 = true] ⟨c3, rfl, rfl, trivial⟩
 ·let P2 : List Prop := [Z0 = false]
  have AP2 : AllP P2 := ⟨c4, trivial⟩
  rcases itS h with ⟨c5, h⟩ | ⟨c6, h⟩
  ·obtain rfl := sj h
   exact gR hP hn (H1 ++ [hF 8, hT 14]) [] .raw (P2 ++ [Z2 = true, Z1 = Z1, litA Z1 = true]) (andP AP2 ⟨c5, rfl, rfl, trivial⟩)
  ·rcases itS h with ⟨c7, h⟩ | ⟨c8, h⟩
   ·obtain rfl := sj h
    exact gR hP hn (H1 ++ [hF 8, hF 14, hT 20]) [] .raw (P2 ++ [Z2 = false, (p1.Obj != p2.Obj) = true, Z1 = Z1, litA Z1 = true]) (andP AP2 ⟨c6, c7, rfl, rfl, trivial⟩)
   ·let P3 : List Prop := P2 ++ [Z2 = false, (p1.Obj != p2.Obj) = false]
    have AP3 : AllP P3 := andP AP2 ⟨c6, c8, trivial⟩
    rcases itS h with ⟨c9, h⟩ | ⟨c10, h⟩
    ·obtain rfl := sj h
     exact gR hP hn (H1 ++ [hF 8, hF 14, hF 20, hT 26]) [] .raw (P3 ++ [Z3 = true, Z1 = Z1, litA Z1 = true]) (andP AP3 ⟨c9, rfl, rfl, trivial⟩)
    ·rcases itS h with ⟨c11, h⟩ | ⟨c12, h⟩
     ·obtain rfl := sj h
      exact gR hP hn (H1 ++ [hF 8, hF 14, hF 20, hF 26, hT 32]) [] .raw (P3 ++ [Z3 = false, (p1.Pc != p2.Pc) = true, Z1 = Z1, litA Z1 = true]) (andP AP3 ⟨c10, c11, rfl, rfl, trivial⟩)
     ·obtain rfl := sj h
      exact gR hP hn (H1 ++ [hF 8, hF 14, hF 20, hF 26, hF 32]) [] .raw (P3 ++ [Z3 = false, (p1.Pc != p2.Pc) = false, (B true) = (B true), litA (B true) = true]) (andP AP3 ⟨c10, c12, rfl, rfl, trivial⟩)
noncomputable def body150 : Code := match Tryz.f150.body with | some c => c | none => .skip
noncomputable def laws_sameFloat_j0  (p1 : Nat) (p2 : Nat)  : Option Bool :=
 if ((fcmp p1 0) == some .eq) = true then
  if ((fcmp p2 0) == some .eq) = true then
   some (((fcmp (fdv 4607182418800017408 p1) 0) == some .gt) == ((fcmp (fdv 4607182418800017408 p2) 0) == some .gt))
  else
   some ((fcmp p1 p2) == some .eq)
 else
  some ((fcmp p1 p2) == some .eq)
theorem laws_sameFloat_j0_m {E : Env} (hP : E.P = Tryz.prog) (hn : E.n = 37) (hx : FX E []) (p1 : Nat) (p2 : Nat)   (r : Bool) (h : laws_sameFloat_j0 p1 p2  = some r) : WAt E body150 (FQ (RetE Θ Tryz.f150.results.toList [] [] (B r) E)) [true, false, true, true] ⟨[(0, (FK p1)), (1, (FK p2))], [], [JJ]⟩ := by
 unfold laws_sameFloat_j0 at h
 let Z0 := (fcmp p1 0); let Z1 := (fcmp p2 0); let Z2 := (fdv 4607182418800017408 p1); let Z3 := (fcmp Z2 0); let Z4 := (fdv 4607182418800017408 p2); let Z5 := (fcmp Z4 0); let Z6 := (fcmp p1 p2)
 let H1 : List Hn := [⟨1, .bin (B (Z0 == some .eq)), none⟩]
 let P2 : List Prop := [BinS Tryz.prog .eql 142 (FK p1) (FK 0) (B (Z0 == some .eq))]
 have AP2 : AllP P2 := ⟨fEql, trivial⟩
 rcases itS h with ⟨c11, h⟩ | ⟨c14, h⟩
 ·let P3 : List Prop := P2 ++ [(B (Z0 == some .eq)) = (B true), BinS Tryz.prog .eql 142 (FK p2) (FK 0) (B (Z1 == some .eq))]
  have AP3 : AllP P3 := andP AP2 ⟨(litB c11), fEql, trivial⟩
  rcases itS h with ⟨c12, h⟩ | ⟨c13, h⟩
  ·obtain rfl := sj h
   exact gR hP hn (H1 ++ [hO 2 (B true), ⟨4, .bin (B (Z1 == some .eq)), none⟩, hT 6, ⟨8, .bin (FK Z2), none⟩, ⟨9, .bin (B (Z3 == some .gt)), none⟩, ⟨11, .bin (FK Z4), none⟩, ⟨12, .bin (B (Z5 == some .gt)), none⟩]) [] .raw (P3 ++ [(Z1 == some .eq) = true, BinS Tryz.prog .quo 142 (FK 4607182418800017408) (FK p1) (FK Z2), BinS Tryz.prog .gtr 142 (FK Z2) (FK 0) (B (Z3 == some .gt)), BinS Tryz.prog .quo 142 (FK 4607182418800017408) (FK p2) (FK Z4), BinS Tryz.prog .gtr 142 (FK Z4) (FK 0) (B (Z5 == some .gt)), (B ((Z3 == some .gt) == (Z5 == some .gt))) = (B ((Z3 == some .gt) == (Z5 == some .gt))), litA (B ((Z3 == some .gt) == (Z5 == some .gt))) = true]) (andP AP3 ⟨c12, fQuo, fGtr, fQuo, fGtr, rfl, rfl, trivial⟩)
  ·obtain rfl := sj h
   exact gR hP hn (H1 ++ [hO 2 (B true), ⟨4, .bin (B (Z1 == some .eq)), none⟩, hF 6, ⟨9, .bin (B (Z6 == some .eq)), none⟩]) [] .raw (P3 ++ [(Z1 == some .eq) = false, BinS Tryz.prog .eql 142 (FK p1) (FK p2) (B (Z6 == some .eq)), (B (Z6 == some .eq)) = (B (Z6 == some .eq)), litA (B (Z6 == some .eq)) = true]) (andP AP3 ⟨c13, fEql, rfl, rfl, trivial⟩)
 ·obtain rfl := sj h
  exact gR hP hn (H1 ++ [hO 2 (B false), ⟨9, .bin (B (Z6 == some .eq)), none⟩]) [] .raw (P2 ++ [(B (Z0 == some .eq)) = (B false), BinS Tryz.prog .eql 142 (FK p1) (FK p2) (B (Z6 == some .eq)), (B (Z6 == some .eq)) = (B (Z6 == some .eq)), litA (B (Z6 == some .eq)) = true]) (andP AP2 ⟨(litB c14), fEql, rfl, rfl, trivial⟩)
noncomputable def laws_sameFloat (p1 : Nat) (p2 : Nat) : Option Bool :=
 if ((fcmp p1 p1) != some .eq) = true then
  if ((fcmp p1 p1) != some .eq) = true then
   some ((fcmp p2 p2) != some .eq)
  else
   some false
 else
  if ((fcmp p2 p2) != some .eq) = true then
   if ((fcmp p1 p1) != some .eq) = true then
    some ((fcmp p2 p2) != some .eq)
   else
    some false
  else
   laws_sameFloat_j0 p1 p2
theorem laws_sameFloat_m {p1 : Nat} {p2 : Nat} {r : Bool} (h : laws_sameFloat p1 p2 = some r) : Meets Tryz.prog 150 [(FK p1), (FK p2)] (B r) := by
 refine gM Tryz.func150 37 body150 fun E hP hn hx => ?_
 unfold laws_sameFloat at h
 let Z0 := (fcmp p1 p1); let Z1 := (B true); let Z2 := (fcmp p2 p2); let Z3 := (B false)
 let H1 : List Hn := [⟨3, .bin (B (Z0 != some .eq)), none⟩]
 let P2 : List Prop := [BinS Tryz.prog .neq 142 (FK p1) (FK p1) (B (Z0 != some .eq))]
 have AP2 : AllP P2 := ⟨fNeq, trivial⟩
 rcases itS h with ⟨c3, h⟩ | ⟨c6, h⟩
 ·let P3 : List Prop := P2 ++ [(B (Z0 != some .eq)) = Z1, BinS Tryz.prog .neq 142 (FK p1) (FK p1) (B (Z0 != some .eq))]
  have AP3 : AllP P3 := andP AP2 ⟨(litB c3), fNeq, trivial⟩
  rcases itS h with ⟨c4, h⟩ | ⟨c5, h⟩
  ·obtain rfl := sj h
   exact gR hP hn (H1 ++ [hO 4 Z1, ⟨12, .bin (B (Z0 != some .eq)), none⟩, hO 13 Z1, ⟨16, .bin (B (Z2 != some .eq)), none⟩]) [] .raw (P3 ++ [(B (Z0 != some .eq)) = Z1, BinS Tryz.prog .neq 142 (FK p2) (FK p2) (B (Z2 != some .eq)), (B (Z2 != some .eq)) = (B (Z2 != some .eq)), litA (B (Z2 != some .eq)) = true]) (andP AP3 ⟨(litB c4), fNeq, rfl, rfl, trivial⟩)
  ·obtain rfl := sj h
   exact gR hP hn (H1 ++ [hO 4 Z1, ⟨12, .bin (B (Z0 != some .eq)), none⟩, hO 13 Z3]) [] .raw (P3 ++ [(B (Z0 != some .eq)) = Z3, Z3 = Z3, litA Z3 = true]) (andP AP3 ⟨(litB c5), rfl, rfl, trivial⟩)
 ·let H4 : List Hn := H1 ++ [hO 4 Z3, ⟨7, .bin (B (Z2 != some .eq)), none⟩]
  let P5 : List Prop := P2 ++ [(B (Z0 != some .eq)) = Z3, BinS Tryz.prog .neq 142 (FK p2) (FK p2) (B (Z2 != some .eq))]
  have AP5 : AllP P5 := andP AP2 ⟨(litB c6), fNeq, trivial⟩
  rcases itS h with ⟨c7, h⟩ | ⟨c10, h⟩
  ·let P6 : List Prop := P5 ++ [(Z2 != some .eq) = true, BinS Tryz.prog .neq 142 (FK p1) (FK p1) (B (Z0 != some .eq))]
   have AP6 : AllP P6 := andP AP5 ⟨c7, fNeq, trivial⟩
   rcases itS h with ⟨c8, h⟩ | ⟨c9, h⟩
   ·obtain rfl := sj h
    exact gR hP hn (H4 ++ [hT 9, ⟨12, .bin (B (Z0 != some .eq)), none⟩, hO 13 Z1, ⟨16, .bin (B (Z2 != some .eq)), none⟩]) [] .raw (P6 ++ [(B (Z0 != some .eq)) = Z1, BinS Tryz.prog .neq 142 (FK p2) (FK p2) (B (Z2 != some .eq)), (B (Z2 != some .eq)) = (B (Z2 != some .eq)), litA (B (Z2 != some .eq)) = true]) (andP AP6 ⟨(litB c8), fNeq, rfl, rfl, trivial⟩)
   ·obtain rfl := sj h
    exact gR hP hn (H4 ++ [hT 9, ⟨12, .bin (B (Z0 != some .eq)), none⟩, hO 13 Z3]) [] .raw (P6 ++ [(B (Z0 != some .eq)) = Z3, Z3 = Z3, litA Z3 = true]) (andP AP6 ⟨(litB c9), rfl, rfl, trivial⟩)
  ·exact gT hP hn hx (H4 ++ [hF 9]) [] [0, 1] [] (P5 ++ [(Z2 != some .eq) = false]) (andP AP5 ⟨c10, trivial⟩) (laws_sameFloat_j0_m hP hn hx p1 p2  _ h)
noncomputable def body176 : Code := match Tryz.f176.body with | some c => c | none => .skip
noncomputable def laws_eqOp (p1 : GOp) (p2 : GOp) : Option Bool :=
 if (p1.Code != p2.Code) = true then
  some false
 else
  if (p1.A != p2.A) = true then
   some false
  else
   if (p1.B != p2.B) = true then
    some false
   else
    Option.bind (laws_sameFloat p1.V p2.V) fun r9 =>
    if (!r9) = true then
     some false
    else
     some true
theorem laws_eqOp_m {p1 : GOp} {p2 : GOp} {r : Bool} (h : laws_eqOp p1 p2 = some r) : Meets Tryz.prog 176 [(AV.agg ((o144 p1))), (AV.agg ((o144 p2)))] (B r) := by
 refine gM Tryz.func176 26 body176 fun E hP hn hx => ?_
 unfold laws_eqOp at h
 let Z0 := (p1.Code != p2.Code); let Z1 := (B false)
 let H1 : List Hn := [hW 0 1001, hW 1 1002]
 rcases itS h with ⟨c3, h⟩ | ⟨c4, h⟩
 ·obtain rfl := sj h
  exact gR hP hn (H1 ++ [hT 8]) [] .raw [Z0 = true, Z1 = Z1, litA Z1 = true] ⟨c3, rfl, rfl, trivial⟩
 ·rcases itS h with ⟨c5, h⟩ | ⟨c6, h⟩
  ·obtain rfl := sj h
   exact gR hP hn (H1 ++ [hF 8, hT 14]) [] .raw [Z0 = false, (p1.A != p2.A) = true, Z1 = Z1, litA Z1 = true] ⟨c4, c5, rfl, rfl, trivial⟩
  ·let P2 : List Prop := [Z0 = false, (p1.A != p2.A) = false]
   have AP2 : AllP P2 := ⟨c4, c6, trivial⟩
   rcases itS h with ⟨c7, h⟩ | ⟨c8, h⟩
   ·obtain rfl := sj h
    exact gR hP hn (H1 ++ [hF 8, hF 14, hT 20]) [] .raw (P2 ++ [(p1.B != p2.B) = true, Z1 = Z1, litA Z1 = true]) (andP AP2 ⟨c7, rfl, rfl, trivial⟩)
   ·obtain ⟨r9, hr9, h⟩ := bnS h
    let P3 : List Prop := P2 ++ [(p1.B != p2.B) = false, Meets Tryz.prog 150 [(FK p1.V), (FK p2.V)] (B r9), litA (B r9) = true]
    have AP3 : AllP P3 := andP AP2 ⟨c8, (laws_sameFloat_m hr9), rfl, trivial⟩
    rcases itS h with ⟨c10, h⟩ | ⟨c11, h⟩
    ·obtain rfl := sj h
     exact gR hP hn (H1 ++ [hF 8, hF 14, hF 20, ⟨25, .callV [] (B r9), none⟩, hT 27]) [] .raw (P3 ++ [(!r9) = true, Z1 = Z1, litA Z1 = true]) (andP AP3 ⟨c10, rfl, rfl, trivial⟩)
    ·obtain rfl := sj h
     exact gR hP hn (H1 ++ [hF 8, hF 14, hF 20, ⟨25, .callV [] (B r9), none⟩, hF 27]) [] .raw (P3 ++ [(!r9) = false, (B true) = (B true), litA (B true) = true]) (andP AP3 ⟨c11, rfl, rfl, trivial⟩)
noncomputable def body128 : Code := match Tryz.f128.body with | some c => c | none => .skip
noncomputable def laws_eqOpS_l0  (p1 : (List GOp)) (p2 : (List GOp)) : Nat → Int → Option Bool
 | 0, _ => none
 | n + 1, v5 =>
 if (decide (v5 < (p1.length : Int))) = true then
  Option.bind (rd p1 v5) fun x7 =>
  Option.bind (rd p2 v5) fun x8 =>
  Option.bind (laws_eqOp x7 x8) fun r9 =>
  if (!r9) = true then
   some false
  else
   laws_eqOpS_l0 p1 p2 n (w64 (v5 + 1))
 else
  some true
theorem laws_eqOpS_l0_m {E : Env} (hP : E.P = Tryz.prog) (hn : E.n = 27) (hx : FX E []) (p1 : (List GOp)) (p2 : (List GOp))  : ∀ (n : Nat) (v5 : Int) (r : Bool), laws_eqOpS_l0 p1 p2 n v5 = some r → WAt E body128 (FQ (RetE Θ Tryz.f128.results.toList [] [] (B r) E)) [true, true, false, true, false] ⟨[(0, (AV.ro 4 (p1.map o144))), (1, (AV.ro 4 (p2.map o144))), (5, (I v5))], [], [JJ]⟩ := by
 intro n
 induction n with
 | zero => intro v5 r h; simp only [laws_eqOpS_l0] at h; cases h
 | succ n ih =>
  intro v5 r h
  simp only [laws_eqOpS_l0] at h
  let Z0 := (I (p1.length : Int)); let Z1 := (decide (v5 < (p1.length : Int)))
  let P1 : List Prop := [AV.lit (.int .i64 (((p1.map o144).length : Nat) : Int)) = Z0]
  have AP1 : AllP P1 := ⟨(lenM o144), trivial⟩
  rcases itS h with ⟨c6, h⟩ | ⟨c12, h⟩
  ·obtain ⟨x7, hx7, h⟩ := bnS h
   obtain ⟨x8, hx8, h⟩ := bnS h
   obtain ⟨r9, hr9, h⟩ := bnS h
   let H2 : List Hn := [hO 2 Z0, hT 4, ⟨7, .row (o144 x7), none⟩, ⟨11, .row (o144 x8), none⟩, ⟨13, .callV [[], []] (B r9), none⟩]
   let P3 : List Prop := P1 ++ [Z1 = true, (0 : Int) ≤ v5, (p1.map o144)[(Int.toNat v5)]? = some (o144 x7), (0 : Int) ≤ v5, (p2.map o144)[(Int.toNat v5)]? = some (o144 x8), Meets Tryz.prog 176 [(AV.agg ((o144 x7))), (AV.agg ((o144 x8)))] (B r9), litA (B r9) = true]
   have AP3 : AllP P3 := andP AP1 ⟨c6, (rd0 hx7), (rdM o144 hx7), (rd0 hx8), (rdM o144 hx8), (laws_eqOp_m hr9), rfl, trivial⟩
   rcases itS h with ⟨c10, h⟩ | ⟨c11, h⟩
   ·obtain rfl := sj h
    exact gR hP hn (H2 ++ [hT 15]) [] .raw (P3 ++ [(!r9) = true, (B false) = (B false), litA (B false) = true]) (andP AP3 ⟨c10, rfl, rfl, trivial⟩)
   ·exact gT hP hn hx (H2 ++ [hF 15]) [] [0, 1, 5] [] (P3 ++ [(!r9) = false]) (andP AP3 ⟨c11, trivial⟩) (ih (w64 (v5 + 1)) _ h)
  ·obtain rfl := sj h
   exact gR hP hn [hO 2 Z0, hF 4] [] .raw (P1 ++ [Z1 = false, (B true) = (B true), litA (B true) = true]) (andP AP1 ⟨c12, rfl, rfl, trivial⟩)
noncomputable def laws_eqOpS (p1 : (List GOp)) (p2 : (List GOp)) : Option Bool :=
 if ((p1.length : Int) != (p2.length : Int)) = true then
  some false
 else
  laws_eqOpS_l0 p1 p2 FU 0
theorem laws_eqOpS_m {p1 : (List GOp)} {p2 : (List GOp)} {r : Bool} (h : laws_eqOpS p1 p2 = some r) : Meets Tryz.prog 128 [(AV.ro 4 (p1.map o144)), (AV.ro 4 (p2.map o144))] (B r) := by
 refine gM Tryz.func128 27 body128 fun E hP hn hx => ?_
 unfold laws_eqOpS at h
 let Z0 := (I (p1.length : Int)); let Z1 := (I (p2.length : Int)); let Z2 := ((p1.length : Int) != (p2.length : Int))
 let P1 : List Prop := [AV.lit (.int .i64 (((p1.map o144).length : Nat) : Int)) = Z0, AV.lit (.int .i64 (((p2.map o144).length : Nat) : Int)) = Z1]
 have AP1 : AllP P1 := ⟨(lenM o144), (lenM o144), trivial⟩
 rcases itS h with ⟨c3, h⟩ | ⟨c4, h⟩
 ·obtain rfl := sj h
  exact gR hP hn [hO 2 Z0, hO 4 Z1, hT 6] [] .raw (P1 ++ [Z2 = true, (B false) = (B false), litA (B false) = true]) (andP AP1 ⟨c3, rfl, rfl, trivial⟩)
 ·exact gT hP hn hx [hO 2 Z0, hO 4 Z1, hF 6] [] [0, 1, 5] [] (P1 ++ [Z2 = false]) (andP AP1 ⟨c4, trivial⟩) (laws_eqOpS_l0_m hP hn hx p1 p2 FU 0 _ h)
noncomputable def body63 : Code := match Tryz.f63.body with | some c => c | none => .skip
noncomputable def laws_eqOpSS_l0  (p1 : (List (List GOp))) (p2 : (List (List GOp))) : Nat → Int → Option Bool
 | 0, _ => none
 | n + 1, v5 =>
 if (decide (v5 < (p1.length : Int))) = true then
  Option.bind (rd p1 v5) fun x7 =>
  Option.bind (rd p2 v5) fun x8 =>
  Option.bind (laws_eqOpS x7 x8) fun r9 =>
  if (!r9) = true then
   some false
  else
   laws_eqOpSS_l0 p1 p2 n (w64 (v5 + 1))
 else
  some true
theorem laws_eqOpSS_l0_m {E : Env} (hP : E.P = Tryz.prog) (hn : E.n = 27) (hx : FX E []) (p1 : (List (List GOp))) (p2 : (List (List GOp)))  : ∀ (n : Nat) (v5 : Int) (r : Bool), laws_eqOpSS_l0 p1 p2 n v5 = some r → WAt E body63 (FQ (RetE Θ Tryz.f63.results.toList [] [] (B r) E)) [true, true, false, true, false] ⟨[(0, (AV.ro 1 (p1.map r141))), (1, (AV.ro 1 (p2.map r141))), (5, (I v5))], [], [JJ]⟩ := by
 intro n
 induction n with
 | zero => intro v5 r h; simp only [laws_eqOpSS_l0] at h; cases h
 | succ n ih =>
  intro v5 r h
  simp only [laws_eqOpSS_l0] at h
  let Z0 := (I (p1.length : Int)); let Z1 := (decide (v5 < (p1.length : Int)))
  let P1 : List Prop := [AV.lit (.int .i64 (((p1.map r141).length : Nat) : Int)) = Z0]
  have AP1 : AllP P1 := ⟨(lenM r141), trivial⟩
  rcases itS h with ⟨c6, h⟩ | ⟨c12, h⟩
  ·obtain ⟨x7, hx7, h⟩ := bnS h
   obtain ⟨x8, hx8, h⟩ := bnS h
   obtain ⟨r9, hr9, h⟩ := bnS h
   let H2 : List Hn := [hO 2 Z0, hT 4, ⟨7, .row (r141 x7), none⟩, ⟨11, .row (r141 x8), none⟩, ⟨13, .callV [] (B r9), none⟩]
   let P3 : List Prop := P1 ++ [Z1 = true, (0 : Int) ≤ v5, (p1.map r141)[(Int.toNat v5)]? = some (r141 x7), (0 : Int) ≤ v5, (p2.map r141)[(Int.toNat v5)]? = some (r141 x8), Meets Tryz.prog 128 [(AV.ro 4 (x7.map o144)), (AV.ro 4 (x8.map o144))] (B r9), litA (B r9) = true]
   have AP3 : AllP P3 := andP AP1 ⟨c6, (rd0 hx7), (rdM r141 hx7), (rd0 hx8), (rdM r141 hx8), (laws_eqOpS_m hr9), rfl, trivial⟩
   rcases itS h with ⟨c10, h⟩ | ⟨c11, h⟩
   ·obtain rfl := sj h
    exact gR hP hn (H2 ++ [hT 15]) [] .raw (P3 ++ [(!r9) = true, (B false) = (B false), litA (B false) = true]) (andP AP3 ⟨c10, rfl, rfl, trivial⟩)
   ·exact gT hP hn hx (H2 ++ [hF 15]) [] [0, 1, 5] [] (P3 ++ [(!r9) = false]) (andP AP3 ⟨c11, trivial⟩) (ih (w64 (v5 + 1)) _ h)
  ·obtain rfl := sj h
   exact gR hP hn [hO 2 Z0, hF 4] [] .raw (P1 ++ [Z1 = false, (B true) = (B true), litA (B true) = true]) (andP AP1 ⟨c12, rfl, rfl, trivial⟩)
noncomputable def laws_eqOpSS (p1 : (List (List GOp))) (p2 : (List (List GOp))) : Option Bool :=
 if ((p1.length : Int) != (p2.length : Int)) = true then
  some false
 else
  laws_eqOpSS_l0 p1 p2 FU 0
theorem laws_eqOpSS_m {p1 : (List (List GOp))} {p2 : (List (List GOp))} {r : Bool} (h : laws_eqOpSS p1 p2 = some r) : Meets Tryz.prog 63 [(AV.ro 1 (p1.map r141)), (AV.ro 1 (p2.map r141))] (B r) := by
 refine gM Tryz.func63 27 body63 fun E hP hn hx => ?_
 unfold laws_eqOpSS at h
 let Z0 := (I (p1.length : Int)); let Z1 := (I (p2.length : Int)); let Z2 := ((p1.length : Int) != (p2.length : Int))
 let P1 : List Prop := [AV.lit (.int .i64 (((p1.map r141).length : Nat) : Int)) = Z0, AV.lit (.int .i64 (((p2.map r141).length : Nat) : Int)) = Z1]
 have AP1 : AllP P1 := ⟨(lenM r141), (lenM r141), trivial⟩
 rcases itS h with ⟨c3, h⟩ | ⟨c4, h⟩
 ·obtain rfl := sj h
  exact gR hP hn [hO 2 Z0, hO 4 Z1, hT 6] [] .raw (P1 ++ [Z2 = true, (B false) = (B false), litA (B false) = true]) (andP AP1 ⟨c3, rfl, rfl, trivial⟩)
 ·exact gT hP hn hx [hO 2 Z0, hO 4 Z1, hF 6] [] [0, 1, 5] [] (P1 ++ [Z2 = false]) (andP AP1 ⟨c4, trivial⟩) (laws_eqOpSS_l0_m hP hn hx p1 p2 FU 0 _ h)
end Go.Proofs.YtjcaompblpglcaaGreat
