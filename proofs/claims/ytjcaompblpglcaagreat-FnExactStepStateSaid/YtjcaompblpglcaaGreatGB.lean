/- Functions as plain data, and that the code comes to them; no condition. -/

import Derived.Test.YtjcaompblpglcaaGreatGA
set_option linter.unusedVariables false
set_option maxRecDepth 100000
namespace Go.Proofs.YtjcaompblpglcaaGreat
open Go Go.T
noncomputable def body17 : Code := match Tryz.f17.body with | some c => c | none => .skip
noncomputable def laws_eqProg (p1 : GProg) (p2 : GProg) : Option Bool :=
 if (p1.Cells != p2.Cells) = true then
  some false
 else
  if (p1.Locks != p2.Locks) = true then
   some false
  else
   if (p1.Conds != p2.Conds) = true then
    some false
   else
    Option.bind (laws_eqOpSS p1.Routines p2.Routines) fun r9 =>
    if (!r9) = true then
     some false
    else
     some true
theorem laws_eqProg_m {p1 : GProg} {p2 : GProg} {r : Bool} (h : laws_eqProg p1 p2 = some r) : Meets Tryz.prog 17 [(AV.agg ((r34 p1))), (AV.agg ((r34 p2)))] (B r) := by
 refine gM Tryz.func17 26 body17 fun E hP hn hx => ?_
 unfold laws_eqProg at h
 let Z0 := (p1.Cells != p2.Cells); let Z1 := (B false); let Z2 := (p1.Locks != p2.Locks); let Z3 := (p1.Conds != p2.Conds)
 let H1 : List Hn := [hW 0 1001, hW 1 1002]
 rcases itS h with ⟨c3, h⟩ | ⟨c4, h⟩
 ·obtain rfl := sj h
  exact gR hP hn (H1 ++ [hT 8]) [] .raw [Z0 = true, Z1 = Z1, litA Z1 = true] ⟨c3, rfl, rfl, trivial⟩
 ·rcases itS h with ⟨c5, h⟩ | ⟨c6, h⟩
  ·obtain rfl := sj h
   exact gR hP hn (H1 ++ [hF 8, hT 14]) [] .raw [Z0 = false, Z2 = true, Z1 = Z1, litA Z1 = true] ⟨c4, c5, rfl, rfl, trivial⟩
  ·let P2 : List Prop := [Z0 = false, Z2 = false]
   have AP2 : AllP P2 := ⟨c4, c6, trivial⟩
   rcases itS h with ⟨c7, h⟩ | ⟨c8, h⟩
   ·obtain rfl := sj h
    exact gR hP hn (H1 ++ [hF 8, hF 14, hT 20]) [] .raw (P2 ++ [Z3 = true, Z1 = Z1, litA Z1 = true]) (andP AP2 ⟨c7, rfl, rfl, trivial⟩)
   ·obtain ⟨r9, hr9, h⟩ := bnS h
    let P3 : List Prop := P2 ++ [Z3 = false, Meets Tryz.prog 63 [(AV.ro 1 (p1.Routines.map r141)), (AV.ro 1 (p2.Routines.map r141))] (B r9), litA (B r9) = true]
    have AP3 : AllP P3 := andP AP2 ⟨c8, (laws_eqOpSS_m hr9), rfl, trivial⟩
    rcases itS h with ⟨c10, h⟩ | ⟨c11, h⟩
    ·obtain rfl := sj h
     exact gR hP hn (H1 ++ [hF 8, hF 14, hF 20, ⟨25, .callV [] (B r9), none⟩, hT 27]) [] .raw (P3 ++ [(!r9) = true, Z1 = Z1, litA Z1 = true]) (andP AP3 ⟨c10, rfl, rfl, trivial⟩)
    ·obtain rfl := sj h
     exact gR hP hn (H1 ++ [hF 8, hF 14, hF 20, ⟨25, .callV [] (B r9), none⟩, hF 27]) [] .raw (P3 ++ [(!r9) = false, (B true) = (B true), litA (B true) = true]) (andP AP3 ⟨c11, rfl, rfl, trivial⟩)
noncomputable def body79 : Code := match Tryz.f79.body with | some c => c | none => .skip
noncomputable def laws_eqFloat64S_l0  (p1 : (List Nat)) (p2 : (List Nat)) : Nat → Int → Option Bool
 | 0, _ => none
 | n + 1, v5 =>
 if (decide (v5 < (p1.length : Int))) = true then
  Option.bind (rd p1 v5) fun x7 =>
  Option.bind (rd p2 v5) fun x8 =>
  Option.bind (laws_sameFloat x7 x8) fun r9 =>
  if (!r9) = true then
   some false
  else
   laws_eqFloat64S_l0 p1 p2 n (w64 (v5 + 1))
 else
  some true
theorem laws_eqFloat64S_l0_m {E : Env} (hP : E.P = Tryz.prog) (hn : E.n = 27) (hx : FX E []) (p1 : (List Nat)) (p2 : (List Nat))  : ∀ (n : Nat) (v5 : Int) (r : Bool), laws_eqFloat64S_l0 p1 p2 n v5 = some r → WAt E body79 (FQ (RetE Θ Tryz.f79.results.toList [] [] (B r) E)) [true, true, false, true, false] ⟨[(0, (AV.ro 1 (p1.map o142))), (1, (AV.ro 1 (p2.map o142))), (5, (I v5))], [], [JJ]⟩ := by
 intro n
 induction n with
 | zero => intro v5 r h; simp only [laws_eqFloat64S_l0] at h; cases h
 | succ n ih =>
  intro v5 r h
  simp only [laws_eqFloat64S_l0] at h
  let Z0 := (I (p1.length : Int)); let Z1 := (decide (v5 < (p1.length : Int)))
  let P1 : List Prop := [AV.lit (.int .i64 (((p1.map o142).length : Nat) : Int)) = Z0]
  have AP1 : AllP P1 := ⟨(lenM o142), trivial⟩
  rcases itS h with ⟨c6, h⟩ | ⟨c12, h⟩
  ·obtain ⟨x7, hx7, h⟩ := bnS h
   obtain ⟨x8, hx8, h⟩ := bnS h
   obtain ⟨r9, hr9, h⟩ := bnS h
   let H2 : List Hn := [hO 2 Z0, hT 4, ⟨7, .row (o142 x7), none⟩, ⟨11, .row (o142 x8), none⟩, ⟨13, .callV [] (B r9), none⟩]
   let P3 : List Prop := P1 ++ [Z1 = true, (0 : Int) ≤ v5, (p1.map o142)[(Int.toNat v5)]? = some (o142 x7), (0 : Int) ≤ v5, (p2.map o142)[(Int.toNat v5)]? = some (o142 x8), Meets Tryz.prog 150 [(FK x7), (FK x8)] (B r9), litA (B r9) = true]
   have AP3 : AllP P3 := andP AP1 ⟨c6, (rd0 hx7), (rdM o142 hx7), (rd0 hx8), (rdM o142 hx8), (laws_sameFloat_m hr9), rfl, trivial⟩
   rcases itS h with ⟨c10, h⟩ | ⟨c11, h⟩
   ·obtain rfl := sj h
    exact gR hP hn (H2 ++ [hT 15]) [] .raw (P3 ++ [(!r9) = true, (B false) = (B false), litA (B false) = true]) (andP AP3 ⟨c10, rfl, rfl, trivial⟩)
   ·exact gT hP hn hx (H2 ++ [hF 15]) [] [0, 1, 5] [] (P3 ++ [(!r9) = false]) (andP AP3 ⟨c11, trivial⟩) (ih (w64 (v5 + 1)) _ h)
  ·obtain rfl := sj h
   exact gR hP hn [hO 2 Z0, hF 4] [] .raw (P1 ++ [Z1 = false, (B true) = (B true), litA (B true) = true]) (andP AP1 ⟨c12, rfl, rfl, trivial⟩)
noncomputable def laws_eqFloat64S (p1 : (List Nat)) (p2 : (List Nat)) : Option Bool :=
 if ((p1.length : Int) != (p2.length : Int)) = true then
  some false
 else
  laws_eqFloat64S_l0 p1 p2 FU 0
theorem laws_eqFloat64S_m {p1 : (List Nat)} {p2 : (List Nat)} {r : Bool} (h : laws_eqFloat64S p1 p2 = some r) : Meets Tryz.prog 79 [(AV.ro 1 (p1.map o142)), (AV.ro 1 (p2.map o142))] (B r) := by
 refine gM Tryz.func79 27 body79 fun E hP hn hx => ?_
 unfold laws_eqFloat64S at h
 let Z0 := (I (p1.length : Int)); let Z1 := (I (p2.length : Int)); let Z2 := ((p1.length : Int) != (p2.length : Int))
 let P1 : List Prop := [AV.lit (.int .i64 (((p1.map o142).length : Nat) : Int)) = Z0, AV.lit (.int .i64 (((p2.map o142).length : Nat) : Int)) = Z1]
 have AP1 : AllP P1 := ⟨(lenM o142), (lenM o142), trivial⟩
 rcases itS h with ⟨c3, h⟩ | ⟨c4, h⟩
 ·obtain rfl := sj h
  exact gR hP hn [hO 2 Z0, hO 4 Z1, hT 6] [] .raw (P1 ++ [Z2 = true, (B false) = (B false), litA (B false) = true]) (andP AP1 ⟨c3, rfl, rfl, trivial⟩)
 ·exact gT hP hn hx [hO 2 Z0, hO 4 Z1, hF 6] [] [0, 1, 5] [] (P1 ++ [Z2 = false]) (andP AP1 ⟨c4, trivial⟩) (laws_eqFloat64S_l0_m hP hn hx p1 p2 FU 0 _ h)
noncomputable def body31 : Code := match Tryz.f31.body with | some c => c | none => .skip
noncomputable def laws_eqIntS_l0  (p1 : (List Int)) (p2 : (List Int)) : Nat → Int → Option Bool
 | 0, _ => none
 | n + 1, v5 =>
 if (decide (v5 < (p1.length : Int))) = true then
  Option.bind (rd p1 v5) fun x7 =>
  Option.bind (rd p2 v5) fun x8 =>
  if (x7 != x8) = true then
   some false
  else
   laws_eqIntS_l0 p1 p2 n (w64 (v5 + 1))
 else
  some true
theorem laws_eqIntS_l0_m {E : Env} (hP : E.P = Tryz.prog) (hn : E.n = 26) (hx : FX E []) (p1 : (List Int)) (p2 : (List Int))  : ∀ (n : Nat) (v5 : Int) (r : Bool), laws_eqIntS_l0 p1 p2 n v5 = some r → WAt E body31 (FQ (RetE Θ Tryz.f31.results.toList [] [] (B r) E)) [true, true, false, true, false] ⟨[(0, (AV.ro 1 (p1.map o3))), (1, (AV.ro 1 (p2.map o3))), (5, (I v5))], [], [JJ]⟩ := by
 intro n
 induction n with
 | zero => intro v5 r h; simp only [laws_eqIntS_l0] at h; cases h
 | succ n ih =>
  intro v5 r h
  simp only [laws_eqIntS_l0] at h
  let Z0 := (I (p1.length : Int)); let Z1 := (decide (v5 < (p1.length : Int)))
  let P1 : List Prop := [AV.lit (.int .i64 (((p1.map o3).length : Nat) : Int)) = Z0]
  have AP1 : AllP P1 := ⟨(lenM o3), trivial⟩
  rcases itS h with ⟨c6, h⟩ | ⟨c11, h⟩
  ·obtain ⟨x7, hx7, h⟩ := bnS h
   obtain ⟨x8, hx8, h⟩ := bnS h
   let H2 : List Hn := [hO 2 Z0, hT 4, ⟨7, .row (o3 x7), none⟩, ⟨11, .row (o3 x8), none⟩]
   let P3 : List Prop := P1 ++ [Z1 = true, (0 : Int) ≤ v5, (p1.map o3)[(Int.toNat v5)]? = some (o3 x7), (0 : Int) ≤ v5, (p2.map o3)[(Int.toNat v5)]? = some (o3 x8)]
   have AP3 : AllP P3 := andP AP1 ⟨c6, (rd0 hx7), (rdM o3 hx7), (rd0 hx8), (rdM o3 hx8), trivial⟩
   rcases itS h with ⟨c9, h⟩ | ⟨c10, h⟩
   ·obtain rfl := sj h
    exact gR hP hn (H2 ++ [hT 14]) [] .raw (P3 ++ [(x7 != x8) = true, (B false) = (B false), litA (B false) = true]) (andP AP3 ⟨c9, rfl, rfl, trivial⟩)
   ·exact gT hP hn hx (H2 ++ [hF 14]) [] [0, 1, 5] [] (P3 ++ [(x7 != x8) = false]) (andP AP3 ⟨c10, trivial⟩) (ih (w64 (v5 + 1)) _ h)
  ·obtain rfl := sj h
   exact gR hP hn [hO 2 Z0, hF 4] [] .raw (P1 ++ [Z1 = false, (B true) = (B true), litA (B true) = true]) (andP AP1 ⟨c11, rfl, rfl, trivial⟩)
noncomputable def laws_eqIntS (p1 : (List Int)) (p2 : (List Int)) : Option Bool :=
 if ((p1.length : Int) != (p2.length : Int)) = true then
  some false
 else
  laws_eqIntS_l0 p1 p2 FU 0
theorem laws_eqIntS_m {p1 : (List Int)} {p2 : (List Int)} {r : Bool} (h : laws_eqIntS p1 p2 = some r) : Meets Tryz.prog 31 [(AV.ro 1 (p1.map o3)), (AV.ro 1 (p2.map o3))] (B r) := by
 refine gM Tryz.func31 26 body31 fun E hP hn hx => ?_
 unfold laws_eqIntS at h
 let Z0 := (I (p1.length : Int)); let Z1 := (I (p2.length : Int)); let Z2 := ((p1.length : Int) != (p2.length : Int))
 let P1 : List Prop := [AV.lit (.int .i64 (((p1.map o3).length : Nat) : Int)) = Z0, AV.lit (.int .i64 (((p2.map o3).length : Nat) : Int)) = Z1]
 have AP1 : AllP P1 := ⟨(lenM o3), (lenM o3), trivial⟩
 rcases itS h with ⟨c3, h⟩ | ⟨c4, h⟩
 ·obtain rfl := sj h
  exact gR hP hn [hO 2 Z0, hO 4 Z1, hT 6] [] .raw (P1 ++ [Z2 = true, (B false) = (B false), litA (B false) = true]) (andP AP1 ⟨c3, rfl, rfl, trivial⟩)
 ·exact gT hP hn hx [hO 2 Z0, hO 4 Z1, hF 6] [] [0, 1, 5] [] (P1 ++ [Z2 = false]) (andP AP1 ⟨c4, trivial⟩) (laws_eqIntS_l0_m hP hn hx p1 p2 FU 0 _ h)
noncomputable def body149 : Code := match Tryz.f149.body with | some c => c | none => .skip
noncomputable def laws_eqThread (p1 : GThread) (p2 : GThread) : Option Bool :=
 if (p1.Routine != p2.Routine) = true then
  some false
 else
  if (p1.Pc != p2.Pc) = true then
   some false
  else
   if (p1.State != p2.State) = true then
    some false
   else
    if (p1.Cond != p2.Cond) = true then
     some false
    else
     if (p1.Lock != p2.Lock) = true then
      some false
     else
      Option.bind (laws_eqFloat64S p1.Stack p2.Stack) fun r13 =>
      if (!r13) = true then
       some false
      else
       some true
theorem laws_eqThread_m {p1 : GThread} {p2 : GThread} {r : Bool} (h : laws_eqThread p1 p2 = some r) : Meets Tryz.prog 149 [(AV.agg ((r179 p1))), (AV.agg ((r179 p2)))] (B r) := by
 refine gM Tryz.func149 36 body149 fun E hP hn hx => ?_
 unfold laws_eqThread at h
 let Z0 := (p1.Routine != p2.Routine); let Z1 := (B false); let Z2 := (p1.State != p2.State)
 let H1 : List Hn := [hW 0 1001, hW 1 1002]
 rcases itS h with ⟨c3, h⟩ | ⟨c4, h⟩
 ·obtain rfl := sj h
  exact gR hP hn (H1 ++ [hT 8]) [] .raw [Z0 = true, Z1 = Z1, litA Z1 = true] ⟨c3, rfl, rfl, trivial⟩
 ·let P2 : List Prop := [Z0 = false]
  have AP2 : AllP P2 := ⟨c4, trivial⟩
  rcases itS h with ⟨c5, h⟩ | ⟨c6, h⟩
  ·obtain rfl := sj h
   exact gR hP hn (H1 ++ [hF 8, hT 14]) [] .raw (P2 ++ [(p1.Pc != p2.Pc) = true, Z1 = Z1, litA Z1 = true]) (andP AP2 ⟨c5, rfl, rfl, trivial⟩)
  ·let P3 : List Prop := P2 ++ [(p1.Pc != p2.Pc) = false]
   have AP3 : AllP P3 := andP AP2 ⟨c6, trivial⟩
   rcases itS h with ⟨c7, h⟩ | ⟨c8, h⟩
   ·obtain rfl := sj h
    exact gR hP hn (H1 ++ [hF 8, hF 14, hT 20]) [] .raw (P3 ++ [Z2 = true, Z1 = Z1, litA Z1 = true]) (andP AP3 ⟨c7, rfl, rfl, trivial⟩)
   ·rcases itS h with ⟨c9, h⟩ | ⟨c10, h⟩
    ·obtain rfl := sj h
     exact gR hP hn (H1 ++ [hF 8, hF 14, hF 20, hT 26]) [] .raw (P3 ++ [Z2 = false, (p1.Cond != p2.Cond) = true, Z1 = Z1, litA Z1 = true]) (andP AP3 ⟨c8, c9, rfl, rfl, trivial⟩)
    ·let P4 : List Prop := P3 ++ [Z2 = false, (p1.Cond != p2.Cond) = false]
     have AP4 : AllP P4 := andP AP3 ⟨c8, c10, trivial⟩
     rcases itS h with ⟨c11, h⟩ | ⟨c12, h⟩
     ·obtain rfl := sj h
      exact gR hP hn (H1 ++ [hF 8, hF 14, hF 20, hF 26, hT 32]) [] .raw (P4 ++ [(p1.Lock != p2.Lock) = true, Z1 = Z1, litA Z1 = true]) (andP AP4 ⟨c11, rfl, rfl, trivial⟩)
     ·obtain ⟨r13, hr13, h⟩ := bnS h
      let P5 : List Prop := P4 ++ [(p1.Lock != p2.Lock) = false, Meets Tryz.prog 79 [(AV.ro 1 (p1.Stack.map o142)), (AV.ro 1 (p2.Stack.map o142))] (B r13), litA (B r13) = true]
      have AP5 : AllP P5 := andP AP4 ⟨c12, (laws_eqFloat64S_m hr13), rfl, trivial⟩
      rcases itS h with ⟨c14, h⟩ | ⟨c15, h⟩
      ·obtain rfl := sj h
       exact gR hP hn (H1 ++ [hF 8, hF 14, hF 20, hF 26, hF 32, ⟨37, .callV [] (B r13), none⟩, hT 39]) [] .raw (P5 ++ [(!r13) = true, Z1 = Z1, litA Z1 = true]) (andP AP5 ⟨c14, rfl, rfl, trivial⟩)
      ·obtain rfl := sj h
       exact gR hP hn (H1 ++ [hF 8, hF 14, hF 20, hF 26, hF 32, ⟨37, .callV [] (B r13), none⟩, hF 39]) [] .raw (P5 ++ [(!r13) = false, (B true) = (B true), litA (B true) = true]) (andP AP5 ⟨c15, rfl, rfl, trivial⟩)
noncomputable def body78 : Code := match Tryz.f78.body with | some c => c | none => .skip
noncomputable def laws_eqThreadS_l0  (p1 : (List GThread)) (p2 : (List GThread)) : Nat → Int → Option Bool
 | 0, _ => none
 | n + 1, v5 =>
 if (decide (v5 < (p1.length : Int))) = true then
  Option.bind (rd p1 v5) fun x7 =>
  Option.bind (rd p2 v5) fun x8 =>
  Option.bind (laws_eqThread x7 x8) fun r9 =>
  if (!r9) = true then
   some false
  else
   laws_eqThreadS_l0 p1 p2 n (w64 (v5 + 1))
 else
  some true
theorem laws_eqThreadS_l0_m {E : Env} (hP : E.P = Tryz.prog) (hn : E.n = 27) (hx : FX E []) (p1 : (List GThread)) (p2 : (List GThread))  : ∀ (n : Nat) (v5 : Int) (r : Bool), laws_eqThreadS_l0 p1 p2 n v5 = some r → WAt E body78 (FQ (RetE Θ Tryz.f78.results.toList [] [] (B r) E)) [true, true, false, true, false] ⟨[(0, (AV.ro 6 (p1.map r179))), (1, (AV.ro 6 (p2.map r179))), (5, (I v5))], [], [JJ]⟩ := by
 intro n
 induction n with
 | zero => intro v5 r h; simp only [laws_eqThreadS_l0] at h; cases h
 | succ n ih =>
  intro v5 r h
  simp only [laws_eqThreadS_l0] at h
  let Z0 := (I (p1.length : Int)); let Z1 := (decide (v5 < (p1.length : Int)))
  let P1 : List Prop := [AV.lit (.int .i64 (((p1.map r179).length : Nat) : Int)) = Z0]
  have AP1 : AllP P1 := ⟨(lenM r179), trivial⟩
  rcases itS h with ⟨c6, h⟩ | ⟨c12, h⟩
  ·obtain ⟨x7, hx7, h⟩ := bnS h
   obtain ⟨x8, hx8, h⟩ := bnS h
   obtain ⟨r9, hr9, h⟩ := bnS h
   let H2 : List Hn := [hO 2 Z0, hT 4, ⟨7, .row (r179 x7), none⟩, ⟨11, .row (r179 x8), none⟩, ⟨13, .callV [[], []] (B r9), none⟩]
   let P3 : List Prop := P1 ++ [Z1 = true, (0 : Int) ≤ v5, (p1.map r179)[(Int.toNat v5)]? = some (r179 x7), (0 : Int) ≤ v5, (p2.map r179)[(Int.toNat v5)]? = some (r179 x8), Meets Tryz.prog 149 [(AV.agg ((r179 x7))), (AV.agg ((r179 x8)))] (B r9), litA (B r9) = true]
   have AP3 : AllP P3 := andP AP1 ⟨c6, (rd0 hx7), (rdM r179 hx7), (rd0 hx8), (rdM r179 hx8), (laws_eqThread_m hr9), rfl, trivial⟩
   rcases itS h with ⟨c10, h⟩ | ⟨c11, h⟩
   ·obtain rfl := sj h
    exact gR hP hn (H2 ++ [hT 15]) [] .raw (P3 ++ [(!r9) = true, (B false) = (B false), litA (B false) = true]) (andP AP3 ⟨c10, rfl, rfl, trivial⟩)
   ·exact gT hP hn hx (H2 ++ [hF 15]) [] [0, 1, 5] [] (P3 ++ [(!r9) = false]) (andP AP3 ⟨c11, trivial⟩) (ih (w64 (v5 + 1)) _ h)
  ·obtain rfl := sj h
   exact gR hP hn [hO 2 Z0, hF 4] [] .raw (P1 ++ [Z1 = false, (B true) = (B true), litA (B true) = true]) (andP AP1 ⟨c12, rfl, rfl, trivial⟩)
noncomputable def laws_eqThreadS (p1 : (List GThread)) (p2 : (List GThread)) : Option Bool :=
 if ((p1.length : Int) != (p2.length : Int)) = true then
  some false
 else
  laws_eqThreadS_l0 p1 p2 FU 0
theorem laws_eqThreadS_m {p1 : (List GThread)} {p2 : (List GThread)} {r : Bool} (h : laws_eqThreadS p1 p2 = some r) : Meets Tryz.prog 78 [(AV.ro 6 (p1.map r179)), (AV.ro 6 (p2.map r179))] (B r) := by
 refine gM Tryz.func78 27 body78 fun E hP hn hx => ?_
 unfold laws_eqThreadS at h
 let Z0 := (I (p1.length : Int)); let Z1 := (I (p2.length : Int)); let Z2 := ((p1.length : Int) != (p2.length : Int))
 let P1 : List Prop := [AV.lit (.int .i64 (((p1.map r179).length : Nat) : Int)) = Z0, AV.lit (.int .i64 (((p2.map r179).length : Nat) : Int)) = Z1]
 have AP1 : AllP P1 := ⟨(lenM r179), (lenM r179), trivial⟩
 rcases itS h with ⟨c3, h⟩ | ⟨c4, h⟩
 ·obtain rfl := sj h
  exact gR hP hn [hO 2 Z0, hO 4 Z1, hT 6] [] .raw (P1 ++ [Z2 = true, (B false) = (B false), litA (B false) = true]) (andP AP1 ⟨c3, rfl, rfl, trivial⟩)
 ·exact gT hP hn hx [hO 2 Z0, hO 4 Z1, hF 6] [] [0, 1, 5] [] (P1 ++ [Z2 = false]) (andP AP1 ⟨c4, trivial⟩) (laws_eqThreadS_l0_m hP hn hx p1 p2 FU 0 _ h)
noncomputable def body22 : Code := match Tryz.f22.body with | some c => c | none => .skip
noncomputable def laws_eqState (p1 : GState) (p2 : GState) : Option Bool :=
 Option.bind (laws_eqThreadS p1.Threads p2.Threads) fun r3 =>
 if (!r3) = true then
  some false
 else
  Option.bind (laws_eqFloat64S p1.Cells p2.Cells) fun r6 =>
  if (!r6) = true then
   some false
  else
   Option.bind (laws_eqIntS p1.Owner p2.Owner) fun r9 =>
   if (!r9) = true then
    some false
   else
    if (p1.Fault != p2.Fault) = true then
     some false
    else
     some true
theorem laws_eqState_m {p1 : GState} {p2 : GState} {r : Bool} (h : laws_eqState p1 p2 = some r) : Meets Tryz.prog 22 [(AV.agg ((r57 p1))), (AV.agg ((r57 p2)))] (B r) := by
 refine gM Tryz.func22 28 body22 fun E hP hn hx => ?_
 unfold laws_eqState at h
 obtain ⟨r3, hr3, h⟩ := bnS h
 let Z0 := (B false); let Z1 := (p1.Fault != p2.Fault)
 let H1 : List Hn := [hW 0 1001, hW 1 1002, ⟨7, .callV [] (B r3), none⟩]
 let P2 : List Prop := [Meets Tryz.prog 78 [(AV.ro 6 (p1.Threads.map r179)), (AV.ro 6 (p2.Threads.map r179))] (B r3), litA (B r3) = true]
 have AP2 : AllP P2 := ⟨(laws_eqThreadS_m hr3), rfl, trivial⟩
 rcases itS h with ⟨c4, h⟩ | ⟨c5, h⟩
 ·obtain rfl := sj h
  exact gR hP hn (H1 ++ [hT 9]) [] .raw (P2 ++ [(!r3) = true, Z0 = Z0, litA Z0 = true]) (andP AP2 ⟨c4, rfl, rfl, trivial⟩)
 ·obtain ⟨r6, hr6, h⟩ := bnS h
  let H3 : List Hn := H1 ++ [hF 9, ⟨14, .callV [] (B r6), none⟩]
  let P4 : List Prop := P2 ++ [(!r3) = false, Meets Tryz.prog 79 [(AV.ro 1 (p1.Cells.map o142)), (AV.ro 1 (p2.Cells.map o142))] (B r6), litA (B r6) = true]
  have AP4 : AllP P4 := andP AP2 ⟨c5, (laws_eqFloat64S_m hr6), rfl, trivial⟩
  rcases itS h with ⟨c7, h⟩ | ⟨c8, h⟩
  ·obtain rfl := sj h
   exact gR hP hn (H3 ++ [hT 16]) [] .raw (P4 ++ [(!r6) = true, Z0 = Z0, litA Z0 = true]) (andP AP4 ⟨c7, rfl, rfl, trivial⟩)
  ·obtain ⟨r9, hr9, h⟩ := bnS h
   let H5 : List Hn := H3 ++ [hF 16, ⟨21, .callV [] (B r9), none⟩]
   let P6 : List Prop := P4 ++ [(!r6) = false, Meets Tryz.prog 31 [(AV.ro 1 (p1.Owner.map o3)), (AV.ro 1 (p2.Owner.map o3))] (B r9), litA (B r9) = true]
   have AP6 : AllP P6 := andP AP4 ⟨c8, (laws_eqIntS_m hr9), rfl, trivial⟩
   rcases itS h with ⟨c10, h⟩ | ⟨c11, h⟩
   ·obtain rfl := sj h
    exact gR hP hn (H5 ++ [hT 23]) [] .raw (P6 ++ [(!r9) = true, Z0 = Z0, litA Z0 = true]) (andP AP6 ⟨c10, rfl, rfl, trivial⟩)
   ·rcases itS h with ⟨c12, h⟩ | ⟨c13, h⟩
    ·obtain rfl := sj h
     exact gR hP hn (H5 ++ [hF 23, hT 29]) [] .raw (P6 ++ [(!r9) = false, Z1 = true, Z0 = Z0, litA Z0 = true]) (andP AP6 ⟨c11, c12, rfl, rfl, trivial⟩)
    ·obtain rfl := sj h
     exact gR hP hn (H5 ++ [hF 23, hF 29]) [] .raw (P6 ++ [(!r9) = false, Z1 = false, (B true) = (B true), litA (B true) = true]) (andP AP6 ⟨c11, c13, rfl, rfl, trivial⟩)
noncomputable def body84 : Code := match Tryz.f84.body with | some c => c | none => .skip
noncomputable def laws_heldFloat64S_l0  (p1 : (List Nat)) : Nat → Int → Int → Option Int
 | 0, _, _ => none
 | n + 1, v3, v4 =>
 if (decide (v4 < (p1.length : Int))) = true then
  Option.bind (rd p1 v4) fun x6 =>
  if ((fcmp x6 (fOf v3)) != some .eq) = true then
   some (-1)
  else
   laws_heldFloat64S_l0 p1 n (w64 (v3 + 1)) (w64 (v4 + 1))
 else
  some v3
theorem laws_heldFloat64S_l0_m {E : Env} (hP : E.P = Tryz.prog) (hn : E.n = 22) (hx : FX E []) (p1 : (List Nat))  : ∀ (n : Nat) (v3 : Int) (v4 : Int) (r : Int), laws_heldFloat64S_l0 p1 n v3 v4 = some r → WAt E body84 (FQ (RetE Θ Tryz.f84.results.toList [] [] (I r) E)) [true, false, true, false] ⟨[(0, (AV.ro 1 (p1.map o142))), (1, (I v3)), (5, (I v4))], [], [JJ]⟩ := by
 intro n
 induction n with
 | zero => intro v3 v4 r h; simp only [laws_heldFloat64S_l0] at h; cases h
 | succ n ih =>
  intro v3 v4 r h
  simp only [laws_heldFloat64S_l0] at h
  let Z0 := (I (p1.length : Int)); let Z2 := (decide (v4 < (p1.length : Int)))
  let P1 : List Prop := [AV.lit (.int .i64 (((p1.map o142).length : Nat) : Int)) = Z0]
  have AP1 : AllP P1 := ⟨(lenM o142), trivial⟩
  rcases itS h with ⟨c5, h⟩ | ⟨c9, h⟩
  ·obtain ⟨x6, hx6, h⟩ := bnS h
   let Z1 := (fcmp x6 (fOf v3))
   let H2 : List Hn := [hO 2 Z0, hT 4, ⟨7, .row (o142 x6), none⟩, ⟨10, .cnv (FK (fOf v3)), none⟩, ⟨11, .bin (B (Z1 != some .eq)), none⟩]
   let P3 : List Prop := P1 ++ [Z2 = true, (0 : Int) ≤ v4, (p1.map o142)[(Int.toNat v4)]? = some (o142 x6), CnvS Tryz.prog 3 142 (I v3) (FK (fOf v3)), BinS Tryz.prog .neq 142 (FK x6) (FK (fOf v3)) (B (Z1 != some .eq))]
   have AP3 : AllP P3 := andP AP1 ⟨c5, (rd0 hx6), (rdM o142 hx6), (cIF (P := Tryz.prog) ty3 ty142), fNeq, trivial⟩
   rcases itS h with ⟨c7, h⟩ | ⟨c8, h⟩
   ·obtain rfl := sj h
    exact gR hP hn (H2 ++ [hT 12]) [] .raw (P3 ++ [(Z1 != some .eq) = true, (I (-1)) = (I (-1)), litA (I (-1)) = true]) (andP AP3 ⟨c7, rfl, rfl, trivial⟩)
   ·exact gT hP hn hx (H2 ++ [hF 12]) [] [0, 1, 5] [] (P3 ++ [(Z1 != some .eq) = false]) (andP AP3 ⟨c8, trivial⟩) (ih (w64 (v3 + 1)) (w64 (v4 + 1)) _ h)
  ·obtain rfl := sj h
   exact gR hP hn [hO 2 Z0, hF 4] [] .raw (P1 ++ [Z2 = false, (I v3) = (I v3), litA (I v3) = true]) (andP AP1 ⟨c9, rfl, rfl, trivial⟩)
noncomputable def laws_heldFloat64S (p1 : (List Nat)) (p2 : Int) : Option Int :=
 laws_heldFloat64S_l0 p1 FU p2 0
theorem laws_heldFloat64S_m {p1 : (List Nat)} {p2 : Int} {r : Int} (h : laws_heldFloat64S p1 p2 = some r) : Meets Tryz.prog 84 [(AV.ro 1 (p1.map o142)), (I p2)] (I r) := by
 refine gM Tryz.func84 22 body84 fun E hP hn hx => ?_
 unfold laws_heldFloat64S at h
 exact gT hP hn hx [] [] [0, 1, 5] [] [] trivial (laws_heldFloat64S_l0_m hP hn hx p1 FU p2 0 _ h)
noncomputable def body85 : Code := match Tryz.f85.body with | some c => c | none => .skip
noncomputable def laws_heldIntS_l0  (p1 : (List Int)) : Nat → Int → Int → Option Int
 | 0, _, _ => none
 | n + 1, v3, v4 =>
 if (decide (v4 < (p1.length : Int))) = true then
  Option.bind (rd p1 v4) fun x6 =>
  if (x6 != v3) = true then
   some (-1)
  else
   laws_heldIntS_l0 p1 n (w64 (v3 + 1)) (w64 (v4 + 1))
 else
  some v3
theorem laws_heldIntS_l0_m {E : Env} (hP : E.P = Tryz.prog) (hn : E.n = 21) (hx : FX E []) (p1 : (List Int))  : ∀ (n : Nat) (v3 : Int) (v4 : Int) (r : Int), laws_heldIntS_l0 p1 n v3 v4 = some r → WAt E body85 (FQ (RetE Θ Tryz.f85.results.toList [] [] (I r) E)) [true, false, true, false] ⟨[(0, (AV.ro 1 (p1.map o3))), (1, (I v3)), (5, (I v4))], [], [JJ]⟩ := by
 intro n
 induction n with
 | zero => intro v3 v4 r h; simp only [laws_heldIntS_l0] at h; cases h
 | succ n ih =>
  intro v3 v4 r h
  simp only [laws_heldIntS_l0] at h
  let Z0 := (I (p1.length : Int)); let Z1 := (decide (v4 < (p1.length : Int)))
  let P1 : List Prop := [AV.lit (.int .i64 (((p1.map o3).length : Nat) : Int)) = Z0]
  have AP1 : AllP P1 := ⟨(lenM o3), trivial⟩
  rcases itS h with ⟨c5, h⟩ | ⟨c9, h⟩
  ·obtain ⟨x6, hx6, h⟩ := bnS h
   let P2 : List Prop := P1 ++ [Z1 = true, (0 : Int) ≤ v4, (p1.map o3)[(Int.toNat v4)]? = some (o3 x6)]
   have AP2 : AllP P2 := andP AP1 ⟨c5, (rd0 hx6), (rdM o3 hx6), trivial⟩
   rcases itS h with ⟨c7, h⟩ | ⟨c8, h⟩
   ·obtain rfl := sj h
    exact gR hP hn [hO 2 Z0, hT 4, ⟨7, .row (o3 x6), none⟩, hT 11] [] .raw (P2 ++ [(x6 != v3) = true, (I (-1)) = (I (-1)), litA (I (-1)) = true]) (andP AP2 ⟨c7, rfl, rfl, trivial⟩)
   ·exact gT hP hn hx [hO 2 Z0, hT 4, ⟨7, .row (o3 x6), none⟩, hF 11] [] [0, 1, 5] [] (P2 ++ [(x6 != v3) = false]) (andP AP2 ⟨c8, trivial⟩) (ih (w64 (v3 + 1)) (w64 (v4 + 1)) _ h)
  ·obtain rfl := sj h
   exact gR hP hn [hO 2 Z0, hF 4] [] .raw (P1 ++ [Z1 = false, (I v3) = (I v3), litA (I v3) = true]) (andP AP1 ⟨c9, rfl, rfl, trivial⟩)
noncomputable def laws_heldIntS (p1 : (List Int)) (p2 : Int) : Option Int :=
 laws_heldIntS_l0 p1 FU p2 0
theorem laws_heldIntS_m {p1 : (List Int)} {p2 : Int} {r : Int} (h : laws_heldIntS p1 p2 = some r) : Meets Tryz.prog 85 [(AV.ro 1 (p1.map o3)), (I p2)] (I r) := by
 refine gM Tryz.func85 21 body85 fun E hP hn hx => ?_
 unfold laws_heldIntS at h
 exact gT hP hn hx [] [] [0, 1, 5] [] [] trivial (laws_heldIntS_l0_m hP hn hx p1 FU p2 0 _ h)
noncomputable def body83 : Code := match Tryz.f83.body with | some c => c | none => .skip
noncomputable def laws_heldThreadS_l0  (p1 : (List GThread)) : Nat → Int → Int → Option Int
 | 0, _, _ => none
 | n + 1, v3, v4 =>
 if (decide (v4 < (p1.length : Int))) = true then
  Option.bind (rd p1 v4) fun x6 =>
  if (x6.Routine != v3) = true then
   some (-1)
  else
   if (x6.Pc != (w64 (v3 + 1))) = true then
    some (-1)
   else
    if (x6.State != (w64 ((w64 (v3 + 1)) + 1))) = true then
     some (-1)
    else
     if (x6.Cond != (w64 ((w64 ((w64 (v3 + 1)) + 1)) + 1))) = true then
      some (-1)
     else
      if (x6.Lock != (w64 ((w64 ((w64 ((w64 (v3 + 1)) + 1)) + 1)) + 1))) = true then
       some (-1)
      else
       Option.bind (laws_heldFloat64S x6.Stack (w64 ((w64 ((w64 ((w64 ((w64 (v3 + 1)) + 1)) + 1)) + 1)) + 1))) fun r17 =>
       if (decide (r17 < 0)) = true then
        some (-1)
       else
        laws_heldThreadS_l0 p1 n r17 (w64 (v4 + 1))
 else
  some v3
theorem laws_heldThreadS_l0_m {E : Env} (hP : E.P = Tryz.prog) (hn : E.n = 67) (hx : FX E []) (p1 : (List GThread))  : ∀ (n : Nat) (v3 : Int) (v4 : Int) (r : Int), laws_heldThreadS_l0 p1 n v3 v4 = some r → WAt E body83 (FQ (RetE Θ Tryz.f83.results.toList [] [] (I r) E)) [true, false, true, false] ⟨[(0, (AV.ro 6 (p1.map r179))), (1, (I v3)), (5, (I v4))], [], [JJ]⟩ := by
 intro n
 induction n with
 | zero => intro v3 v4 r h; simp only [laws_heldThreadS_l0] at h; cases h
 | succ n ih =>
  intro v3 v4 r h
  simp only [laws_heldThreadS_l0] at h
  let Z0 := (I (p1.length : Int)); let Z1 := (p1.map r179); let Z3 := (decide (v4 < (p1.length : Int))); let Z4 := (I (-1)); let Z6 := (w64 ((w64 (v3 + 1)) + 1)); let Z8 := (w64 ((w64 (Z6 + 1)) + 1))
  let H1 : List Hn := [hO 2 Z0]
  let P2 : List Prop := [AV.lit (.int .i64 ((Z1.length : Nat) : Int)) = Z0]
  have AP2 : AllP P2 := ⟨(lenM r179), trivial⟩
  rcases itS h with ⟨c5, h⟩ | ⟨c20, h⟩
  ·obtain ⟨x6, hx6, h⟩ := bnS h
   let Z2 := (r179 x6); let Z5 := (x6.Pc != (w64 (v3 + 1))); let Z7 := (x6.Cond != (w64 (Z6 + 1)))
   let H3 : List Hn := H1 ++ [hT 4, ⟨7, .row Z2, none⟩]
   let P4 : List Prop := P2 ++ [Z3 = true, (0 : Int) ≤ v4, Z1[(Int.toNat v4)]? = some Z2]
   have AP4 : AllP P4 := andP AP2 ⟨c5, (rd0 hx6), (rdM r179 hx6), trivial⟩
   rcases itS h with ⟨c7, h⟩ | ⟨c8, h⟩
   ·obtain rfl := sj h
    exact gR hP hn (H3 ++ [hT 12]) [] .raw (P4 ++ [(x6.Routine != v3) = true, Z4 = Z4, litA Z4 = true]) (andP AP4 ⟨c7, rfl, rfl, trivial⟩)
   ·let H5 : List Hn := H3 ++ [hF 12, ⟨18, .row Z2, none⟩]
    let P6 : List Prop := P4 ++ [(x6.Routine != v3) = false, (0 : Int) ≤ v4, Z1[(Int.toNat v4)]? = some Z2]
    have AP6 : AllP P6 := andP AP4 ⟨c8, (rd0 hx6), (rdM r179 hx6), trivial⟩
    rcases itS h with ⟨c9, h⟩ | ⟨c10, h⟩
    ·obtain rfl := sj h
     exact gR hP hn (H5 ++ [hT 23]) [] .raw (P6 ++ [Z5 = true, Z4 = Z4, litA Z4 = true]) (andP AP6 ⟨c9, rfl, rfl, trivial⟩)
    ·let H7 : List Hn := H5 ++ [hF 23, ⟨29, .row Z2, none⟩]
     let P8 : List Prop := P6 ++ [Z5 = false, (0 : Int) ≤ v4, Z1[(Int.toNat v4)]? = some Z2]
     have AP8 : AllP P8 := andP AP6 ⟨c10, (rd0 hx6), (rdM r179 hx6), trivial⟩
     rcases itS h with ⟨c11, h⟩ | ⟨c12, h⟩
     ·obtain rfl := sj h
      exact gR hP hn (H7 ++ [hT 34]) [] .raw (P8 ++ [(x6.State != Z6) = true, Z4 = Z4, litA Z4 = true]) (andP AP8 ⟨c11, rfl, rfl, trivial⟩)
     ·let H9 : List Hn := H7 ++ [hF 34, ⟨40, .row Z2, none⟩]
      let P10 : List Prop := P8 ++ [(x6.State != Z6) = false, (0 : Int) ≤ v4, Z1[(Int.toNat v4)]? = some Z2]
      have AP10 : AllP P10 := andP AP8 ⟨c12, (rd0 hx6), (rdM r179 hx6), trivial⟩
      rcases itS h with ⟨c13, h⟩ | ⟨c14, h⟩
      ·obtain rfl := sj h
       exact gR hP hn (H9 ++ [hT 45]) [] .raw (P10 ++ [Z7 = true, Z4 = Z4, litA Z4 = true]) (andP AP10 ⟨c13, rfl, rfl, trivial⟩)
      ·let H11 : List Hn := H9 ++ [hF 45, ⟨51, .row Z2, none⟩]
       let P12 : List Prop := P10 ++ [Z7 = false, (0 : Int) ≤ v4, Z1[(Int.toNat v4)]? = some Z2]
       have AP12 : AllP P12 := andP AP10 ⟨c14, (rd0 hx6), (rdM r179 hx6), trivial⟩
       rcases itS h with ⟨c15, h⟩ | ⟨c16, h⟩
       ·obtain rfl := sj h
        exact gR hP hn (H11 ++ [hT 56]) [] .raw (P12 ++ [(x6.Lock != Z8) = true, Z4 = Z4, litA Z4 = true]) (andP AP12 ⟨c15, rfl, rfl, trivial⟩)
       ·obtain ⟨r17, hr17, h⟩ := bnS h
        let P13 : List Prop := P12 ++ [(x6.Lock != Z8) = false, (0 : Int) ≤ v4, Z1[(Int.toNat v4)]? = some Z2, Meets Tryz.prog 84 [(AV.ro 1 (x6.Stack.map o142)), (I (w64 (Z8 + 1)))] (I r17), litA (I r17) = true]
        have AP13 : AllP P13 := andP AP12 ⟨c16, (rd0 hx6), (rdM r179 hx6), (laws_heldFloat64S_m hr17), rfl, trivial⟩
        rcases itS h with ⟨c18, h⟩ | ⟨c19, h⟩
        ·obtain rfl := sj h
         exact gR hP hn (H11 ++ [hF 56, ⟨62, .row Z2, none⟩, ⟨66, .callV [] (I r17), none⟩, hT 70]) [] .raw (P13 ++ [(decide (r17 < 0)) = true, Z4 = Z4, litA Z4 = true]) (andP AP13 ⟨c18, rfl, rfl, trivial⟩)
        ·exact gT hP hn hx (H11 ++ [hF 56, ⟨62, .row Z2, none⟩, ⟨66, .callV [] (I r17), none⟩, hF 70]) [] [0, 1, 5] [] (P13 ++ [(decide (r17 < 0)) = false]) (andP AP13 ⟨c19, trivial⟩) (ih r17 (w64 (v4 + 1)) _ h)
  ·obtain rfl := sj h
   exact gR hP hn (H1 ++ [hF 4]) [] .raw (P2 ++ [Z3 = false, (I v3) = (I v3), litA (I v3) = true]) (andP AP2 ⟨c20, rfl, rfl, trivial⟩)
noncomputable def laws_heldThreadS (p1 : (List GThread)) (p2 : Int) : Option Int :=
 laws_heldThreadS_l0 p1 FU p2 0
theorem laws_heldThreadS_m {p1 : (List GThread)} {p2 : Int} {r : Int} (h : laws_heldThreadS p1 p2 = some r) : Meets Tryz.prog 83 [(AV.ro 6 (p1.map r179)), (I p2)] (I r) := by
 refine gM Tryz.func83 67 body83 fun E hP hn hx => ?_
 unfold laws_heldThreadS at h
 exact gT hP hn hx [] [] [0, 1, 5] [] [] trivial (laws_heldThreadS_l0_m hP hn hx p1 FU p2 0 _ h)
noncomputable def body26 : Code := match Tryz.f26.body with | some c => c | none => .skip
noncomputable def laws_heldState (p1 : GState) (p2 : Int) : Option Int :=
 Option.bind (laws_heldThreadS p1.Threads p2) fun r3 =>
 if (decide (r3 < 0)) = true then
  some (-1)
 else
  Option.bind (laws_heldFloat64S p1.Cells r3) fun r6 =>
  if (decide (r6 < 0)) = true then
   some (-1)
  else
   Option.bind (laws_heldIntS p1.Owner r6) fun r9 =>
   if (decide (r9 < 0)) = true then
    some (-1)
   else
    some r9
theorem laws_heldState_m {p1 : GState} {p2 : Int} {r : Int} (h : laws_heldState p1 p2 = some r) : Meets Tryz.prog 26 [(AV.agg ((r57 p1))), (I p2)] (I r) := by
 refine gM Tryz.func26 24 body26 fun E hP hn hx => ?_
 unfold laws_heldState at h
 obtain ⟨r3, hr3, h⟩ := bnS h
 let Z0 := (I (-1))
 let H1 : List Hn := [hW 0 1001, ⟨5, .callV [] (I r3), none⟩]
 let P2 : List Prop := [Meets Tryz.prog 83 [(AV.ro 6 (p1.Threads.map r179)), (I p2)] (I r3), litA (I r3) = true]
 have AP2 : AllP P2 := ⟨(laws_heldThreadS_m hr3), rfl, trivial⟩
 rcases itS h with ⟨c4, h⟩ | ⟨c5, h⟩
 ·obtain rfl := sj h
  exact gR hP hn (H1 ++ [hT 9]) [] .raw (P2 ++ [(decide (r3 < 0)) = true, Z0 = Z0, litA Z0 = true]) (andP AP2 ⟨c4, rfl, rfl, trivial⟩)
 ·obtain ⟨r6, hr6, h⟩ := bnS h
  let H3 : List Hn := H1 ++ [hF 9, ⟨13, .callV [] (I r6), none⟩]
  let P4 : List Prop := P2 ++ [(decide (r3 < 0)) = false, Meets Tryz.prog 84 [(AV.ro 1 (p1.Cells.map o142)), (I r3)] (I r6), litA (I r6) = true]
  have AP4 : AllP P4 := andP AP2 ⟨c5, (laws_heldFloat64S_m hr6), rfl, trivial⟩
  rcases itS h with ⟨c7, h⟩ | ⟨c8, h⟩
  ·obtain rfl := sj h
   exact gR hP hn (H3 ++ [hT 17]) [] .raw (P4 ++ [(decide (r6 < 0)) = true, Z0 = Z0, litA Z0 = true]) (andP AP4 ⟨c7, rfl, rfl, trivial⟩)
  ·obtain ⟨r9, hr9, h⟩ := bnS h
   let P5 : List Prop := P4 ++ [(decide (r6 < 0)) = false, Meets Tryz.prog 85 [(AV.ro 1 (p1.Owner.map o3)), (I r6)] (I r9), litA (I r9) = true]
   have AP5 : AllP P5 := andP AP4 ⟨c8, (laws_heldIntS_m hr9), rfl, trivial⟩
   rcases itS h with ⟨c10, h⟩ | ⟨c11, h⟩
   ·obtain rfl := sj h
    exact gR hP hn (H3 ++ [hF 17, ⟨21, .callV [] (I r9), none⟩, hT 25]) [] .raw (P5 ++ [(decide (r9 < 0)) = true, Z0 = Z0, litA Z0 = true]) (andP AP5 ⟨c10, rfl, rfl, trivial⟩)
   ·obtain rfl := sj h
    exact gR hP hn (H3 ++ [hF 17, ⟨21, .callV [] (I r9), none⟩, hF 25]) [] .raw (P5 ++ [(decide (r9 < 0)) = false, (I r9) = (I r9), litA (I r9) = true]) (andP AP5 ⟨c11, rfl, rfl, trivial⟩)
noncomputable def body151 : Code := match Tryz.f151.body with | some c => c | none => .skip
noncomputable def laws_markOpS_l0   : Nat → (List GOp) → Int → Int → Option (Int × (List GOp))
 | 0, _, _, _ => none
 | n + 1, a3, v4, v5 =>
 if (decide (v5 < (a3.length : Int))) = true then
  Option.bind (rd a3 v5) fun x7 =>
  laws_markOpS_l0 n (a3.set (Int.toNat v5) (GOp.mk v4 (w64 (v4 + 1)) (w64 ((w64 (v4 + 1)) + 1)) (fOf (w64 ((w64 ((w64 (v4 + 1)) + 1)) + 1))))) (w64 ((w64 ((w64 ((w64 (v4 + 1)) + 1)) + 1)) + 1)) (w64 (v5 + 1))
 else
  some (v4, a3)
theorem laws_markOpS_l0_m {E : Env} (hP : E.P = Tryz.prog) (hn : E.n = 42) (hx : ∀ p, p ∈ E.fx → p.1 ∈ ([0] : List Nat))   : ∀ (n : Nat) (a3 : (List GOp)) (v4 : Int) (v5 : Int) (r : (Int × (List GOp))), laws_markOpS_l0  n a3 v4 v5 = some r → WAt E body151 (FQ (RetE Θ Tryz.f151.results.toList [true] [⟨144, 4, (r.2.map o144)⟩] (I r.1) E)) [true, false, true, false] ⟨[(0, (AV.sl 0 0 (List.length (a3.map o144)))), (1, (I v4)), (5, (I v5))], [(0, some ⟨144, 4, (a3.map o144)⟩)], [0, JJ]⟩ := by
 intro n
 induction n with
 | zero => intro a3 v4 v5 r h; simp only [laws_markOpS_l0] at h; cases h
 | succ n ih =>
  intro a3 v4 v5 r h
  simp only [laws_markOpS_l0] at h
  let Z0 := (I (a3.length : Int)); let Z5 := (w64 (v4 + 1)); let Z9 := (w64 (Z5 + 1)); let Z12 := (fOf (w64 (Z9 + 1))); let Z14 := (a3.set (Int.toNat v5) (GOp.mk v4 Z5 Z9 Z12)); let Z15 := (Z14.map o144); let Z16 := (a3.map o144); let Z17 := (((List.length Z16) : Nat) : Int); let Z18 := (decide (v5 < (a3.length : Int)))
  rcases itS h with ⟨c6, h⟩ | ⟨c8, h⟩
  ·obtain ⟨x7, hx7, h⟩ := bnS h
   exact (let Z1 := ((o144 x7)); let Z2 := ((a3.set (Int.toNat v5) (GOp.mk v4 x7.A x7.B x7.V)).map o144); let Z3 := (List.length Z2); let Z4 := [(I v4), (I x7.A), (I x7.B), (FK x7.V)]; let Z6 := ((a3.set (Int.toNat v5) (GOp.mk v4 Z5 x7.B x7.V)).map o144); let Z7 := (List.length Z6); let Z8 := [(I v4), (I Z5), (I x7.B), (FK x7.V)]; let Z10 := ((a3.set (Int.toNat v5) (GOp.mk v4 Z5 Z9 x7.V)).map o144); let Z11 := (List.length Z10); let Z13 := [(I v4), (I Z5), (I Z9), (FK x7.V)]; let Z19 := (GOp.mk v4 x7.A x7.B x7.V); let Z20 := (GOp.mk v4 (w64 (v4 + 1)) x7.B x7.V); let Z21 := (GOp.mk v4 (w64 (v4 + 1)) (w64 ((w64 (v4 + 1)) + 1)) x7.V); gT hP hn hx [hO 2 Z0, hT 4, ⟨10, .sto Z1 Z2, none⟩, ⟨14, .slen 0 Z3, none⟩, ⟨19, .sto Z4 Z6, none⟩, ⟨23, .slen 0 Z7, none⟩, ⟨28, .sto Z8 Z10, none⟩, ⟨32, .slen 0 Z11, none⟩, ⟨35, .cnv (FK Z12), none⟩, ⟨38, .sto Z13 Z15, none⟩, ⟨45, .slen 0 (List.length Z15), none⟩] [(0, 0)] [0, 1, 5] [] [AV.lit (.int .i64 Z17) = Z0, Z18 = true, (0 : Int) ≤ v5, v5 < Z17, Z16[(Int.toNat v5)]? = some Z1, Z16.set (Int.toNat v5) (wr Z1 0 [(I v4)]) = Z2, [(I v4)].length = 1, 0 + [(I v4)].length ≤ Z1.length, (List.length Z16) = Z3, (0 : Int) ≤ v5, v5 < ((Z3 : Nat) : Int), Z2[(Int.toNat v5)]? = some Z4, Z2.set (Int.toNat v5) (wr Z4 1 [(I Z5)]) = Z6, [(I Z5)].length = 1, 1 + [(I Z5)].length ≤ Z4.length, Z3 = Z7, (0 : Int) ≤ v5, v5 < ((Z7 : Nat) : Int), Z6[(Int.toNat v5)]? = some Z8, Z6.set (Int.toNat v5) (wr Z8 2 [(I Z9)]) = Z10, [(I Z9)].length = 1, 2 + [(I Z9)].length ≤ Z8.length, Z7 = Z11, CnvS Tryz.prog 3 142 (I (w64 (Z9 + 1))) (FK Z12), (0 : Int) ≤ v5, v5 < ((Z11 : Nat) : Int), Z10[(Int.toNat v5)]? = some Z13, Z10.set (Int.toNat v5) (wr Z13 3 [(FK Z12)]) = Z15, [(FK Z12)].length = 1, 3 + [(FK Z12)].length ≤ Z13.length, Z11 = (List.length Z15), RenOK [(0, 0)] Z15] ⟨(lenM o144), c6, (rd0 hx7), (rdL o144 hx7), (rdM o144 hx7), (setMrq o144), rfl, leB, lnq, (rd0 hx7), (rdL o144 (rdS (y := Z19) hx7)), (rdM o144 (rdS (y := Z19) hx7)), (setSSq o144), rfl, leB, lnq, (rd0 hx7), (rdL o144 (rdS (y := Z20) hx7)), (rdM o144 (rdS (y := Z20) hx7)), (setSSq o144), rfl, leB, lnq, (cIF (P := Tryz.prog) ty3 ty142), (rd0 hx7), (rdL o144 (rdS (y := Z21) hx7)), (rdM o144 (rdS (y := Z21) hx7)), (setSSq o144), rfl, leB, lnq, (rok (treeM t144)), trivial⟩ (ih Z14 (w64 ((w64 ((w64 ((w64 (v4 + 1)) + 1)) + 1)) + 1)) (w64 (v5 + 1)) _ h))
  ·obtain rfl := sj h
   exact gR hP hn [hO 2 Z0, hF 4] [] .raw [AV.lit (.int .i64 Z17) = Z0, Z18 = false, Z16 = Z16, treeLL Z16 = true, noRoLL Z16 = true, (I v4) = (I v4), litA (I v4) = true] ⟨(lenM o144), c8, rfl, (treeM t144), (noRoM n144), rfl, rfl, trivial⟩
noncomputable def laws_markOpS (p1 : (List GOp)) (p2 : Int) : Option (Int × (List GOp)) :=
 laws_markOpS_l0 FU p1 p2 0
theorem laws_markOpS_m {p1 : (List GOp)} {p2 : Int} {r : (Int × (List GOp))} (h : laws_markOpS p1 p2 = some r) : MeetsR Tryz.prog 151 [⟨144, 4, (p1.map o144)⟩] [(AV.sl 0 0 (List.length (p1.map o144))), (I p2)] [true] [⟨144, 4, (r.2.map o144)⟩] (I r.1) := by
 refine meetsR_of Θ_ok Tryz.func151 rfl (c := body151) (by kernel_rfl) (Nat.le_of_ble_eq_true rfl) rfl (Nat.le_of_ble_eq_true rfl) rfl (fr := [0]) (frI rfl) ?_
 intro E hP hn hx
 replace hn : E.n = 42 := hn
 unfold laws_markOpS at h
 exact gT hP hn hx [] [(0, 0)] [0, 1, 5] [] [RenOK [(0, 0)] (p1.map o144)] ⟨(rok (treeM t144)), trivial⟩ (laws_markOpS_l0_m hP hn hx FU p1 p2 0 _ h)
noncomputable def body80 : Code := match Tryz.f80.body with | some c => c | none => .skip
noncomputable def laws_markOpSS_l0   : Nat → (List (List GOp)) → Int → Int → Option (Int × (List (List GOp)))
 | 0, _, _, _ => none
 | n + 1, a3, v4, v5 =>
 if (decide (v5 < (a3.length : Int))) = true then
  Option.bind (rd a3 v5) fun x7 =>
  Option.bind (laws_markOpS x7 v4) fun r8 =>
  Option.bind (sameLen x7 r8.2) fun q9 =>
  laws_markOpSS_l0 n (a3.set (Int.toNat v5) r8.2) r8.1 (w64 (v5 + 1))
 else
  some (v4, a3)
theorem laws_markOpSS_l0_m {E : Env} (hP : E.P = Tryz.prog) (hn : E.n = 19) (hx : ∀ p, p ∈ E.fx → p.1 ∈ ([0] : List Nat))   : ∀ (n : Nat) (a3 : (List (List GOp))) (v4 : Int) (v5 : Int) (r : (Int × (List (List GOp)))), laws_markOpSS_l0  n a3 v4 v5 = some r → WAt E body80 (FQ (RetE Θ Tryz.f80.results.toList [true] [⟨141, 1, (r.2.map o141)⟩] (I r.1) E)) [true, false, true, false] ⟨[(0, (AV.sl 0 0 (List.length (a3.map o141)))), (1, (I v4)), (5, (I v5))], [(0, some ⟨141, 1, (a3.map o141)⟩)], [0, JJ]⟩ := by
 intro n
 induction n with
 | zero => intro a3 v4 v5 r h; simp only [laws_markOpSS_l0] at h; cases h
 | succ n ih =>
  intro a3 v4 v5 r h
  simp only [laws_markOpSS_l0] at h
  let Z0 := (I (a3.length : Int)); let Z3 := (a3.map o141); let Z9 := (((List.length Z3) : Nat) : Int); let Z10 := (decide (v5 < (a3.length : Int)))
  rcases itS h with ⟨c6, h⟩ | ⟨c10, h⟩
  ·obtain ⟨x7, hx7, h⟩ := bnS h
   obtain ⟨r8, hr8, h⟩ := bnS h
   obtain ⟨q9, hq9, h⟩ := bnS h
   exact (let Z1 := (x7.map o144); let Z2 := [(AV.own 144 4 Z1)]; let Z4 := (AV.sl 1001 0 (List.length Z1)); let Z5 := (Z3.set (Int.toNat v5) [Z4]); let Z6 := (r8.2.map o144); let Z7 := (a3.set (Int.toNat v5) r8.2); let Z8 := (Z7.map o141); let Z11 := (rtf (renA [(0, 1001)] (I r8.1)) []); gT hP hn hx [hO 2 Z0, hT 4, ⟨8, .unpack 0 1001 (Int.toNat v5) 0 Z2 144 4 Z1 Z5, none⟩, ⟨8, .row [Z4], none⟩, ⟨10, .callX [1001] [true] [⟨144, 4, Z1⟩] [⟨144, 4, Z6⟩] [] (I r8.1) [] (I r8.1) [], none⟩, ⟨15, .pack 0 1001 (Int.toNat v5) 0 [Z4] Z8, none⟩, ⟨15, .slen 0 (List.length Z8), none⟩] [(0, 0)] [0, 1, 5] [] [AV.lit (.int .i64 Z9) = Z0, Z10 = true, (0 : Int) ≤ v5, v5 < Z9, Z3[(Int.toNat v5)]? = some Z2, Z2[0]? = some (AV.own 144 4 Z1), 0 < 4, Z3.set (Int.toNat v5) (Z2.set 0 Z4) = Z5, Z5[(Int.toNat v5)]? = some [Z4], MeetsR Tryz.prog 151 [⟨144, 4, Z1⟩] [(AV.sl 0 0 (List.length Z1)), (I v4)] [true] [⟨144, 4, Z6⟩] (I r8.1), (some (Root.mk 144 4 Z1) = some (Root.mk 144 4 Z1)) ∧ True, (treeLL Z1 = true ∧ noRoLL Z1 = true) ∧ True, (Z6.length = Z1.length) ∧ True, Z11.1 = (I r8.1), Z11.2.1 = [], Z5[(Int.toNat v5)]? = some [Z4], [Z4][0]? = some (AV.sl 1001 0 (List.length Z6)), treeLL Z6 = true, Z5.set (Int.toNat v5) ([Z4].set 0 (AV.own 144 4 Z6)) = Z8, (List.length Z3) = (List.length Z8), RenOK [(0, 0)] Z8] ⟨(lenM o141), c6, (rd0 hx7), (rdL o141 hx7), (rdM o141 hx7), rfl, (by decide), rfl, (setE (rdM o141 hx7)), (laws_markOpS_m hr8), ⟨rfl, trivial⟩, ⟨⟨treeM t144, noRoM n144⟩, trivial⟩, ⟨(sameLenE o144 hq9), trivial⟩, rfl, rfl, (setE (rdM o141 hx7)), (pkS (sameLenE o144 hq9).symm), (treeM t144), (setP o141), lnq, (rok (treeM t141)), trivial⟩ (ih Z7 r8.1 (w64 (v5 + 1)) _ h))
  ·obtain rfl := sj h
   exact gR hP hn [hO 2 Z0, hF 4] [] .raw [AV.lit (.int .i64 Z9) = Z0, Z10 = false, Z3 = Z3, treeLL Z3 = true, noRoLL Z3 = true, (I v4) = (I v4), litA (I v4) = true] ⟨(lenM o141), c10, rfl, (treeM t141), (noRoM n141), rfl, rfl, trivial⟩
noncomputable def laws_markOpSS (p1 : (List (List GOp))) (p2 : Int) : Option (Int × (List (List GOp))) :=
 laws_markOpSS_l0 FU p1 p2 0
theorem laws_markOpSS_m {p1 : (List (List GOp))} {p2 : Int} {r : (Int × (List (List GOp)))} (h : laws_markOpSS p1 p2 = some r) : MeetsR Tryz.prog 80 [⟨141, 1, (p1.map o141)⟩] [(AV.sl 0 0 (List.length (p1.map o141))), (I p2)] [true] [⟨141, 1, (r.2.map o141)⟩] (I r.1) := by
 refine meetsR_of Θ_ok Tryz.func80 rfl (c := body80) (by kernel_rfl) (Nat.le_of_ble_eq_true rfl) rfl (Nat.le_of_ble_eq_true rfl) rfl (fr := [0]) (frI rfl) ?_
 intro E hP hn hx
 replace hn : E.n = 19 := hn
 unfold laws_markOpSS at h
 exact gT hP hn hx [] [(0, 0)] [0, 1, 5] [] [RenOK [(0, 0)] (p1.map o141)] ⟨(rok (treeM t141)), trivial⟩ (laws_markOpSS_l0_m hP hn hx FU p1 p2 0 _ h)
noncomputable def body24 : Code := match Tryz.f24.body with | some c => c | none => .skip
noncomputable def laws_markProg (p1 : Int) (p2 : Int) (p3 : Int) (p4 : (List (List GOp))) (p5 : Int) : Option (Int × (List (List GOp))) :=
 Option.bind (laws_markOpSS p4 p5) fun r6 =>
 Option.bind (sameLen p4 r6.2) fun q7 =>
 some (r6.1, r6.2)
theorem laws_markProg_m {p1 : Int} {p2 : Int} {p3 : Int} {p4 : (List (List GOp))} {p5 : Int} {r : (Int × (List (List GOp)))} (h : laws_markProg p1 p2 p3 p4 p5 = some r) : MeetsR Tryz.prog 24 [⟨141, 1, (p4.map o141)⟩] [(AV.agg [(I p1), (I p2), (I p3), (AV.sl 0 0 (List.length (p4.map o141)))]), (I p5)] [true] [⟨141, 1, (r.2.map o141)⟩] (I r.1) := by
 refine meetsR_of Θ_ok Tryz.func24 rfl (c := body24) (by kernel_rfl) (Nat.le_of_ble_eq_true rfl) rfl (Nat.le_of_ble_eq_true rfl) rfl (fr := [0]) (frI rfl) ?_
 intro E hP hn hx
 replace hn : E.n = 10 := hn
 unfold laws_markProg at h
 obtain ⟨r6, hr6, h⟩ := bnS h
 obtain ⟨q7, hq7, h⟩ := bnS h
 obtain rfl := sj h
 exact (let Z0 := (p4.map o141); let Z1 := (r6.2.map o141); let Z2 := (I r6.1); let Z3 := (rtf (renA [(0, 0)] Z2) []); gR hP hn [hW 0 1001, ⟨5, .callX [0] [true] [⟨141, 1, Z0⟩] [⟨141, 1, Z1⟩] [] Z2 [] Z2 [], none⟩] [] .raw [MeetsR Tryz.prog 80 [⟨141, 1, Z0⟩] [(AV.sl 0 0 (List.length Z0)), (I p5)] [true] [⟨141, 1, Z1⟩] Z2, (some (Root.mk 141 1 Z0) = some (Root.mk 141 1 Z0)) ∧ True, (treeLL Z0 = true ∧ noRoLL Z0 = true) ∧ True, (Z1.length = Z0.length) ∧ True, Z3.1 = Z2, Z3.2.1 = [], Z1 = Z1, treeLL Z1 = true, noRoLL Z1 = true, Z2 = Z2, litA Z2 = true] ⟨(laws_markOpSS_m hr6), ⟨rfl, trivial⟩, ⟨⟨treeM t141, noRoM n141⟩, trivial⟩, ⟨(sameLenE o141 hq7), trivial⟩, rfl, rfl, rfl, (treeM t141), (noRoM n141), rfl, rfl, trivial⟩)
noncomputable def body82 : Code := match Tryz.f82.body with | some c => c | none => .skip
noncomputable def laws_markFloat64S_l0   : Nat → (List Nat) → Int → Int → Option (Int × (List Nat))
 | 0, _, _, _ => none
 | n + 1, a3, v4, v5 =>
 if (decide (v5 < (a3.length : Int))) = true then
  Option.bind (rd a3 v5) fun x7 =>
  laws_markFloat64S_l0 n (a3.set (Int.toNat v5) (fOf v4)) (w64 (v4 + 1)) (w64 (v5 + 1))
 else
  some (v4, a3)
theorem laws_markFloat64S_l0_m {E : Env} (hP : E.P = Tryz.prog) (hn : E.n = 20) (hx : ∀ p, p ∈ E.fx → p.1 ∈ ([0] : List Nat))   : ∀ (n : Nat) (a3 : (List Nat)) (v4 : Int) (v5 : Int) (r : (Int × (List Nat))), laws_markFloat64S_l0  n a3 v4 v5 = some r → WAt E body82 (FQ (RetE Θ Tryz.f82.results.toList [true] [⟨142, 1, (r.2.map o142)⟩] (I r.1) E)) [true, false, true, false] ⟨[(0, (AV.sl 0 0 (List.length (a3.map o142)))), (1, (I v4)), (5, (I v5))], [(0, some ⟨142, 1, (a3.map o142)⟩)], [0, JJ]⟩ := by
 intro n
 induction n with
 | zero => intro a3 v4 v5 r h; simp only [laws_markFloat64S_l0] at h; cases h
 | succ n ih =>
  intro a3 v4 v5 r h
  simp only [laws_markFloat64S_l0] at h
  let Z0 := (I (a3.length : Int)); let Z1 := (fOf v4); let Z2 := (a3.set (Int.toNat v5) Z1); let Z3 := (Z2.map o142); let Z4 := (a3.map o142); let Z5 := (((List.length Z4) : Nat) : Int); let Z6 := (decide (v5 < (a3.length : Int)))
  rcases itS h with ⟨c6, h⟩ | ⟨c8, h⟩
  ·obtain ⟨x7, hx7, h⟩ := bnS h
   exact gT hP hn hx [hO 2 Z0, hT 4, ⟨8, .cnv (FK Z1), none⟩, ⟨10, .sto [(FK x7)] Z3, none⟩, ⟨17, .slen 0 (List.length Z3), none⟩] [(0, 0)] [0, 1, 5] [] [AV.lit (.int .i64 Z5) = Z0, Z6 = true, CnvS Tryz.prog 3 142 (I v4) (FK Z1), (0 : Int) ≤ v5, v5 < Z5, Z4[(Int.toNat v5)]? = some [(FK x7)], Z4.set (Int.toNat v5) (wr [(FK x7)] 0 [(FK Z1)]) = Z3, [(FK Z1)].length = 1, 0 + [(FK Z1)].length ≤ [(FK x7)].length, (List.length Z4) = (List.length Z3), RenOK [(0, 0)] Z3] ⟨(lenM o142), c6, (cIF (P := Tryz.prog) ty3 ty142), (rd0 hx7), (rdL o142 hx7), (rdM o142 hx7), (setM o142), rfl, leB, lnq, (rok (treeM t142)), trivial⟩ (ih Z2 (w64 (v4 + 1)) (w64 (v5 + 1)) _ h)
  ·obtain rfl := sj h
   exact gR hP hn [hO 2 Z0, hF 4] [] .raw [AV.lit (.int .i64 Z5) = Z0, Z6 = false, Z4 = Z4, treeLL Z4 = true, noRoLL Z4 = true, (I v4) = (I v4), litA (I v4) = true] ⟨(lenM o142), c8, rfl, (treeM t142), (noRoM n142), rfl, rfl, trivial⟩
noncomputable def laws_markFloat64S (p1 : (List Nat)) (p2 : Int) : Option (Int × (List Nat)) :=
 laws_markFloat64S_l0 FU p1 p2 0
theorem laws_markFloat64S_m {p1 : (List Nat)} {p2 : Int} {r : (Int × (List Nat))} (h : laws_markFloat64S p1 p2 = some r) : MeetsR Tryz.prog 82 [⟨142, 1, (p1.map o142)⟩] [(AV.sl 0 0 (List.length (p1.map o142))), (I p2)] [true] [⟨142, 1, (r.2.map o142)⟩] (I r.1) := by
 refine meetsR_of Θ_ok Tryz.func82 rfl (c := body82) (by kernel_rfl) (Nat.le_of_ble_eq_true rfl) rfl (Nat.le_of_ble_eq_true rfl) rfl (fr := [0]) (frI rfl) ?_
 intro E hP hn hx
 replace hn : E.n = 20 := hn
 unfold laws_markFloat64S at h
 exact gT hP hn hx [] [(0, 0)] [0, 1, 5] [] [RenOK [(0, 0)] (p1.map o142)] ⟨(rok (treeM t142)), trivial⟩ (laws_markFloat64S_l0_m hP hn hx FU p1 p2 0 _ h)
noncomputable def body32 : Code := match Tryz.f32.body with | some c => c | none => .skip
noncomputable def laws_markIntS_l0   : Nat → (List Int) → Int → Int → Option (Int × (List Int))
 | 0, _, _, _ => none
 | n + 1, a3, v4, v5 =>
 if (decide (v5 < (a3.length : Int))) = true then
  Option.bind (rd a3 v5) fun x7 =>
  laws_markIntS_l0 n (a3.set (Int.toNat v5) v4) (w64 (v4 + 1)) (w64 (v5 + 1))
 else
  some (v4, a3)
theorem laws_markIntS_l0_m {E : Env} (hP : E.P = Tryz.prog) (hn : E.n = 19) (hx : ∀ p, p ∈ E.fx → p.1 ∈ ([0] : List Nat))   : ∀ (n : Nat) (a3 : (List Int)) (v4 : Int) (v5 : Int) (r : (Int × (List Int))), laws_markIntS_l0  n a3 v4 v5 = some r → WAt E body32 (FQ (RetE Θ Tryz.f32.results.toList [true] [⟨3, 1, (r.2.map o3)⟩] (I r.1) E)) [true, false, true, false] ⟨[(0, (AV.sl 0 0 (List.length (a3.map o3)))), (1, (I v4)), (5, (I v5))], [(0, some ⟨3, 1, (a3.map o3)⟩)], [0, JJ]⟩ := by
 intro n
 induction n with
 | zero => intro a3 v4 v5 r h; simp only [laws_markIntS_l0] at h; cases h
 | succ n ih =>
  intro a3 v4 v5 r h
  simp only [laws_markIntS_l0] at h
  let Z0 := (I (a3.length : Int)); let Z1 := (a3.set (Int.toNat v5) v4); let Z2 := (Z1.map o3); let Z3 := (a3.map o3); let Z4 := (((List.length Z3) : Nat) : Int); let Z5 := (decide (v5 < (a3.length : Int)))
  rcases itS h with ⟨c6, h⟩ | ⟨c8, h⟩
  ·obtain ⟨x7, hx7, h⟩ := bnS h
   exact gT hP hn hx [hO 2 Z0, hT 4, ⟨9, .sto [(I x7)] Z2, none⟩, ⟨16, .slen 0 (List.length Z2), none⟩] [(0, 0)] [0, 1, 5] [] [AV.lit (.int .i64 Z4) = Z0, Z5 = true, (0 : Int) ≤ v5, v5 < Z4, Z3[(Int.toNat v5)]? = some [(I x7)], Z3.set (Int.toNat v5) (wr [(I x7)] 0 [(I v4)]) = Z2, [(I v4)].length = 1, 0 + [(I v4)].length ≤ [(I x7)].length, (List.length Z3) = (List.length Z2), RenOK [(0, 0)] Z2] ⟨(lenM o3), c6, (rd0 hx7), (rdL o3 hx7), (rdM o3 hx7), (setM o3), rfl, leB, lnq, (rok (treeM t3)), trivial⟩ (ih Z1 (w64 (v4 + 1)) (w64 (v5 + 1)) _ h)
  ·obtain rfl := sj h
   exact gR hP hn [hO 2 Z0, hF 4] [] .raw [AV.lit (.int .i64 Z4) = Z0, Z5 = false, Z3 = Z3, treeLL Z3 = true, noRoLL Z3 = true, (I v4) = (I v4), litA (I v4) = true] ⟨(lenM o3), c8, rfl, (treeM t3), (noRoM n3), rfl, rfl, trivial⟩
noncomputable def laws_markIntS (p1 : (List Int)) (p2 : Int) : Option (Int × (List Int)) :=
 laws_markIntS_l0 FU p1 p2 0
theorem laws_markIntS_m {p1 : (List Int)} {p2 : Int} {r : (Int × (List Int))} (h : laws_markIntS p1 p2 = some r) : MeetsR Tryz.prog 32 [⟨3, 1, (p1.map o3)⟩] [(AV.sl 0 0 (List.length (p1.map o3))), (I p2)] [true] [⟨3, 1, (r.2.map o3)⟩] (I r.1) := by
 refine meetsR_of Θ_ok Tryz.func32 rfl (c := body32) (by kernel_rfl) (Nat.le_of_ble_eq_true rfl) rfl (Nat.le_of_ble_eq_true rfl) rfl (fr := [0]) (frI rfl) ?_
 intro E hP hn hx
 replace hn : E.n = 19 := hn
 unfold laws_markIntS at h
 exact gT hP hn hx [] [(0, 0)] [0, 1, 5] [] [RenOK [(0, 0)] (p1.map o3)] ⟨(rok (treeM t3)), trivial⟩ (laws_markIntS_l0_m hP hn hx FU p1 p2 0 _ h)
noncomputable def body81 : Code := match Tryz.f81.body with | some c => c | none => .skip
noncomputable def laws_markThreadS_l0   : Nat → (List GThread) → Int → Int → Option (Int × (List GThread))
 | 0, _, _, _ => none
 | n + 1, a3, v4, v5 =>
 if (decide (v5 < (a3.length : Int))) = true then
  Option.bind (rd a3 v5) fun x7 =>
  Option.bind (laws_markFloat64S x7.Stack (w64 ((w64 ((w64 ((w64 ((w64 (v4 + 1)) + 1)) + 1)) + 1)) + 1))) fun r8 =>
  Option.bind (sameLen x7.Stack r8.2) fun q9 =>
  laws_markThreadS_l0 n ((a3.set (Int.toNat v5) (GThread.mk v4 (w64 (v4 + 1)) (w64 ((w64 (v4 + 1)) + 1)) (w64 ((w64 ((w64 (v4 + 1)) + 1)) + 1)) (w64 ((w64 ((w64 ((w64 (v4 + 1)) + 1)) + 1)) + 1)) x7.Stack)).set (Int.toNat v5) (GThread.mk v4 (w64 (v4 + 1)) (w64 ((w64 (v4 + 1)) + 1)) (w64 ((w64 ((w64 (v4 + 1)) + 1)) + 1)) (w64 ((w64 ((w64 ((w64 (v4 + 1)) + 1)) + 1)) + 1)) r8.2)) r8.1 (w64 (v5 + 1))
 else
  some (v4, a3)
theorem laws_markThreadS_l0_m {E : Env} (hP : E.P = Tryz.prog) (hn : E.n = 55) (hx : ∀ p, p ∈ E.fx → p.1 ∈ ([0] : List Nat))   : ∀ (n : Nat) (a3 : (List GThread)) (v4 : Int) (v5 : Int) (r : (Int × (List GThread))), laws_markThreadS_l0  n a3 v4 v5 = some r → WAt E body81 (FQ (RetE Θ Tryz.f81.results.toList [true] [⟨179, 6, (r.2.map o179)⟩] (I r.1) E)) [true, false, true, false] ⟨[(0, (AV.sl 0 0 (List.length (a3.map o179)))), (1, (I v4)), (5, (I v5))], [(0, some ⟨179, 6, (a3.map o179)⟩)], [0, JJ]⟩ := by
 intro n
 induction n with
 | zero => intro a3 v4 v5 r h; simp only [laws_markThreadS_l0] at h; cases h
 | succ n ih =>
  intro a3 v4 v5 r h
  simp only [laws_markThreadS_l0] at h
  let Z0 := (I (a3.length : Int)); let Z4 := (I v4); let Z9 := (w64 (v4 + 1)); let Z13 := (w64 (Z9 + 1)); let Z17 := (w64 (Z13 + 1)); let Z21 := (w64 (Z17 + 1)); let Z32 := (a3.map o179); let Z33 := (((List.length Z32) : Nat) : Int); let Z34 := (decide (v5 < (a3.length : Int)))
  rcases itS h with ⟨c6, h⟩ | ⟨c10, h⟩
  ·obtain ⟨x7, hx7, h⟩ := bnS h
   obtain ⟨r8, hr8, h⟩ := bnS h
   obtain ⟨q9, hq9, h⟩ := bnS h
   exact (let Z1 := ((o179 x7)); let Z2 := ((a3.set (Int.toNat v5) (GThread.mk v4 x7.Pc x7.State x7.Cond x7.Lock x7.Stack)).map o179); let Z3 := (List.length Z2); let Z5 := (I x7.Lock); let Z6 := (x7.Stack.map o142); let Z7 := (AV.own 142 1 Z6); let Z8 := [Z4, (I x7.Pc), (I x7.State), (I x7.Cond), Z5, Z7]; let Z10 := ((a3.set (Int.toNat v5) (GThread.mk v4 Z9 x7.State x7.Cond x7.Lock x7.Stack)).map o179); let Z11 := (List.length Z10); let Z12 := [Z4, (I Z9), (I x7.State), (I x7.Cond), Z5, Z7]; let Z14 := ((a3.set (Int.toNat v5) (GThread.mk v4 Z9 Z13 x7.Cond x7.Lock x7.Stack)).map o179); let Z15 := (List.length Z14); let Z16 := [Z4, (I Z9), (I Z13), (I x7.Cond), Z5, Z7]; let Z18 := ((a3.set (Int.toNat v5) (GThread.mk v4 Z9 Z13 Z17 x7.Lock x7.Stack)).map o179); let Z19 := (List.length Z18); let Z20 := [Z4, (I Z9), (I Z13), (I Z17), Z5, Z7]; let Z22 := (a3.set (Int.toNat v5) (GThread.mk v4 Z9 Z13 Z17 Z21 x7.Stack)); let Z23 := (Z22.map o179); let Z24 := (List.length Z23); let Z25 := [Z4, (I Z9), (I Z13), (I Z17), (I Z21), Z7]; let Z26 := (AV.sl 1001 0 (List.length Z6)); let Z27 := [Z4, (I Z9), (I Z13), (I Z17), (I Z21), Z26]; let Z28 := (Z23.set (Int.toNat v5) Z27); let Z29 := (r8.2.map o142); let Z30 := (Z22.set (Int.toNat v5) (GThread.mk v4 Z9 Z13 Z17 Z21 r8.2)); let Z31 := (Z30.map o179); let Z35 := (rtf (renA [(0, 1001)] (I r8.1)) []); let Z36 := (GThread.mk v4 x7.Pc x7.State x7.Cond x7.Lock x7.Stack); let Z37 := (GThread.mk v4 (w64 (v4 + 1)) x7.State x7.Cond x7.Lock x7.Stack); let Z38 := (GThread.mk v4 (w64 (v4 + 1)) (w64 ((w64 (v4 + 1)) + 1)) x7.Cond x7.Lock x7.Stack); let Z39 := (GThread.mk v4 (w64 (v4 + 1)) (w64 ((w64 (v4 + 1)) + 1)) (w64 ((w64 ((w64 (v4 + 1)) + 1)) + 1)) x7.Lock x7.Stack); let Z40 := (GThread.mk v4 (w64 (v4 + 1)) (w64 ((w64 (v4 + 1)) + 1)) (w64 ((w64 ((w64 (v4 + 1)) + 1)) + 1)) (w64 ((w64 ((w64 ((w64 (v4 + 1)) + 1)) + 1)) + 1)) x7.Stack); gT hP hn hx [hO 2 Z0, hT 4, ⟨10, .sto Z1 Z2, none⟩, ⟨14, .slen 0 Z3, none⟩, ⟨19, .sto Z8 Z10, none⟩, ⟨23, .slen 0 Z11, none⟩, ⟨28, .sto Z12 Z14, none⟩, ⟨32, .slen 0 Z15, none⟩, ⟨37, .sto Z16 Z18, none⟩, ⟨41, .slen 0 Z19, none⟩, ⟨46, .sto Z20 Z23, none⟩, ⟨50, .slen 0 Z24, none⟩, ⟨54, .unpack 0 1001 (Int.toNat v5) 5 Z25 142 1 Z6 Z28, none⟩, ⟨54, .row Z27, none⟩, ⟨56, .callX [1001] [true] [⟨142, 1, Z6⟩] [⟨142, 1, Z29⟩] [] (I r8.1) [] (I r8.1) [], none⟩, ⟨61, .pack 0 1001 (Int.toNat v5) 5 Z27 Z31, none⟩, ⟨61, .slen 0 (List.length Z31), none⟩] [(0, 0)] [0, 1, 5] [] [AV.lit (.int .i64 Z33) = Z0, Z34 = true, (0 : Int) ≤ v5, v5 < Z33, Z32[(Int.toNat v5)]? = some Z1, Z32.set (Int.toNat v5) (wr Z1 0 [Z4]) = Z2, [Z4].length = 1, 0 + [Z4].length ≤ Z1.length, (List.length Z32) = Z3, (0 : Int) ≤ v5, v5 < ((Z3 : Nat) : Int), Z2[(Int.toNat v5)]? = some Z8, Z2.set (Int.toNat v5) (wr Z8 1 [(I Z9)]) = Z10, [(I Z9)].length = 1, 1 + [(I Z9)].length ≤ Z8.length, Z3 = Z11, (0 : Int) ≤ v5, v5 < ((Z11 : Nat) : Int), Z10[(Int.toNat v5)]? = some Z12, Z10.set (Int.toNat v5) (wr Z12 2 [(I Z13)]) = Z14, [(I Z13)].length = 1, 2 + [(I Z13)].length ≤ Z12.length, Z11 = Z15, (0 : Int) ≤ v5, v5 < ((Z15 : Nat) : Int), Z14[(Int.toNat v5)]? = some Z16, Z14.set (Int.toNat v5) (wr Z16 3 [(I Z17)]) = Z18, [(I Z17)].length = 1, 3 + [(I Z17)].length ≤ Z16.length, Z15 = Z19, (0 : Int) ≤ v5, v5 < ((Z19 : Nat) : Int), Z18[(Int.toNat v5)]? = some Z20, Z18.set (Int.toNat v5) (wr Z20 4 [(I Z21)]) = Z23, [(I Z21)].length = 1, 4 + [(I Z21)].length ≤ Z20.length, Z19 = Z24, (0 : Int) ≤ v5, v5 < ((Z24 : Nat) : Int), Z23[(Int.toNat v5)]? = some Z25, Z25[5]? = some Z7, 0 < 1, Z23.set (Int.toNat v5) (Z25.set 5 Z26) = Z28, Z28[(Int.toNat v5)]? = some Z27, MeetsR Tryz.prog 82 [⟨142, 1, Z6⟩] [(AV.sl 0 0 (List.length Z6)), (I (w64 (Z21 + 1)))] [true] [⟨142, 1, Z29⟩] (I r8.1), (some (Root.mk 142 1 Z6) = some (Root.mk 142 1 Z6)) ∧ True, (treeLL Z6 = true ∧ noRoLL Z6 = true) ∧ True, (Z29.length = Z6.length) ∧ True, Z35.1 = (I r8.1), Z35.2.1 = [], Z28[(Int.toNat v5)]? = some Z27, Z27[5]? = some (AV.sl 1001 0 (List.length Z29)), treeLL Z29 = true, Z28.set (Int.toNat v5) (Z27.set 5 (AV.own 142 1 Z29)) = Z31, Z24 = (List.length Z31), RenOK [(0, 0)] Z31] ⟨(lenM o179), c6, (rd0 hx7), (rdL o179 hx7), (rdM o179 hx7), (setMrq o179), rfl, leB, lnq, (rd0 hx7), (rdL o179 (rdS (y := Z36) hx7)), (rdM o179 (rdS (y := Z36) hx7)), (setSSq o179), rfl, leB, lnq, (rd0 hx7), (rdL o179 (rdS (y := Z37) hx7)), (rdM o179 (rdS (y := Z37) hx7)), (setSSq o179), rfl, leB, lnq, (rd0 hx7), (rdL o179 (rdS (y := Z38) hx7)), (rdM o179 (rdS (y := Z38) hx7)), (setSSq o179), rfl, leB, lnq, (rd0 hx7), (rdL o179 (rdS (y := Z39) hx7)), (rdM o179 (rdS (y := Z39) hx7)), (setSSq o179), rfl, leB, lnq, (rd0 hx7), (rdL o179 (rdS (y := Z40) hx7)), (rdM o179 (rdS (y := Z40) hx7)), rfl, (by decide), rfl, (setE (rdM o179 (rdS (y := Z40) hx7))), (laws_markFloat64S_m hr8), ⟨rfl, trivial⟩, ⟨⟨treeM t142, noRoM n142⟩, trivial⟩, ⟨(sameLenE o142 hq9), trivial⟩, rfl, rfl, (setE (rdM o179 (rdS (y := Z40) hx7))), (pkS (sameLenE o142 hq9).symm), (treeM t142), (setPe o179 (y := (GThread.mk v4 (w64 (v4 + 1)) (w64 ((w64 (v4 + 1)) + 1)) (w64 ((w64 ((w64 (v4 + 1)) + 1)) + 1)) (w64 ((w64 ((w64 ((w64 (v4 + 1)) + 1)) + 1)) + 1)) r8.2)) rfl), lnq, (rok (treeM t179)), trivial⟩ (ih Z30 r8.1 (w64 (v5 + 1)) _ h))
  ·obtain rfl := sj h
   exact gR hP hn [hO 2 Z0, hF 4] [] .raw [AV.lit (.int .i64 Z33) = Z0, Z34 = false, Z32 = Z32, treeLL Z32 = true, noRoLL Z32 = true, Z4 = Z4, litA Z4 = true] ⟨(lenM o179), c10, rfl, (treeM t179), (noRoM n179), rfl, rfl, trivial⟩
noncomputable def laws_markThreadS (p1 : (List GThread)) (p2 : Int) : Option (Int × (List GThread)) :=
 laws_markThreadS_l0 FU p1 p2 0
theorem laws_markThreadS_m {p1 : (List GThread)} {p2 : Int} {r : (Int × (List GThread))} (h : laws_markThreadS p1 p2 = some r) : MeetsR Tryz.prog 81 [⟨179, 6, (p1.map o179)⟩] [(AV.sl 0 0 (List.length (p1.map o179))), (I p2)] [true] [⟨179, 6, (r.2.map o179)⟩] (I r.1) := by
 refine meetsR_of Θ_ok Tryz.func81 rfl (c := body81) (by kernel_rfl) (Nat.le_of_ble_eq_true rfl) rfl (Nat.le_of_ble_eq_true rfl) rfl (fr := [0]) (frI rfl) ?_
 intro E hP hn hx
 replace hn : E.n = 55 := hn
 unfold laws_markThreadS at h
 exact gT hP hn hx [] [(0, 0)] [0, 1, 5] [] [RenOK [(0, 0)] (p1.map o179)] ⟨(rok (treeM t179)), trivial⟩ (laws_markThreadS_l0_m hP hn hx FU p1 p2 0 _ h)
noncomputable def body25 : Code := match Tryz.f25.body with | some c => c | none => .skip
noncomputable def laws_markState (p1 : (List GThread)) (p2 : (List Nat)) (p3 : (List Int)) (p4 : Int) (p5 : Int) : Option (Int × (List GThread) × (List Nat) × (List Int)) :=
 Option.bind (laws_markThreadS p1 p5) fun r6 =>
 Option.bind (sameLen p1 r6.2) fun q7 =>
 Option.bind (laws_markFloat64S p2 r6.1) fun r8 =>
 Option.bind (sameLen p2 r8.2) fun q9 =>
 Option.bind (laws_markIntS p3 r8.1) fun r10 =>
 Option.bind (sameLen p3 r10.2) fun q11 =>
 some (r10.1, r6.2, r8.2, r10.2)
theorem laws_markState_m {p1 : (List GThread)} {p2 : (List Nat)} {p3 : (List Int)} {p4 : Int} {p5 : Int} {r : (Int × (List GThread) × (List Nat) × (List Int))} (h : laws_markState p1 p2 p3 p4 p5 = some r) : MeetsR Tryz.prog 25 [⟨179, 6, (p1.map o179)⟩, ⟨142, 1, (p2.map o142)⟩, ⟨3, 1, (p3.map o3)⟩] [(AV.agg [(AV.sl 0 0 (List.length (p1.map o179))), (AV.sl 1 0 (List.length (p2.map o142))), (AV.sl 2 0 (List.length (p3.map o3))), (I p4)]), (I p5)] [true, true, true] [⟨179, 6, (r.2.1.map o179)⟩, ⟨142, 1, (r.2.2.1.map o142)⟩, ⟨3, 1, (r.2.2.2.map o3)⟩] (I r.1) := by
 refine meetsR_of Θ_ok Tryz.func25 rfl (c := body25) (by kernel_rfl) (Nat.le_of_ble_eq_true rfl) rfl (Nat.le_of_ble_eq_true rfl) rfl (fr := [0, 1, 2]) (frI rfl) ?_
 intro E hP hn hx
 replace hn : E.n = 18 := hn
 unfold laws_markState at h
 obtain ⟨r6, hr6, h⟩ := bnS h
 obtain ⟨q7, hq7, h⟩ := bnS h
 obtain ⟨r8, hr8, h⟩ := bnS h
 obtain ⟨q9, hq9, h⟩ := bnS h
 obtain ⟨r10, hr10, h⟩ := bnS h
 obtain ⟨q11, hq11, h⟩ := bnS h
 obtain rfl := sj h
 exact (let Z0 := (p1.map o179); let Z1 := (r6.2.map o179); let Z2 := (I r6.1); let Z3 := (p2.map o142); let Z4 := (r8.2.map o142); let Z5 := (I r8.1); let Z6 := (p3.map o3); let Z7 := (r10.2.map o3); let Z8 := (I r10.1); let Z9 := (rtf (renA [(0, 0)] Z2) []); let Z10 := (rtf (renA [(0, 1)] Z5) []); let Z11 := (rtf (renA [(0, 2)] Z8) []); gR hP hn [hW 0 1001, ⟨5, .callX [0] [true] [⟨179, 6, Z0⟩] [⟨179, 6, Z1⟩] [] Z2 [] Z2 [], none⟩, ⟨10, .callX [1] [true] [⟨142, 1, Z3⟩] [⟨142, 1, Z4⟩] [] Z5 [] Z5 [], none⟩, ⟨15, .callX [2] [true] [⟨3, 1, Z6⟩] [⟨3, 1, Z7⟩] [] Z8 [] Z8 [], none⟩] [] .raw [MeetsR Tryz.prog 81 [⟨179, 6, Z0⟩] [(AV.sl 0 0 (List.length Z0)), (I p5)] [true] [⟨179, 6, Z1⟩] Z2, (some (Root.mk 179 6 Z0) = some (Root.mk 179 6 Z0)) ∧ True, (treeLL Z0 = true ∧ noRoLL Z0 = true) ∧ True, (Z1.length = Z0.length) ∧ True, Z9.1 = Z2, Z9.2.1 = [], MeetsR Tryz.prog 82 [⟨142, 1, Z3⟩] [(AV.sl 0 0 (List.length Z3)), Z2] [true] [⟨142, 1, Z4⟩] Z5, (some (Root.mk 142 1 Z3) = some (Root.mk 142 1 Z3)) ∧ True, (treeLL Z3 = true ∧ noRoLL Z3 = true) ∧ True, (Z4.length = Z3.length) ∧ True, Z10.1 = Z5, Z10.2.1 = [], MeetsR Tryz.prog 32 [⟨3, 1, Z6⟩] [(AV.sl 0 0 (List.length Z6)), Z5] [true] [⟨3, 1, Z7⟩] Z8, (some (Root.mk 3 1 Z6) = some (Root.mk 3 1 Z6)) ∧ True, (treeLL Z6 = true ∧ noRoLL Z6 = true) ∧ True, (Z7.length = Z6.length) ∧ True, Z11.1 = Z8, Z11.2.1 = [], Z1 = Z1, treeLL Z1 = true, noRoLL Z1 = true, Z4 = Z4, treeLL Z4 = true, noRoLL Z4 = true, Z7 = Z7, treeLL Z7 = true, noRoLL Z7 = true, Z8 = Z8, litA Z8 = true] ⟨(laws_markThreadS_m hr6), ⟨rfl, trivial⟩, ⟨⟨treeM t179, noRoM n179⟩, trivial⟩, ⟨(sameLenE o179 hq7), trivial⟩, rfl, rfl, (laws_markFloat64S_m hr8), ⟨rfl, trivial⟩, ⟨⟨treeM t142, noRoM n142⟩, trivial⟩, ⟨(sameLenE o142 hq9), trivial⟩, rfl, rfl, (laws_markIntS_m hr10), ⟨rfl, trivial⟩, ⟨⟨treeM t3, noRoM n3⟩, trivial⟩, ⟨(sameLenE o3 hq11), trivial⟩, rfl, rfl, rfl, (treeM t179), (noRoM n179), rfl, (treeM t142), (noRoM n142), rfl, (treeM t3), (noRoM n3), rfl, rfl, trivial⟩)
noncomputable def body122 : Code := match Tryz.f122.body with | some c => c | none => .skip
noncomputable def laws_szOpS (p1 : (List GOp)) (p2 : Int) : Option Int :=
 if (decide ((w64 (p2 - (p1.length : Int))) < 0)) = true then
  some (-1)
 else
  some (w64 (p2 - (p1.length : Int)))
theorem laws_szOpS_m {p1 : (List GOp)} {p2 : Int} {r : Int} (h : laws_szOpS p1 p2 = some r) : Meets Tryz.prog 122 [(AV.ro 4 (p1.map o213)), (I p2)] (I r) := by
 refine gM Tryz.func122 12 body122 fun E hP hn hx => ?_
 unfold laws_szOpS at h
 let Z0 := (I (p1.length : Int)); let Z1 := (((p1.map o213).length : Nat) : Int); let Z2 := (w64 (p2 - (p1.length : Int)))
 rcases itS h with ⟨c3, h⟩ | ⟨c4, h⟩
 ·obtain rfl := sj h
  exact gR hP hn [hO 3 Z0, hT 8] [] .raw [AV.lit (.int .i64 Z1) = Z0, (decide (Z2 < 0)) = true, (I (-1)) = (I (-1)), litA (I (-1)) = true] ⟨(lenM o213), c3, rfl, rfl, trivial⟩
 ·obtain rfl := sj h
  exact gR hP hn [hO 3 Z0, hF 8] [] .raw [AV.lit (.int .i64 Z1) = Z0, (decide (Z2 < 0)) = false, (I Z2) = (I Z2), litA (I Z2) = true] ⟨(lenM o213), c4, rfl, rfl, trivial⟩
noncomputable def body59 : Code := match Tryz.f59.body with | some c => c | none => .skip
noncomputable def laws_szOpSS_l0  (p1 : (List (List GOp))) : Nat → Int → Int → Option Int
 | 0, _, _ => none
 | n + 1, v5, v6 =>
 if (decide (v6 < (p1.length : Int))) = true then
  Option.bind (rd p1 v6) fun x8 =>
  Option.bind (laws_szOpS x8 v5) fun r9 =>
  if (decide (r9 < 0)) = true then
   some (-1)
  else
   laws_szOpSS_l0 p1 n r9 (w64 (v6 + 1))
 else
  some v5
theorem laws_szOpSS_l0_m {E : Env} (hP : E.P = Tryz.prog) (hn : E.n = 27) (hx : FX E []) (p1 : (List (List GOp)))  : ∀ (n : Nat) (v5 : Int) (v6 : Int) (r : Int), laws_szOpSS_l0 p1 n v5 v6 = some r → WAt E body59 (FQ (RetE Θ Tryz.f59.results.toList [] [] (I r) E)) [true, true, true, false, true, false] ⟨[(0, (AV.ro 1 (p1.map r167))), (1, (I v5)), (5, (I v6))], [], [JJ]⟩ := by
 intro n
 induction n with
 | zero => intro v5 v6 r h; simp only [laws_szOpSS_l0] at h; cases h
 | succ n ih =>
  intro v5 v6 r h
  simp only [laws_szOpSS_l0] at h
  let Z0 := (I (p1.length : Int)); let Z1 := (decide (v6 < (p1.length : Int)))
  let P1 : List Prop := [AV.lit (.int .i64 (((p1.map r167).length : Nat) : Int)) = Z0]
  have AP1 : AllP P1 := ⟨(lenM r167), trivial⟩
  rcases itS h with ⟨c7, h⟩ | ⟨c12, h⟩
  ·obtain ⟨x8, hx8, h⟩ := bnS h
   obtain ⟨r9, hr9, h⟩ := bnS h
   let H2 : List Hn := [hO 2 Z0, hT 4, ⟨7, .row (r167 x8), none⟩, ⟨10, .callV [] (I r9), none⟩]
   let P3 : List Prop := P1 ++ [Z1 = true, (0 : Int) ≤ v6, (p1.map r167)[(Int.toNat v6)]? = some (r167 x8), Meets Tryz.prog 122 [(AV.ro 4 (x8.map o213)), (I v5)] (I r9), litA (I r9) = true]
   have AP3 : AllP P3 := andP AP1 ⟨c7, (rd0 hx8), (rdM r167 hx8), (laws_szOpS_m hr9), rfl, trivial⟩
   rcases itS h with ⟨c10, h⟩ | ⟨c11, h⟩
   ·obtain rfl := sj h
    exact gR hP hn (H2 ++ [hT 14]) [] .raw (P3 ++ [(decide (r9 < 0)) = true, (I (-1)) = (I (-1)), litA (I (-1)) = true]) (andP AP3 ⟨c10, rfl, rfl, trivial⟩)
   ·exact gT hP hn hx (H2 ++ [hF 14]) [] [0, 1, 5] [] (P3 ++ [(decide (r9 < 0)) = false]) (andP AP3 ⟨c11, trivial⟩) (ih r9 (w64 (v6 + 1)) _ h)
  ·obtain rfl := sj h
   exact gR hP hn [hO 2 Z0, hF 4] [] .raw (P1 ++ [Z1 = false, (I v5) = (I v5), litA (I v5) = true]) (andP AP1 ⟨c12, rfl, rfl, trivial⟩)
noncomputable def laws_szOpSS (p1 : (List (List GOp))) (p2 : Int) : Option Int :=
 if (decide ((w64 (p2 - (p1.length : Int))) < 0)) = true then
  some (-1)
 else
  laws_szOpSS_l0 p1 FU (w64 (p2 - (p1.length : Int))) 0
theorem laws_szOpSS_m {p1 : (List (List GOp))} {p2 : Int} {r : Int} (h : laws_szOpSS p1 p2 = some r) : Meets Tryz.prog 59 [(AV.ro 1 (p1.map r167)), (I p2)] (I r) := by
 refine gM Tryz.func59 27 body59 fun E hP hn hx => ?_
 unfold laws_szOpSS at h
 let Z0 := (p1.length : Int); let Z1 := (((p1.map r167).length : Nat) : Int); let Z2 := (decide ((w64 (p2 - Z0)) < 0))
 rcases itS h with ⟨c3, h⟩ | ⟨c4, h⟩
 ·obtain rfl := sj h
  exact gR hP hn [hO 3 (I Z0), hT 8] [] .raw [AV.lit (.int .i64 Z1) = (I Z0), Z2 = true, (I (-1)) = (I (-1)), litA (I (-1)) = true] ⟨(lenM r167), c3, rfl, rfl, trivial⟩
 ·exact gT hP hn hx [hO 3 (I Z0), hF 8] [] [0, 1, 5] [] [AV.lit (.int .i64 Z1) = (I Z0), Z2 = false] ⟨(lenM r167), c4, trivial⟩ (laws_szOpSS_l0_m hP hn hx p1 FU (w64 (p2 - Z0)) 0 _ h)
noncomputable def body13 : Code := match Tryz.f13.body with | some c => c | none => .skip
noncomputable def laws_szProg (p1 : GProg) (p2 : Int) : Option Int :=
 Option.bind (laws_szOpSS p1.Routines p2) fun r3 =>
 if (decide (r3 < 0)) = true then
  some (-1)
 else
  some r3
theorem laws_szProg_m {p1 : GProg} {p2 : Int} {r : Int} (h : laws_szProg p1 p2 = some r) : Meets Tryz.prog 13 [(AV.agg ((r24 p1))), (I p2)] (I r) := by
 refine gM Tryz.func13 12 body13 fun E hP hn hx => ?_
 unfold laws_szProg at h
 obtain ⟨r3, hr3, h⟩ := bnS h
 let P1 : List Prop := [Meets Tryz.prog 59 [(AV.ro 1 (p1.Routines.map r167)), (I p2)] (I r3), litA (I r3) = true]
 have AP1 : AllP P1 := ⟨(laws_szOpSS_m hr3), rfl, trivial⟩
 rcases itS h with ⟨c4, h⟩ | ⟨c5, h⟩
 ·obtain rfl := sj h
  exact gR hP hn [hW 0 1001, ⟨5, .callV [] (I r3), none⟩, hT 9] [] .raw (P1 ++ [(decide (r3 < 0)) = true, (I (-1)) = (I (-1)), litA (I (-1)) = true]) (andP AP1 ⟨c4, rfl, rfl, trivial⟩)
 ·obtain rfl := sj h
  exact gR hP hn [hW 0 1001, ⟨5, .callV [] (I r3), none⟩, hF 9] [] .raw (P1 ++ [(decide (r3 < 0)) = false, (I r3) = (I r3), litA (I r3) = true]) (andP AP1 ⟨c5, rfl, rfl, trivial⟩)
noncomputable def body65 : Code := match Tryz.f65.body with | some c => c | none => .skip
noncomputable def laws_szFloat64S (p1 : (List Nat)) (p2 : Int) : Option Int :=
 if (decide ((w64 (p2 - (p1.length : Int))) < 0)) = true then
  some (-1)
 else
  some (w64 (p2 - (p1.length : Int)))
theorem laws_szFloat64S_m {p1 : (List Nat)} {p2 : Int} {r : Int} (h : laws_szFloat64S p1 p2 = some r) : Meets Tryz.prog 65 [(AV.ro 1 (p1.map o142)), (I p2)] (I r) := by
 refine gM Tryz.func65 12 body65 fun E hP hn hx => ?_
 unfold laws_szFloat64S at h
 let Z0 := (I (p1.length : Int)); let Z1 := (((p1.map o142).length : Nat) : Int); let Z2 := (w64 (p2 - (p1.length : Int)))
 rcases itS h with ⟨c3, h⟩ | ⟨c4, h⟩
 ·obtain rfl := sj h
  exact gR hP hn [hO 3 Z0, hT 8] [] .raw [AV.lit (.int .i64 Z1) = Z0, (decide (Z2 < 0)) = true, (I (-1)) = (I (-1)), litA (I (-1)) = true] ⟨(lenM o142), c3, rfl, rfl, trivial⟩
 ·obtain rfl := sj h
  exact gR hP hn [hO 3 Z0, hF 8] [] .raw [AV.lit (.int .i64 Z1) = Z0, (decide (Z2 < 0)) = false, (I Z2) = (I Z2), litA (I Z2) = true] ⟨(lenM o142), c4, rfl, rfl, trivial⟩
noncomputable def body66 : Code := match Tryz.f66.body with | some c => c | none => .skip
noncomputable def laws_szIntS (p1 : (List Int)) (p2 : Int) : Option Int :=
 if (decide ((w64 (p2 - (p1.length : Int))) < 0)) = true then
  some (-1)
 else
  some (w64 (p2 - (p1.length : Int)))
theorem laws_szIntS_m {p1 : (List Int)} {p2 : Int} {r : Int} (h : laws_szIntS p1 p2 = some r) : Meets Tryz.prog 66 [(AV.ro 1 (p1.map o3)), (I p2)] (I r) := by
 refine gM Tryz.func66 12 body66 fun E hP hn hx => ?_
 unfold laws_szIntS at h
 let Z0 := (I (p1.length : Int)); let Z1 := (((p1.map o3).length : Nat) : Int); let Z2 := (w64 (p2 - (p1.length : Int)))
 rcases itS h with ⟨c3, h⟩ | ⟨c4, h⟩
 ·obtain rfl := sj h
  exact gR hP hn [hO 3 Z0, hT 8] [] .raw [AV.lit (.int .i64 Z1) = Z0, (decide (Z2 < 0)) = true, (I (-1)) = (I (-1)), litA (I (-1)) = true] ⟨(lenM o3), c3, rfl, rfl, trivial⟩
 ·obtain rfl := sj h
  exact gR hP hn [hO 3 Z0, hF 8] [] .raw [AV.lit (.int .i64 Z1) = Z0, (decide (Z2 < 0)) = false, (I Z2) = (I Z2), litA (I Z2) = true] ⟨(lenM o3), c4, rfl, rfl, trivial⟩
noncomputable def body129 : Code := match Tryz.f129.body with | some c => c | none => .skip
noncomputable def laws_szThread (p1 : GThread) (p2 : Int) : Option Int :=
 Option.bind (laws_szFloat64S p1.Stack p2) fun r3 =>
 if (decide (r3 < 0)) = true then
  some (-1)
 else
  some r3
theorem laws_szThread_m {p1 : GThread} {p2 : Int} {r : Int} (h : laws_szThread p1 p2 = some r) : Meets Tryz.prog 129 [(AV.agg ((r178 p1))), (I p2)] (I r) := by
 refine gM Tryz.func129 12 body129 fun E hP hn hx => ?_
 unfold laws_szThread at h
 obtain ⟨r3, hr3, h⟩ := bnS h
 let P1 : List Prop := [Meets Tryz.prog 65 [(AV.ro 1 (p1.Stack.map o142)), (I p2)] (I r3), litA (I r3) = true]
 have AP1 : AllP P1 := ⟨(laws_szFloat64S_m hr3), rfl, trivial⟩
 rcases itS h with ⟨c4, h⟩ | ⟨c5, h⟩
 ·obtain rfl := sj h
  exact gR hP hn [hW 0 1001, ⟨5, .callV [] (I r3), none⟩, hT 9] [] .raw (P1 ++ [(decide (r3 < 0)) = true, (I (-1)) = (I (-1)), litA (I (-1)) = true]) (andP AP1 ⟨c4, rfl, rfl, trivial⟩)
 ·obtain rfl := sj h
  exact gR hP hn [hW 0 1001, ⟨5, .callV [] (I r3), none⟩, hF 9] [] .raw (P1 ++ [(decide (r3 < 0)) = false, (I r3) = (I r3), litA (I r3) = true]) (andP AP1 ⟨c5, rfl, rfl, trivial⟩)
noncomputable def body64 : Code := match Tryz.f64.body with | some c => c | none => .skip
noncomputable def laws_szThreadS_l0  (p1 : (List GThread)) : Nat → Int → Int → Option Int
 | 0, _, _ => none
 | n + 1, v5, v6 =>
 if (decide (v6 < (p1.length : Int))) = true then
  Option.bind (rd p1 v6) fun x8 =>
  Option.bind (laws_szThread x8 v5) fun r9 =>
  if (decide (r9 < 0)) = true then
   some (-1)
  else
   laws_szThreadS_l0 p1 n r9 (w64 (v6 + 1))
 else
  some v5
theorem laws_szThreadS_l0_m {E : Env} (hP : E.P = Tryz.prog) (hn : E.n = 27) (hx : FX E []) (p1 : (List GThread))  : ∀ (n : Nat) (v5 : Int) (v6 : Int) (r : Int), laws_szThreadS_l0 p1 n v5 v6 = some r → WAt E body64 (FQ (RetE Θ Tryz.f64.results.toList [] [] (I r) E)) [true, true, true, false, true, false] ⟨[(0, (AV.ro 6 (p1.map r178))), (1, (I v5)), (5, (I v6))], [], [JJ]⟩ := by
 intro n
 induction n with
 | zero => intro v5 v6 r h; simp only [laws_szThreadS_l0] at h; cases h
 | succ n ih =>
  intro v5 v6 r h
  simp only [laws_szThreadS_l0] at h
  let Z0 := (I (p1.length : Int)); let Z1 := (decide (v6 < (p1.length : Int)))
  let P1 : List Prop := [AV.lit (.int .i64 (((p1.map r178).length : Nat) : Int)) = Z0]
  have AP1 : AllP P1 := ⟨(lenM r178), trivial⟩
  rcases itS h with ⟨c7, h⟩ | ⟨c12, h⟩
  ·obtain ⟨x8, hx8, h⟩ := bnS h
   obtain ⟨r9, hr9, h⟩ := bnS h
   let H2 : List Hn := [hO 2 Z0, hT 4, ⟨7, .row (r178 x8), none⟩, ⟨10, .callV [[]] (I r9), none⟩]
   let P3 : List Prop := P1 ++ [Z1 = true, (0 : Int) ≤ v6, (p1.map r178)[(Int.toNat v6)]? = some (r178 x8), Meets Tryz.prog 129 [(AV.agg ((r178 x8))), (I v5)] (I r9), litA (I r9) = true]
   have AP3 : AllP P3 := andP AP1 ⟨c7, (rd0 hx8), (rdM r178 hx8), (laws_szThread_m hr9), rfl, trivial⟩
   rcases itS h with ⟨c10, h⟩ | ⟨c11, h⟩
   ·obtain rfl := sj h
    exact gR hP hn (H2 ++ [hT 14]) [] .raw (P3 ++ [(decide (r9 < 0)) = true, (I (-1)) = (I (-1)), litA (I (-1)) = true]) (andP AP3 ⟨c10, rfl, rfl, trivial⟩)
   ·exact gT hP hn hx (H2 ++ [hF 14]) [] [0, 1, 5] [] (P3 ++ [(decide (r9 < 0)) = false]) (andP AP3 ⟨c11, trivial⟩) (ih r9 (w64 (v6 + 1)) _ h)
  ·obtain rfl := sj h
   exact gR hP hn [hO 2 Z0, hF 4] [] .raw (P1 ++ [Z1 = false, (I v5) = (I v5), litA (I v5) = true]) (andP AP1 ⟨c12, rfl, rfl, trivial⟩)
noncomputable def laws_szThreadS (p1 : (List GThread)) (p2 : Int) : Option Int :=
 if (decide ((w64 (p2 - (p1.length : Int))) < 0)) = true then
  some (-1)
 else
  laws_szThreadS_l0 p1 FU (w64 (p2 - (p1.length : Int))) 0
theorem laws_szThreadS_m {p1 : (List GThread)} {p2 : Int} {r : Int} (h : laws_szThreadS p1 p2 = some r) : Meets Tryz.prog 64 [(AV.ro 6 (p1.map r178)), (I p2)] (I r) := by
 refine gM Tryz.func64 27 body64 fun E hP hn hx => ?_
 unfold laws_szThreadS at h
 let Z0 := (p1.length : Int); let Z1 := (((p1.map r178).length : Nat) : Int); let Z2 := (decide ((w64 (p2 - Z0)) < 0))
 rcases itS h with ⟨c3, h⟩ | ⟨c4, h⟩
 ·obtain rfl := sj h
  exact gR hP hn [hO 3 (I Z0), hT 8] [] .raw [AV.lit (.int .i64 Z1) = (I Z0), Z2 = true, (I (-1)) = (I (-1)), litA (I (-1)) = true] ⟨(lenM r178), c3, rfl, rfl, trivial⟩
 ·exact gT hP hn hx [hO 3 (I Z0), hF 8] [] [0, 1, 5] [] [AV.lit (.int .i64 Z1) = (I Z0), Z2 = false] ⟨(lenM r178), c4, trivial⟩ (laws_szThreadS_l0_m hP hn hx p1 FU (w64 (p2 - Z0)) 0 _ h)
noncomputable def body18 : Code := match Tryz.f18.body with | some c => c | none => .skip
noncomputable def laws_szState (p1 : GState) (p2 : Int) : Option Int :=
 Option.bind (laws_szThreadS p1.Threads p2) fun r3 =>
 if (decide (r3 < 0)) = true then
  some (-1)
 else
  Option.bind (laws_szFloat64S p1.Cells r3) fun r6 =>
  if (decide (r6 < 0)) = true then
   some (-1)
  else
   Option.bind (laws_szIntS p1.Owner r6) fun r9 =>
   if (decide (r9 < 0)) = true then
    some (-1)
   else
    some r9
theorem laws_szState_m {p1 : GState} {p2 : Int} {r : Int} (h : laws_szState p1 p2 = some r) : Meets Tryz.prog 18 [(AV.agg ((r53 p1))), (I p2)] (I r) := by
 refine gM Tryz.func18 24 body18 fun E hP hn hx => ?_
 unfold laws_szState at h
 obtain ⟨r3, hr3, h⟩ := bnS h
 let Z0 := (I (-1))
 let H1 : List Hn := [hW 0 1001, ⟨5, .callV [] (I r3), none⟩]
 let P2 : List Prop := [Meets Tryz.prog 64 [(AV.ro 6 (p1.Threads.map r178)), (I p2)] (I r3), litA (I r3) = true]
 have AP2 : AllP P2 := ⟨(laws_szThreadS_m hr3), rfl, trivial⟩
 rcases itS h with ⟨c4, h⟩ | ⟨c5, h⟩
 ·obtain rfl := sj h
  exact gR hP hn (H1 ++ [hT 9]) [] .raw (P2 ++ [(decide (r3 < 0)) = true, Z0 = Z0, litA Z0 = true]) (andP AP2 ⟨c4, rfl, rfl, trivial⟩)
 ·obtain ⟨r6, hr6, h⟩ := bnS h
  let H3 : List Hn := H1 ++ [hF 9, ⟨13, .callV [] (I r6), none⟩]
  let P4 : List Prop := P2 ++ [(decide (r3 < 0)) = false, Meets Tryz.prog 65 [(AV.ro 1 (p1.Cells.map o142)), (I r3)] (I r6), litA (I r6) = true]
  have AP4 : AllP P4 := andP AP2 ⟨c5, (laws_szFloat64S_m hr6), rfl, trivial⟩
  rcases itS h with ⟨c7, h⟩ | ⟨c8, h⟩
  ·obtain rfl := sj h
   exact gR hP hn (H3 ++ [hT 17]) [] .raw (P4 ++ [(decide (r6 < 0)) = true, Z0 = Z0, litA Z0 = true]) (andP AP4 ⟨c7, rfl, rfl, trivial⟩)
  ·obtain ⟨r9, hr9, h⟩ := bnS h
   let P5 : List Prop := P4 ++ [(decide (r6 < 0)) = false, Meets Tryz.prog 66 [(AV.ro 1 (p1.Owner.map o3)), (I r6)] (I r9), litA (I r9) = true]
   have AP5 : AllP P5 := andP AP4 ⟨c8, (laws_szIntS_m hr9), rfl, trivial⟩
   rcases itS h with ⟨c10, h⟩ | ⟨c11, h⟩
   ·obtain rfl := sj h
    exact gR hP hn (H3 ++ [hF 17, ⟨21, .callV [] (I r9), none⟩, hT 25]) [] .raw (P5 ++ [(decide (r9 < 0)) = true, Z0 = Z0, litA Z0 = true]) (andP AP5 ⟨c10, rfl, rfl, trivial⟩)
   ·obtain rfl := sj h
    exact gR hP hn (H3 ++ [hF 17, ⟨21, .callV [] (I r9), none⟩, hF 25]) [] .raw (P5 ++ [(decide (r9 < 0)) = false, (I r9) = (I r9), litA (I r9) = true]) (andP AP5 ⟨c11, rfl, rfl, trivial⟩)
noncomputable def body169 : Code := match Tryz.f169.body with | some c => c | none => .skip
noncomputable def laws_toOp (p1 : GOp) : Option GOp :=
 some (GOp.mk p1.Code p1.A p1.B p1.V)
theorem laws_toOp_m {p1 : GOp} {r : GOp} (h : laws_toOp p1 = some r) : Meets Tryz.prog 169 [(AV.agg ((o213 p1)))] (AV.agg (o144 r)) := by
 refine gM Tryz.func169 17 body169 fun E hP hn hx => ?_
 unfold laws_toOp at h
 obtain rfl := sj h
 exact (let Z0 := (AV.agg [(I p1.Code), (I p1.A), (I p1.B), (FK p1.V)]); gR hP hn [hW 0 1001, hW 1 1002, hW 2 1003] [] .raw [Z0 = Z0, litA Z0 = true] ⟨rfl, rfl, trivial⟩)
noncomputable def body125 : Code := match Tryz.f125.body with | some c => c | none => .skip
noncomputable def laws_toOpS_l0  (p1 : (List GOp)) : Nat → (List GOp) → Int → Option (List GOp)
 | 0, _, _ => none
 | n + 1, a3, v4 =>
 if (decide (v4 < (p1.length : Int))) = true then
  Option.bind (rd p1 v4) fun x6 =>
  Option.bind (laws_toOp x6) fun r7 =>
  Option.bind (rd a3 v4) fun x8 =>
  laws_toOpS_l0 p1 n (a3.set (Int.toNat v4) r7) (w64 (v4 + 1))
 else
  some a3
theorem laws_toOpS_l0_m {E : Env} (hP : E.P = Tryz.prog) (hn : E.n = 23) (hx : FX E []) (p1 : (List GOp))  : ∀ (n : Nat) (a3 : (List GOp)) (v4 : Int) (r : (List GOp)), laws_toOpS_l0 p1 n a3 v4 = some r → WAt E body125 (FQ (RetE Θ Tryz.f125.results.toList [] [] (AV.own 144 4 (r.map o144)) E)) [true, true, false, true, false] ⟨[(0, (AV.ro 4 (p1.map o213))), (3, (AV.sl 1 0 (List.length (a3.map o144)))), (4, (I v4))], [(1, some ⟨144, 4, (a3.map o144)⟩)], [1, JJ]⟩ := by
 intro n
 induction n with
 | zero => intro a3 v4 r h; simp only [laws_toOpS_l0] at h; cases h
 | succ n ih =>
  intro a3 v4 r h
  simp only [laws_toOpS_l0] at h
  let Z0 := (I (p1.length : Int)); let Z5 := (((p1.map o213).length : Nat) : Int); let Z6 := (decide (v4 < (p1.length : Int))); let Z7 := (a3.map o144); let Z8 := (List.length Z7)
  rcases itS h with ⟨c5, h⟩ | ⟨c9, h⟩
  ·obtain ⟨x6, hx6, h⟩ := bnS h
   obtain ⟨r7, hr7, h⟩ := bnS h
   obtain ⟨x8, hx8, h⟩ := bnS h
   exact (let Z1 := (AV.agg (o144 r7)); let Z2 := ((o144 x8)); let Z3 := (a3.set (Int.toNat v4) r7); let Z4 := (Z3.map o144); gT hP hn hx [hO 2 Z0, hT 4, ⟨9, .row (o213 x6), none⟩, ⟨11, .callV [[]] Z1, none⟩, ⟨13, .sto Z2 Z4, none⟩, ⟨17, .slen 3 (List.length Z4), none⟩] [(1, 1)] [0, 3, 4] [] [AV.lit (.int .i64 Z5) = Z0, Z6 = true, (0 : Int) ≤ v4, (p1.map o213)[(Int.toNat v4)]? = some (o213 x6), Meets Tryz.prog 169 [(AV.agg ((o213 x6)))] Z1, litA Z1 = true, (0 : Int) ≤ v4, v4 < ((Z8 : Nat) : Int), Z7[(Int.toNat v4)]? = some Z2, Z7.set (Int.toNat v4) (wr Z2 0 ((o144 r7))) = Z4, ((o144 r7)).length = 4, 0 + ((o144 r7)).length ≤ Z2.length, Z8 = (List.length Z4), RenOK [(1, 1)] Z4] ⟨(lenM o213), c5, (rd0 hx6), (rdM o213 hx6), (laws_toOp_m hr7), rfl, (rd0 hx8), (rdL o144 hx8), (rdM o144 hx8), (setMrq o144), rfl, leB, lnq, (rok (treeM t144)), trivial⟩ (ih Z3 (w64 (v4 + 1)) _ h))
  ·obtain rfl := sj h
   exact gR hP hn [hO 2 Z0, hF 4] [] .own [AV.lit (.int .i64 Z5) = Z0, Z6 = false, treeLL (Z7.take Z8) = true, Z7.take Z8 = Z7, noRoLL Z7 = true] ⟨(lenM o213), c9, (treeT t144), takeM, (noRoM n144), trivial⟩
noncomputable def laws_toOpS (p1 : (List GOp)) : Option (List GOp) :=
 Option.bind (mk (GOp.mk 0 0 0 0) (p1.length : Int)) fun l2 =>
 laws_toOpS_l0 p1 FU l2 0
theorem laws_toOpS_m {p1 : (List GOp)} {r : (List GOp)} (h : laws_toOpS p1 = some r) : Meets Tryz.prog 125 [(AV.ro 4 (p1.map o213))] (AV.own 144 4 (r.map o144)) := by
 refine gM Tryz.func125 23 body125 fun E hP hn hx => ?_
 unfold laws_toOpS at h
 obtain ⟨l2, hl2, h⟩ := bnS h
 exact (let Z0 := (p1.length : Int); let Z1 := (l2.map o144); let Z2 := (AV.sl 1001 0 (List.length Z1)); gT hP hn hx [hO 2 (I Z0), ⟨3, .nw 1001 Z1, some Z2⟩] [(1001, 1)] [0, 3, 4] [] [AV.lit (.int .i64 (((p1.map o213).length : Nat) : Int)) = (I Z0), List.replicate (Int.toNat Z0) [.lit (.int .i64 0), .lit (.int .i64 0), .lit (.int .i64 0), .lit (.float .f64 0)] = Z1, AV.sl 1001 0 (Int.toNat Z0) = Z2, Z0 = Z0, (0 : Int) ≤ Z0, Z0 * ((32 : Nat) : Int) ≤ 140737488355328, Z0 ≤ 140737488355328, RenOK [(1001, 1)] Z1] ⟨(lenM o213), (mkM o144 hl2), (mkS o144 hl2), rfl, (mk0 hl2), (mkB hl2 (by decide)), (mkC hl2), (rok (treeM t144)), trivial⟩ (laws_toOpS_l0_m hP hn hx p1 FU l2 0 _ h))
noncomputable def body61 : Code := match Tryz.f61.body with | some c => c | none => .skip
noncomputable def laws_toOpSS_l0  (p1 : (List (List GOp))) : Nat → (List (List GOp)) → Int → Option (List (List GOp))
 | 0, _, _ => none
 | n + 1, a3, v4 =>
 if (decide (v4 < (p1.length : Int))) = true then
  Option.bind (rd p1 v4) fun x6 =>
  Option.bind (laws_toOpS x6) fun r7 =>
  Option.bind (rd a3 v4) fun x8 =>
  laws_toOpSS_l0 p1 n (a3.set (Int.toNat v4) r7) (w64 (v4 + 1))
 else
  some a3
theorem laws_toOpSS_l0_m {E : Env} (hP : E.P = Tryz.prog) (hn : E.n = 23) (hx : FX E []) (p1 : (List (List GOp)))  : ∀ (n : Nat) (a3 : (List (List GOp))) (v4 : Int) (r : (List (List GOp))), laws_toOpSS_l0 p1 n a3 v4 = some r → WAt E body61 (FQ (RetE Θ Tryz.f61.results.toList [] [] (AV.own 141 1 (r.map o141)) E)) [true, true, false, true, false] ⟨[(0, (AV.ro 1 (p1.map r167))), (3, (AV.sl 1 0 (List.length (a3.map o141)))), (4, (I v4))], [(1, some ⟨141, 1, (a3.map o141)⟩)], [1, JJ]⟩ := by
 intro n
 induction n with
 | zero => intro a3 v4 r h; simp only [laws_toOpSS_l0] at h; cases h
 | succ n ih =>
  intro a3 v4 r h
  simp only [laws_toOpSS_l0] at h
  let Z0 := (I (p1.length : Int)); let Z4 := (a3.map o141); let Z9 := (((p1.map r167).length : Nat) : Int); let Z10 := (decide (v4 < (p1.length : Int))); let Z11 := (List.length Z4)
  rcases itS h with ⟨c5, h⟩ | ⟨c9, h⟩
  ·obtain ⟨x6, hx6, h⟩ := bnS h
   obtain ⟨r7, hr7, h⟩ := bnS h
   obtain ⟨x8, hx8, h⟩ := bnS h
   exact (let Z1 := (r7.map o144); let Z2 := (AV.own 144 4 Z1); let Z3 := [(AV.own 144 4 (x8.map o144))]; let Z5 := (AV.sl 1001 0 (List.length Z1)); let Z6 := (Z4.set (Int.toNat v4) [Z5]); let Z7 := (a3.set (Int.toNat v4) r7); let Z8 := (Z7.map o141); gT hP hn hx [hO 2 Z0, hT 4, ⟨9, .row (r167 x6), none⟩, ⟨11, .call [] Z2 [1001], none⟩, ⟨13, .sto Z3 Z6, none⟩, ⟨14, .pack 1 1001 (Int.toNat v4) 0 [Z5] Z8, none⟩, ⟨17, .slen 3 (List.length Z8), none⟩] [(1, 1)] [0, 3, 4] [] [AV.lit (.int .i64 Z9) = Z0, Z10 = true, (0 : Int) ≤ v4, (p1.map r167)[(Int.toNat v4)]? = some (r167 x6), Meets Tryz.prog 125 [(AV.ro 4 (x6.map o213))] Z2, noRo Z2 = true, (0 : Int) ≤ v4, v4 < ((Z11 : Nat) : Int), Z4[(Int.toNat v4)]? = some Z3, Z4.set (Int.toNat v4) (wr Z3 0 [Z5]) = Z6, [Z5].length = 1, 0 + [Z5].length ≤ Z3.length, Z6[(Int.toNat v4)]? = some [Z5], [Z5][0]? = some Z5, treeLL Z1 = true, Z6.set (Int.toNat v4) ([Z5].set 0 Z2) = Z8, Z11 = (List.length Z8), RenOK [(1, 1)] Z8] ⟨(lenM r167), c5, (rd0 hx6), (rdM r167 hx6), (laws_toOpS_m hr7), (by simp +zetaDelta only [noRo, noRoL, noRoM n144, Bool.and_self]), (rd0 hx8), (rdL o141 hx8), (rdM o141 hx8), rfl, rfl, leB, (setE (rdM o141 hx8)), rfl, (treeM t144), (setP o141), lnq, (rok (treeM t141)), trivial⟩ (ih Z7 (w64 (v4 + 1)) _ h))
  ·obtain rfl := sj h
   exact gR hP hn [hO 2 Z0, hF 4] [] .own [AV.lit (.int .i64 Z9) = Z0, Z10 = false, treeLL (Z4.take Z11) = true, Z4.take Z11 = Z4, noRoLL Z4 = true] ⟨(lenM r167), c9, (treeT t141), takeM, (noRoM n141), trivial⟩
noncomputable def laws_toOpSS (p1 : (List (List GOp))) : Option (List (List GOp)) :=
 Option.bind (mk [] (p1.length : Int)) fun l2 =>
 laws_toOpSS_l0 p1 FU l2 0
theorem laws_toOpSS_m {p1 : (List (List GOp))} {r : (List (List GOp))} (h : laws_toOpSS p1 = some r) : Meets Tryz.prog 61 [(AV.ro 1 (p1.map r167))] (AV.own 141 1 (r.map o141)) := by
 refine gM Tryz.func61 23 body61 fun E hP hn hx => ?_
 unfold laws_toOpSS at h
 obtain ⟨l2, hl2, h⟩ := bnS h
 exact (let Z0 := (p1.length : Int); let Z1 := (l2.map o141); let Z2 := (AV.sl 1001 0 (List.length Z1)); gT hP hn hx [hO 2 (I Z0), ⟨3, .nw 1001 (List.replicate (Int.toNat Z0) [AV.lit (.slice none 0 0)]), some Z2⟩, ⟨4, .own0 1001 (Int.toNat Z0) [] [] 144 4 Z1, none⟩] [(1001, 1)] [0, 3, 4] [] [AV.lit (.int .i64 (((p1.map r167).length : Nat) : Int)) = (I Z0), List.replicate (Int.toNat Z0) [.lit (.slice none 0 0)] = (List.replicate (Int.toNat Z0) [AV.lit (.slice none 0 0)]), AV.sl 1001 0 (Int.toNat Z0) = Z2, Z0 = Z0, (0 : Int) ≤ Z0, Z0 * ((24 : Nat) : Int) ≤ 140737488355328, Z0 ≤ 140737488355328, (List.replicate (Int.toNat Z0) [AV.lit (.slice none 0 0)]) = List.replicate (Int.toNat Z0) ([] ++ AV.lit (.slice none 0 0) :: []), List.replicate (Int.toNat Z0) ([] ++ AV.own 144 4 [] :: []) = Z1, RenOK [(1001, 1)] Z1] ⟨(lenM r167), rfl, (mkS o141 hl2), rfl, (mk0 hl2), (mkB hl2 (by decide)), (mkC hl2), rfl, (mkM o141 hl2), (rok (treeM t141)), trivial⟩ (laws_toOpSS_l0_m hP hn hx p1 FU l2 0 _ h))
noncomputable def body15 : Code := match Tryz.f15.body with | some c => c | none => .skip
noncomputable def laws_toProg (p1 : GProg) : Option GProg :=
 Option.bind (laws_toOpSS p1.Routines) fun r2 =>
 some (GProg.mk p1.Cells p1.Locks p1.Conds r2)
theorem laws_toProg_m {p1 : GProg} {r : GProg} (h : laws_toProg p1 = some r) : Meets Tryz.prog 15 [(AV.agg ((r24 p1)))] (AV.agg (o34 r)) := by
 refine gM Tryz.func15 18 body15 fun E hP hn hx => ?_
 unfold laws_toProg at h
 obtain ⟨r2, hr2, h⟩ := bnS h
 obtain rfl := sj h
 exact (let Z0 := (r2.map o141); let Z1 := (AV.own 141 1 Z0); gR hP hn [hW 0 1001, hW 1 1002, hW 2 1003, ⟨17, .call [] Z1 [1004], none⟩] [] (.agg [.raw, .raw, .raw, .own]) [Meets Tryz.prog 61 [(AV.ro 1 (p1.Routines.map r167))] Z1, noRo Z1 = true, (I p1.Cells) = (I p1.Cells), litA (I p1.Cells) = true, (I p1.Locks) = (I p1.Locks), litA (I p1.Locks) = true, (I p1.Conds) = (I p1.Conds), litA (I p1.Conds) = true, treeLL (Z0.take (List.length Z0)) = true, Z0.take (List.length Z0) = Z0, noRoLL Z0 = true] ⟨(laws_toOpSS_m hr2), (by simp +zetaDelta only [noRo, noRoL, noRoM n141, Bool.and_self]), rfl, rfl, rfl, rfl, rfl, rfl, (treeT t141), takeM, (noRoM n141), trivial⟩)
noncomputable def body72 : Code := match Tryz.f72.body with | some c => c | none => .skip
noncomputable def laws_toFloat64S_l0  (p1 : (List Nat)) : Nat → (List Nat) → Int → Option (List Nat)
 | 0, _, _ => none
 | n + 1, a3, v4 =>
 if (decide (v4 < (p1.length : Int))) = true then
  Option.bind (rd p1 v4) fun x6 =>
  Option.bind (rd a3 v4) fun x7 =>
  laws_toFloat64S_l0 p1 n (a3.set (Int.toNat v4) x6) (w64 (v4 + 1))
 else
  some a3
theorem laws_toFloat64S_l0_m {E : Env} (hP : E.P = Tryz.prog) (hn : E.n = 22) (hx : FX E []) (p1 : (List Nat))  : ∀ (n : Nat) (a3 : (List Nat)) (v4 : Int) (r : (List Nat)), laws_toFloat64S_l0 p1 n a3 v4 = some r → WAt E body72 (FQ (RetE Θ Tryz.f72.results.toList [] [] (AV.own 142 1 (r.map o142)) E)) [true, true, false, true, false] ⟨[(0, (AV.ro 1 (p1.map o142))), (3, (AV.sl 1 0 (List.length (a3.map o142)))), (4, (I v4))], [(1, some ⟨142, 1, (a3.map o142)⟩)], [1, JJ]⟩ := by
 intro n
 induction n with
 | zero => intro a3 v4 r h; simp only [laws_toFloat64S_l0] at h; cases h
 | succ n ih =>
  intro a3 v4 r h
  simp only [laws_toFloat64S_l0] at h
  let Z0 := (I (p1.length : Int)); let Z3 := (((p1.map o142).length : Nat) : Int); let Z4 := (decide (v4 < (p1.length : Int))); let Z5 := (a3.map o142); let Z6 := (List.length Z5)
  rcases itS h with ⟨c5, h⟩ | ⟨c8, h⟩
  ·obtain ⟨x6, hx6, h⟩ := bnS h
   obtain ⟨x7, hx7, h⟩ := bnS h
   exact (let Z1 := (a3.set (Int.toNat v4) x6); let Z2 := (Z1.map o142); gT hP hn hx [hO 2 Z0, hT 4, ⟨9, .row (o142 x6), none⟩, ⟨12, .sto [(FK x7)] Z2, none⟩, ⟨16, .slen 3 (List.length Z2), none⟩] [(1, 1)] [0, 3, 4] [] [AV.lit (.int .i64 Z3) = Z0, Z4 = true, (0 : Int) ≤ v4, (p1.map o142)[(Int.toNat v4)]? = some (o142 x6), (0 : Int) ≤ v4, v4 < ((Z6 : Nat) : Int), Z5[(Int.toNat v4)]? = some [(FK x7)], Z5.set (Int.toNat v4) (wr [(FK x7)] 0 [(FK x6)]) = Z2, [(FK x6)].length = 1, 0 + [(FK x6)].length ≤ [(FK x7)].length, Z6 = (List.length Z2), RenOK [(1, 1)] Z2] ⟨(lenM o142), c5, (rd0 hx6), (rdM o142 hx6), (rd0 hx7), (rdL o142 hx7), (rdM o142 hx7), (setM o142), rfl, leB, lnq, (rok (treeM t142)), trivial⟩ (ih Z1 (w64 (v4 + 1)) _ h))
  ·obtain rfl := sj h
   exact gR hP hn [hO 2 Z0, hF 4] [] .own [AV.lit (.int .i64 Z3) = Z0, Z4 = false, treeLL (Z5.take Z6) = true, Z5.take Z6 = Z5, noRoLL Z5 = true] ⟨(lenM o142), c8, (treeT t142), takeM, (noRoM n142), trivial⟩
noncomputable def laws_toFloat64S (p1 : (List Nat)) : Option (List Nat) :=
 Option.bind (mk 0 (p1.length : Int)) fun l2 =>
 laws_toFloat64S_l0 p1 FU l2 0
theorem laws_toFloat64S_m {p1 : (List Nat)} {r : (List Nat)} (h : laws_toFloat64S p1 = some r) : Meets Tryz.prog 72 [(AV.ro 1 (p1.map o142))] (AV.own 142 1 (r.map o142)) := by
 refine gM Tryz.func72 22 body72 fun E hP hn hx => ?_
 unfold laws_toFloat64S at h
 obtain ⟨l2, hl2, h⟩ := bnS h
 exact (let Z0 := (p1.length : Int); let Z1 := (l2.map o142); let Z2 := (AV.sl 1001 0 (List.length Z1)); gT hP hn hx [hO 2 (I Z0), ⟨3, .nw 1001 Z1, some Z2⟩] [(1001, 1)] [0, 3, 4] [] [AV.lit (.int .i64 (((p1.map o142).length : Nat) : Int)) = (I Z0), List.replicate (Int.toNat Z0) [.lit (.float .f64 0)] = Z1, AV.sl 1001 0 (Int.toNat Z0) = Z2, Z0 = Z0, (0 : Int) ≤ Z0, Z0 * ((8 : Nat) : Int) ≤ 140737488355328, Z0 ≤ 140737488355328, RenOK [(1001, 1)] Z1] ⟨(lenM o142), (mkM o142 hl2), (mkS o142 hl2), rfl, (mk0 hl2), (mkB hl2 (by decide)), (mkC hl2), (rok (treeM t142)), trivial⟩ (laws_toFloat64S_l0_m hP hn hx p1 FU l2 0 _ h))
noncomputable def body28 : Code := match Tryz.f28.body with | some c => c | none => .skip
noncomputable def laws_toIntS_l0  (p1 : (List Int)) : Nat → (List Int) → Int → Option (List Int)
 | 0, _, _ => none
 | n + 1, a3, v4 =>
 if (decide (v4 < (p1.length : Int))) = true then
  Option.bind (rd p1 v4) fun x6 =>
  Option.bind (rd a3 v4) fun x7 =>
  laws_toIntS_l0 p1 n (a3.set (Int.toNat v4) x6) (w64 (v4 + 1))
 else
  some a3
theorem laws_toIntS_l0_m {E : Env} (hP : E.P = Tryz.prog) (hn : E.n = 22) (hx : FX E []) (p1 : (List Int))  : ∀ (n : Nat) (a3 : (List Int)) (v4 : Int) (r : (List Int)), laws_toIntS_l0 p1 n a3 v4 = some r → WAt E body28 (FQ (RetE Θ Tryz.f28.results.toList [] [] (AV.own 3 1 (r.map o3)) E)) [true, true, false, true, false] ⟨[(0, (AV.ro 1 (p1.map o3))), (3, (AV.sl 1 0 (List.length (a3.map o3)))), (4, (I v4))], [(1, some ⟨3, 1, (a3.map o3)⟩)], [1, JJ]⟩ := by
 intro n
 induction n with
 | zero => intro a3 v4 r h; simp only [laws_toIntS_l0] at h; cases h
 | succ n ih =>
  intro a3 v4 r h
  simp only [laws_toIntS_l0] at h
  let Z0 := (I (p1.length : Int)); let Z3 := (((p1.map o3).length : Nat) : Int); let Z4 := (decide (v4 < (p1.length : Int))); let Z5 := (a3.map o3); let Z6 := (List.length Z5)
  rcases itS h with ⟨c5, h⟩ | ⟨c8, h⟩
  ·obtain ⟨x6, hx6, h⟩ := bnS h
   obtain ⟨x7, hx7, h⟩ := bnS h
   exact (let Z1 := (a3.set (Int.toNat v4) x6); let Z2 := (Z1.map o3); gT hP hn hx [hO 2 Z0, hT 4, ⟨9, .row (o3 x6), none⟩, ⟨12, .sto [(I x7)] Z2, none⟩, ⟨16, .slen 3 (List.length Z2), none⟩] [(1, 1)] [0, 3, 4] [] [AV.lit (.int .i64 Z3) = Z0, Z4 = true, (0 : Int) ≤ v4, (p1.map o3)[(Int.toNat v4)]? = some (o3 x6), (0 : Int) ≤ v4, v4 < ((Z6 : Nat) : Int), Z5[(Int.toNat v4)]? = some [(I x7)], Z5.set (Int.toNat v4) (wr [(I x7)] 0 [(I x6)]) = Z2, [(I x6)].length = 1, 0 + [(I x6)].length ≤ [(I x7)].length, Z6 = (List.length Z2), RenOK [(1, 1)] Z2] ⟨(lenM o3), c5, (rd0 hx6), (rdM o3 hx6), (rd0 hx7), (rdL o3 hx7), (rdM o3 hx7), (setM o3), rfl, leB, lnq, (rok (treeM t3)), trivial⟩ (ih Z1 (w64 (v4 + 1)) _ h))
  ·obtain rfl := sj h
   exact gR hP hn [hO 2 Z0, hF 4] [] .own [AV.lit (.int .i64 Z3) = Z0, Z4 = false, treeLL (Z5.take Z6) = true, Z5.take Z6 = Z5, noRoLL Z5 = true] ⟨(lenM o3), c8, (treeT t3), takeM, (noRoM n3), trivial⟩
noncomputable def laws_toIntS (p1 : (List Int)) : Option (List Int) :=
 Option.bind (mk 0 (p1.length : Int)) fun l2 =>
 laws_toIntS_l0 p1 FU l2 0
theorem laws_toIntS_m {p1 : (List Int)} {r : (List Int)} (h : laws_toIntS p1 = some r) : Meets Tryz.prog 28 [(AV.ro 1 (p1.map o3))] (AV.own 3 1 (r.map o3)) := by
 refine gM Tryz.func28 22 body28 fun E hP hn hx => ?_
 unfold laws_toIntS at h
 obtain ⟨l2, hl2, h⟩ := bnS h
 exact (let Z0 := (p1.length : Int); let Z1 := (l2.map o3); let Z2 := (AV.sl 1001 0 (List.length Z1)); gT hP hn hx [hO 2 (I Z0), ⟨3, .nw 1001 Z1, some Z2⟩] [(1001, 1)] [0, 3, 4] [] [AV.lit (.int .i64 (((p1.map o3).length : Nat) : Int)) = (I Z0), List.replicate (Int.toNat Z0) [.lit (.int .i64 0)] = Z1, AV.sl 1001 0 (Int.toNat Z0) = Z2, Z0 = Z0, (0 : Int) ≤ Z0, Z0 * ((8 : Nat) : Int) ≤ 140737488355328, Z0 ≤ 140737488355328, RenOK [(1001, 1)] Z1] ⟨(lenM o3), (mkM o3 hl2), (mkS o3 hl2), rfl, (mk0 hl2), (mkB hl2 (by decide)), (mkC hl2), (rok (treeM t3)), trivial⟩ (laws_toIntS_l0_m hP hn hx p1 FU l2 0 _ h))
noncomputable def body137 : Code := match Tryz.f137.body with | some c => c | none => .skip
noncomputable def laws_toThread (p1 : GThread) : Option GThread :=
 Option.bind (laws_toFloat64S p1.Stack) fun r2 =>
 some (GThread.mk p1.Routine p1.Pc p1.State p1.Cond p1.Lock r2)
theorem laws_toThread_m {p1 : GThread} {r : GThread} (h : laws_toThread p1 = some r) : Meets Tryz.prog 137 [(AV.agg ((r178 p1)))] (AV.agg (o179 r)) := by
 refine gM Tryz.func137 24 body137 fun E hP hn hx => ?_
 unfold laws_toThread at h
 obtain ⟨r2, hr2, h⟩ := bnS h
 obtain rfl := sj h
 exact (let Z0 := (r2.map o142); let Z1 := (AV.own 142 1 Z0); let Z2 := (I p1.Routine); gR hP hn [hW 0 1001, hW 1 1002, hW 2 1003, ⟨25, .call [] Z1 [1004], none⟩] [] (.agg [.raw, .raw, .raw, .raw, .raw, .own]) [Meets Tryz.prog 72 [(AV.ro 1 (p1.Stack.map o142))] Z1, noRo Z1 = true, Z2 = Z2, litA Z2 = true, (I p1.Pc) = (I p1.Pc), litA (I p1.Pc) = true, (I p1.State) = (I p1.State), litA (I p1.State) = true, (I p1.Cond) = (I p1.Cond), litA (I p1.Cond) = true, (I p1.Lock) = (I p1.Lock), litA (I p1.Lock) = true, treeLL (Z0.take (List.length Z0)) = true, Z0.take (List.length Z0) = Z0, noRoLL Z0 = true] ⟨(laws_toFloat64S_m hr2), (by simp +zetaDelta only [noRo, noRoL, noRoM n142, Bool.and_self]), rfl, rfl, rfl, rfl, rfl, rfl, rfl, rfl, rfl, rfl, (treeT t142), takeM, (noRoM n142), trivial⟩)
noncomputable def body71 : Code := match Tryz.f71.body with | some c => c | none => .skip
noncomputable def laws_toThreadS_l0  (p1 : (List GThread)) : Nat → (List GThread) → Int → Option (List GThread)
 | 0, _, _ => none
 | n + 1, a3, v4 =>
 if (decide (v4 < (p1.length : Int))) = true then
  Option.bind (rd p1 v4) fun x6 =>
  Option.bind (laws_toThread x6) fun r7 =>
  Option.bind (rd a3 v4) fun x8 =>
  laws_toThreadS_l0 p1 n (a3.set (Int.toNat v4) (GThread.mk r7.Routine r7.Pc r7.State r7.Cond r7.Lock r7.Stack)) (w64 (v4 + 1))
 else
  some a3
theorem laws_toThreadS_l0_m {E : Env} (hP : E.P = Tryz.prog) (hn : E.n = 23) (hx : FX E []) (p1 : (List GThread))  : ∀ (n : Nat) (a3 : (List GThread)) (v4 : Int) (r : (List GThread)), laws_toThreadS_l0 p1 n a3 v4 = some r → WAt E body71 (FQ (RetE Θ Tryz.f71.results.toList [] [] (AV.own 179 6 (r.map o179)) E)) [true, true, false, true, false] ⟨[(0, (AV.ro 6 (p1.map r178))), (3, (AV.sl 1 0 (List.length (a3.map o179)))), (4, (I v4))], [(1, some ⟨179, 6, (a3.map o179)⟩)], [1, JJ]⟩ := by
 intro n
 induction n with
 | zero => intro a3 v4 r h; simp only [laws_toThreadS_l0] at h; cases h
 | succ n ih =>
  intro a3 v4 r h
  simp only [laws_toThreadS_l0] at h
  let Z0 := (I (p1.length : Int)); let Z3 := (a3.map o179); let Z10 := (((p1.map r178).length : Nat) : Int); let Z11 := (decide (v4 < (p1.length : Int))); let Z12 := (List.length Z3)
  rcases itS h with ⟨c5, h⟩ | ⟨c9, h⟩
  ·obtain ⟨x6, hx6, h⟩ := bnS h
   obtain ⟨r7, hr7, h⟩ := bnS h
   obtain ⟨x8, hx8, h⟩ := bnS h
   exact (let Z1 := (AV.agg (o179 r7)); let Z2 := ((o179 x8)); let Z4 := (r7.Stack.map o142); let Z5 := (AV.sl 1001 0 (List.length Z4)); let Z6 := [(I r7.Routine), (I r7.Pc), (I r7.State), (I r7.Cond), (I r7.Lock), Z5]; let Z7 := (Z3.set (Int.toNat v4) Z6); let Z8 := (a3.set (Int.toNat v4) (GThread.mk r7.Routine r7.Pc r7.State r7.Cond r7.Lock r7.Stack)); let Z9 := (Z8.map o179); gT hP hn hx [hO 2 Z0, hT 4, ⟨9, .row (r178 x6), none⟩, ⟨11, .call [[]] Z1 [1001], none⟩, ⟨13, .sto Z2 Z7, none⟩, ⟨14, .pack 1 1001 (Int.toNat v4) 5 Z6 Z9, none⟩, ⟨17, .slen 3 (List.length Z9), none⟩] [(1, 1)] [0, 3, 4] [] [AV.lit (.int .i64 Z10) = Z0, Z11 = true, (0 : Int) ≤ v4, (p1.map r178)[(Int.toNat v4)]? = some (r178 x6), Meets Tryz.prog 137 [(AV.agg ((r178 x6)))] Z1, noRo Z1 = true, (0 : Int) ≤ v4, v4 < ((Z12 : Nat) : Int), Z3[(Int.toNat v4)]? = some Z2, Z3.set (Int.toNat v4) (wr Z2 0 Z6) = Z7, Z6.length = 6, 0 + Z6.length ≤ Z2.length, Z7[(Int.toNat v4)]? = some Z6, Z6[5]? = some Z5, treeLL Z4 = true, Z7.set (Int.toNat v4) (Z6.set 5 (AV.own 142 1 Z4)) = Z9, Z12 = (List.length Z9), RenOK [(1, 1)] Z9] ⟨(lenM r178), c5, (rd0 hx6), (rdM r178 hx6), (laws_toThread_m hr7), (by simp +zetaDelta only [noRo, noRoL, noRoM n142, o179, Bool.and_self]), (rd0 hx8), (rdL o179 hx8), (rdM o179 hx8), rfl, rfl, leB, (setE (rdM o179 hx8)), rfl, (treeM t142), (setPe o179 (y := (GThread.mk r7.Routine r7.Pc r7.State r7.Cond r7.Lock r7.Stack)) rfl), lnq, (rok (treeM t179)), trivial⟩ (ih Z8 (w64 (v4 + 1)) _ h))
  ·obtain rfl := sj h
   exact gR hP hn [hO 2 Z0, hF 4] [] .own [AV.lit (.int .i64 Z10) = Z0, Z11 = false, treeLL (Z3.take Z12) = true, Z3.take Z12 = Z3, noRoLL Z3 = true] ⟨(lenM r178), c9, (treeT t179), takeM, (noRoM n179), trivial⟩
noncomputable def laws_toThreadS (p1 : (List GThread)) : Option (List GThread) :=
 Option.bind (mk (GThread.mk 0 0 0 0 0 []) (p1.length : Int)) fun l2 =>
 laws_toThreadS_l0 p1 FU l2 0
theorem laws_toThreadS_m {p1 : (List GThread)} {r : (List GThread)} (h : laws_toThreadS p1 = some r) : Meets Tryz.prog 71 [(AV.ro 6 (p1.map r178))] (AV.own 179 6 (r.map o179)) := by
 refine gM Tryz.func71 23 body71 fun E hP hn hx => ?_
 unfold laws_toThreadS at h
 obtain ⟨l2, hl2, h⟩ := bnS h
 exact (let Z0 := (p1.length : Int); let Z1 := (l2.map o179); let Z2 := (AV.sl 1001 0 (List.length Z1)); gT hP hn hx [hO 2 (I Z0), ⟨3, .nw 1001 (List.replicate (Int.toNat Z0) [AV.lit (.int .i64 0), AV.lit (.int .i64 0), AV.lit (.int .i64 0), AV.lit (.int .i64 0), AV.lit (.int .i64 0), AV.lit (.slice none 0 0)]), some Z2⟩, ⟨4, .own0 1001 (Int.toNat Z0) [AV.lit (.int .i64 0), AV.lit (.int .i64 0), AV.lit (.int .i64 0), AV.lit (.int .i64 0), AV.lit (.int .i64 0)] [] 142 1 Z1, none⟩] [(1001, 1)] [0, 3, 4] [] [AV.lit (.int .i64 (((p1.map r178).length : Nat) : Int)) = (I Z0), List.replicate (Int.toNat Z0) [.lit (.int .i64 0), .lit (.int .i64 0), .lit (.int .i64 0), .lit (.int .i64 0), .lit (.int .i64 0), .lit (.slice none 0 0)] = (List.replicate (Int.toNat Z0) [AV.lit (.int .i64 0), AV.lit (.int .i64 0), AV.lit (.int .i64 0), AV.lit (.int .i64 0), AV.lit (.int .i64 0), AV.lit (.slice none 0 0)]), AV.sl 1001 0 (Int.toNat Z0) = Z2, Z0 = Z0, (0 : Int) ≤ Z0, Z0 * ((64 : Nat) : Int) ≤ 140737488355328, Z0 ≤ 140737488355328, (List.replicate (Int.toNat Z0) [AV.lit (.int .i64 0), AV.lit (.int .i64 0), AV.lit (.int .i64 0), AV.lit (.int .i64 0), AV.lit (.int .i64 0), AV.lit (.slice none 0 0)]) = List.replicate (Int.toNat Z0) ([AV.lit (.int .i64 0), AV.lit (.int .i64 0), AV.lit (.int .i64 0), AV.lit (.int .i64 0), AV.lit (.int .i64 0)] ++ AV.lit (.slice none 0 0) :: []), List.replicate (Int.toNat Z0) ([AV.lit (.int .i64 0), AV.lit (.int .i64 0), AV.lit (.int .i64 0), AV.lit (.int .i64 0), AV.lit (.int .i64 0)] ++ AV.own 142 1 [] :: []) = Z1, RenOK [(1001, 1)] Z1] ⟨(lenM r178), rfl, (mkS o179 hl2), rfl, (mk0 hl2), (mkB hl2 (by decide)), (mkC hl2), rfl, (mkM o179 hl2), (rok (treeM t179)), trivial⟩ (laws_toThreadS_l0_m hP hn hx p1 FU l2 0 _ h))
noncomputable def body20 : Code := match Tryz.f20.body with | some c => c | none => .skip
noncomputable def laws_toState (p1 : GState) : Option GState :=
 Option.bind (laws_toThreadS p1.Threads) fun r2 =>
 Option.bind (laws_toFloat64S p1.Cells) fun r3 =>
 Option.bind (laws_toIntS p1.Owner) fun r4 =>
 some (GState.mk r2 r3 r4 p1.Fault)
theorem laws_toState_m {p1 : GState} {r : GState} (h : laws_toState p1 = some r) : Meets Tryz.prog 20 [(AV.agg ((r53 p1)))] (AV.agg (o57 r)) := by
 refine gM Tryz.func20 20 body20 fun E hP hn hx => ?_
 unfold laws_toState at h
 obtain ⟨r2, hr2, h⟩ := bnS h
 obtain ⟨r3, hr3, h⟩ := bnS h
 obtain ⟨r4, hr4, h⟩ := bnS h
 obtain rfl := sj h
 exact (let Z0 := (r2.map o179); let Z1 := (AV.own 179 6 Z0); let Z2 := (r3.map o142); let Z3 := (AV.own 142 1 Z2); let Z4 := (r4.map o3); let Z5 := (AV.own 3 1 Z4); gR hP hn [hW 0 1001, hW 1 1002, hW 2 1003, ⟨5, .call [] Z1 [1004], none⟩, ⟨10, .call [] Z3 [1005], none⟩, ⟨15, .call [] Z5 [1006], none⟩] [] (.agg [.own, .own, .own, .raw]) [Meets Tryz.prog 71 [(AV.ro 6 (p1.Threads.map r178))] Z1, noRo Z1 = true, Meets Tryz.prog 72 [(AV.ro 1 (p1.Cells.map o142))] Z3, noRo Z3 = true, Meets Tryz.prog 28 [(AV.ro 1 (p1.Owner.map o3))] Z5, noRo Z5 = true, treeLL (Z0.take (List.length Z0)) = true, Z0.take (List.length Z0) = Z0, noRoLL Z0 = true, treeLL (Z2.take (List.length Z2)) = true, Z2.take (List.length Z2) = Z2, noRoLL Z2 = true, treeLL (Z4.take (List.length Z4)) = true, Z4.take (List.length Z4) = Z4, noRoLL Z4 = true, (I p1.Fault) = (I p1.Fault), litA (I p1.Fault) = true] ⟨(laws_toThreadS_m hr2), (by simp +zetaDelta only [noRo, noRoL, noRoM n179, Bool.and_self]), (laws_toFloat64S_m hr3), (by simp +zetaDelta only [noRo, noRoL, noRoM n142, Bool.and_self]), (laws_toIntS_m hr4), (by simp +zetaDelta only [noRo, noRoL, noRoM n3, Bool.and_self]), (treeT t179), takeM, (noRoM n179), (treeT t142), takeM, (noRoM n142), (treeT t3), takeM, (noRoM n3), rfl, rfl, trivial⟩)
noncomputable def body44 : Code := match Tryz.f44.body with | some c => c | none => .skip
noncomputable def spec_l1In (p1 : Int) (p2 : Int) (p3 : Int) : Option Bool :=
 if (decide (p1 ≥ p2)) = true then
  some (decide (p1 ≤ p3))
 else
  some false
theorem spec_l1In_m {p1 : Int} {p2 : Int} {p3 : Int} {r : Bool} (h : spec_l1In p1 p2 p3 = some r) : Meets Tryz.prog 44 [(I p1), (I p2), (I p3)] (B r) := by
 refine gM Tryz.func44 15 body44 fun E hP hn hx => ?_
 unfold spec_l1In at h
 let Z0 := (B (decide (p1 ≥ p2))); let Z1 := (B (decide (p1 ≤ p3))); let Z2 := (B false)
 rcases itS h with ⟨c4, h⟩ | ⟨c5, h⟩
 ·obtain rfl := sj h
  exact gR hP hn [hO 4 (B true)] [] .raw [Z0 = (B true), Z1 = Z1, litA Z1 = true] ⟨(litB c4), rfl, rfl, trivial⟩
 ·obtain rfl := sj h
  exact gR hP hn [hO 4 Z2] [] .raw [Z0 = Z2, Z2 = Z2, litA Z2 = true] ⟨(litB c5), rfl, rfl, trivial⟩
noncomputable def body207 : Code := match Tryz.f207.body with | some c => c | none => .skip
noncomputable def spec_IsMinus (p1 : Nat) : Option Bool :=
 if ((fcmp p1 0) == some .lt) = true then
  some true
 else
  if ((fcmp p1 0) == some .eq) = true then
   some ((fcmp (fdv 4607182418800017408 p1) 0) == some .lt)
  else
   some false
theorem spec_IsMinus_m {p1 : Nat} {r : Bool} (h : spec_IsMinus p1 = some r) : Meets Tryz.prog 207 [(FK p1)] (B r) := by
 refine gM Tryz.func207 14 body207 fun E hP hn hx => ?_
 unfold spec_IsMinus at h
 let Z0 := (fcmp p1 0); let Z1 := (B true); let Z2 := (B false); let Z3 := (fdv 4607182418800017408 p1); let Z4 := (fcmp Z3 0)
 let H1 : List Hn := [⟨2, .bin (B (Z0 == some .lt)), none⟩]
 let P2 : List Prop := [BinS Tryz.prog .lss 142 (FK p1) (FK 0) (B (Z0 == some .lt))]
 have AP2 : AllP P2 := ⟨fLss, trivial⟩
 rcases itS h with ⟨c2, h⟩ | ⟨c3, h⟩
 ·obtain rfl := sj h
  exact gR hP hn (H1 ++ [hO 3 Z1]) [] .raw (P2 ++ [(B (Z0 == some .lt)) = Z1, Z1 = Z1, litA Z1 = true]) (andP AP2 ⟨(litB c2), rfl, rfl, trivial⟩)
 ·let P3 : List Prop := P2 ++ [(B (Z0 == some .lt)) = Z2, BinS Tryz.prog .eql 142 (FK p1) (FK 0) (B (Z0 == some .eq))]
  have AP3 : AllP P3 := andP AP2 ⟨(litB c3), fEql, trivial⟩
  rcases itS h with ⟨c4, h⟩ | ⟨c5, h⟩
  ·obtain rfl := sj h
   exact gR hP hn (H1 ++ [hO 3 Z2, ⟨5, .bin (B (Z0 == some .eq)), none⟩, hO 6 Z1, ⟨8, .bin (FK Z3), none⟩, ⟨9, .bin (B (Z4 == some .lt)), none⟩]) [] .raw (P3 ++ [(B (Z0 == some .eq)) = Z1, BinS Tryz.prog .quo 142 (FK 4607182418800017408) (FK p1) (FK Z3), BinS Tryz.prog .lss 142 (FK Z3) (FK 0) (B (Z4 == some .lt)), (B (Z4 == some .lt)) = (B (Z4 == some .lt)), litA (B (Z4 == some .lt)) = true]) (andP AP3 ⟨(litB c4), fQuo, fLss, rfl, rfl, trivial⟩)
  ·obtain rfl := sj h
   exact gR hP hn (H1 ++ [hO 3 Z2, ⟨5, .bin (B (Z0 == some .eq)), none⟩, hO 6 Z2]) [] .raw (P3 ++ [(B (Z0 == some .eq)) = Z2, Z2 = Z2, litA Z2 = true]) (andP AP3 ⟨(litB c5), rfl, rfl, trivial⟩)
noncomputable def body180 : Code := match Tryz.f180.body with | some c => c | none => .skip
noncomputable def spec_l1Nan (p1 : Nat) : Option Bool :=
 some ((fcmp p1 p1) != some .eq)
theorem spec_l1Nan_m {p1 : Nat} {r : Bool} (h : spec_l1Nan p1 = some r) : Meets Tryz.prog 180 [(FK p1)] (B r) := by
 refine gM Tryz.func180 6 body180 fun E hP hn hx => ?_
 unfold spec_l1Nan at h
 obtain rfl := sj h
 exact (let Z0 := (fcmp p1 p1); gR hP hn [⟨3, .bin (B (Z0 != some .eq)), none⟩] [] .raw [BinS Tryz.prog .neq 142 (FK p1) (FK p1) (B (Z0 != some .eq)), (B (Z0 != some .eq)) = (B (Z0 != some .eq)), litA (B (Z0 != some .eq)) = true] ⟨fNeq, rfl, rfl, trivial⟩)
noncomputable def body191 : Code := match Tryz.f191.body with | some c => c | none => .skip
noncomputable def spec_l1SameNum_j0  (p1 : Nat) (p2 : Nat)  : Option Bool :=
 if ((fcmp p1 p2) == some .eq) = true then
  Option.bind (spec_IsMinus p1) fun r18 =>
  Option.bind (spec_IsMinus p2) fun r19 =>
  some (r18 == r19)
 else
  some false
theorem spec_l1SameNum_j0_m {E : Env} (hP : E.P = Tryz.prog) (hn : E.n = 27) (hx : FX E []) (p1 : Nat) (p2 : Nat)   (r : Bool) (h : spec_l1SameNum_j0 p1 p2  = some r) : WAt E body191 (FQ (RetE Θ Tryz.f191.results.toList [] [] (B r) E)) [true, false, true, true] ⟨[(0, (FK p1)), (1, (FK p2))], [], [JJ]⟩ := by
 unfold spec_l1SameNum_j0 at h
 let Z0 := (fcmp p1 p2); let Z2 := (B false)
 rcases itS h with ⟨c17, h⟩ | ⟨c20, h⟩
 ·obtain ⟨r18, hr18, h⟩ := bnS h
  obtain ⟨r19, hr19, h⟩ := bnS h
  obtain rfl := sj h
  exact (let Z1 := (B (r18 == r19)); gR hP hn [⟨2, .bin (B (Z0 == some .eq)), none⟩, hO 3 (B true), ⟨5, .callV [] (B r18), none⟩, ⟨7, .callV [] (B r19), none⟩] [] .raw [BinS Tryz.prog .eql 142 (FK p1) (FK p2) (B (Z0 == some .eq)), (B (Z0 == some .eq)) = (B true), Meets Tryz.prog 207 [(FK p1)] (B r18), litA (B r18) = true, Meets Tryz.prog 207 [(FK p2)] (B r19), litA (B r19) = true, Z1 = Z1, litA Z1 = true] ⟨fEql, (litB c17), (spec_IsMinus_m hr18), rfl, (spec_IsMinus_m hr19), rfl, rfl, rfl, trivial⟩)
 ·obtain rfl := sj h
  exact gR hP hn [⟨2, .bin (B (Z0 == some .eq)), none⟩, hO 3 Z2] [] .raw [BinS Tryz.prog .eql 142 (FK p1) (FK p2) (B (Z0 == some .eq)), (B (Z0 == some .eq)) = Z2, Z2 = Z2, litA Z2 = true] ⟨fEql, (litB c20), rfl, rfl, trivial⟩
noncomputable def spec_l1SameNum (p1 : Nat) (p2 : Nat) : Option Bool :=
 Option.bind (spec_l1Nan p1) fun r3 =>
 if r3 = true then
  Option.bind (spec_l1Nan p1) fun r5 =>
  if r5 = true then
   Option.bind (spec_l1Nan p2) fun r7 =>
   some r7
  else
   some false
 else
  Option.bind (spec_l1Nan p2) fun r10 =>
  if r10 = true then
   Option.bind (spec_l1Nan p1) fun r12 =>
   if r12 = true then
    Option.bind (spec_l1Nan p2) fun r14 =>
    some r14
   else
    some false
  else
   spec_l1SameNum_j0 p1 p2
theorem spec_l1SameNum_m {p1 : Nat} {p2 : Nat} {r : Bool} (h : spec_l1SameNum p1 p2 = some r) : Meets Tryz.prog 191 [(FK p1), (FK p2)] (B r) := by
 refine gM Tryz.func191 27 body191 fun E hP hn hx => ?_
 unfold spec_l1SameNum at h
 obtain ⟨r3, hr3, h⟩ := bnS h
 let Z0 := (B true); let Z1 := (B false)
 let H1 : List Hn := [⟨2, .callV [] (B r3), none⟩]
 let P2 : List Prop := [Meets Tryz.prog 180 [(FK p1)] (B r3), litA (B r3) = true]
 have AP2 : AllP P2 := ⟨(spec_l1Nan_m hr3), rfl, trivial⟩
 rcases itS h with ⟨c4, h⟩ | ⟨c9, h⟩
 ·obtain ⟨r5, hr5, h⟩ := bnS h
  let P3 : List Prop := P2 ++ [(B r3) = Z0, Meets Tryz.prog 180 [(FK p1)] (B r5), litA (B r5) = true]
  have AP3 : AllP P3 := andP AP2 ⟨(litB c4), (spec_l1Nan_m hr5), rfl, trivial⟩
  rcases itS h with ⟨c6, h⟩ | ⟨c8, h⟩
  ·obtain ⟨r7, hr7, h⟩ := bnS h
   obtain rfl := sj h
   exact gR hP hn (H1 ++ [hO 3 Z0, ⟨9, .callV [] (B r5), none⟩, hO 10 Z0, ⟨12, .callV [] (B r7), none⟩]) [] .raw (P3 ++ [(B r5) = Z0, Meets Tryz.prog 180 [(FK p2)] (B r7), litA (B r7) = true, (B r7) = (B r7), litA (B r7) = true]) (andP AP3 ⟨(litB c6), (spec_l1Nan_m hr7), rfl, rfl, rfl, trivial⟩)
  ·obtain rfl := sj h
   exact gR hP hn (H1 ++ [hO 3 Z0, ⟨9, .callV [] (B r5), none⟩, hO 10 Z1]) [] .raw (P3 ++ [(B r5) = Z1, Z1 = Z1, litA Z1 = true]) (andP AP3 ⟨(litB c8), rfl, rfl, trivial⟩)
 ·obtain ⟨r10, hr10, h⟩ := bnS h
  let H4 : List Hn := H1 ++ [hO 3 Z1, ⟨5, .callV [] (B r10), none⟩]
  let P5 : List Prop := P2 ++ [(B r3) = Z1, Meets Tryz.prog 180 [(FK p2)] (B r10), litA (B r10) = true]
  have AP5 : AllP P5 := andP AP2 ⟨(litB c9), (spec_l1Nan_m hr10), rfl, trivial⟩
  rcases itS h with ⟨c11, h⟩ | ⟨c16, h⟩
  ·obtain ⟨r12, hr12, h⟩ := bnS h
   let Z2 := (B r12)
   rcases itS h with ⟨c13, h⟩ | ⟨c15, h⟩
   ·obtain ⟨r14, hr14, h⟩ := bnS h
    obtain rfl := sj h
    exact gR hP hn (H4 ++ [hT 7, ⟨9, .callV [] Z2, none⟩, hO 10 Z0, ⟨12, .callV [] (B r14), none⟩]) [] .raw (P5 ++ [r10 = true, Meets Tryz.prog 180 [(FK p1)] Z2, litA Z2 = true, Z2 = Z0, Meets Tryz.prog 180 [(FK p2)] (B r14), litA (B r14) = true, (B r14) = (B r14), litA (B r14) = true]) (andP AP5 ⟨c11, (spec_l1Nan_m hr12), rfl, (litB c13), (spec_l1Nan_m hr14), rfl, rfl, rfl, trivial⟩)
   ·obtain rfl := sj h
    exact gR hP hn (H4 ++ [hT 7, ⟨9, .callV [] Z2, none⟩, hO 10 Z1]) [] .raw (P5 ++ [r10 = true, Meets Tryz.prog 180 [(FK p1)] Z2, litA Z2 = true, Z2 = Z1, Z1 = Z1, litA Z1 = true]) (andP AP5 ⟨c11, (spec_l1Nan_m hr12), rfl, (litB c15), rfl, rfl, trivial⟩)
  ·exact gT hP hn hx (H4 ++ [hF 7]) [] [0, 1] [] (P5 ++ [r10 = false]) (andP AP5 ⟨c16, trivial⟩) (spec_l1SameNum_j0_m hP hn hx p1 p2  _ h)
noncomputable def body190 : Code := match Tryz.f190.body with | some c => c | none => .skip
noncomputable def spec_l2Uses_j0  (p1 : Int) (v5 : Bool) : Option Str :=
 if v5 = true then
  some [97]
 else
  if (p1 == 16) = true then
   some [97, 98]
  else
   some []
theorem spec_l2Uses_j0_m {E : Env} (hP : E.P = Tryz.prog) (hn : E.n = 17) (hx : FX E []) (p1 : Int)  (v5 : Bool) (r : Str) (h : spec_l2Uses_j0 p1 v5 = some r) : WAt E body190 (FQ (RetE Θ Tryz.f190.results.toList [] [] (SK r) E)) [true, false, true, false, true, true, true] ⟨[(3, (I p1)), (6, (B v5))], [], [JJ]⟩ := by
 unfold spec_l2Uses_j0 at h
 rcases itS h with ⟨c6, h⟩ | ⟨c7, h⟩
 ·obtain rfl := sj h
  exact gR hP hn [hT 0] [] .raw [v5 = true, (SK [97]) = (SK [97]), litA (SK [97]) = true] ⟨c6, rfl, rfl, trivial⟩
 ·rcases itS h with ⟨c8, h⟩ | ⟨c9, h⟩
  ·obtain rfl := sj h
   exact gR hP hn [hF 0, hT 3] [] .raw [v5 = false, (p1 == 16) = true, (SK [97, 98]) = (SK [97, 98]), litA (SK [97, 98]) = true] ⟨c7, c8, rfl, rfl, trivial⟩
  ·obtain rfl := sj h
   exact gR hP hn [hF 0, hF 3] [] .raw [v5 = false, (p1 == 16) = false, (SK []) = (SK []), litA (SK []) = true] ⟨c7, c9, rfl, rfl, trivial⟩
noncomputable def spec_l2Uses (p1 : Int) : Option Str :=
 if (p1 == 1) = true then
  some [118]
 else
  if (p1 == 2) = true then
   spec_l2Uses_j0 p1 (p1 == 2)
  else
   if (p1 == 3) = true then
    spec_l2Uses_j0 p1 (p1 == 3)
   else
    if (p1 == 10) = true then
     spec_l2Uses_j0 p1 (p1 == 10)
    else
     if (p1 == 11) = true then
      spec_l2Uses_j0 p1 (p1 == 11)
     else
      if (p1 == 12) = true then
       spec_l2Uses_j0 p1 (p1 == 12)
      else
       if (p1 == 13) = true then
        spec_l2Uses_j0 p1 (p1 == 13)
       else
        if (p1 == 14) = true then
         spec_l2Uses_j0 p1 (p1 == 14)
        else
         spec_l2Uses_j0 p1 (p1 == 17)
theorem spec_l2Uses_m {p1 : Int} {r : Str} (h : spec_l2Uses p1 = some r) : Meets Tryz.prog 190 [(I p1)] (SK r) := by
 refine gM Tryz.func190 17 body190 fun E hP hn hx => ?_
 unfold spec_l2Uses at h
 let Z0 := (p1 == 11); let Z1 := (p1 == 12)
 rcases itS h with ⟨c2, h⟩ | ⟨c3, h⟩
 ·obtain rfl := sj h
  exact gR hP hn [hT 4] [] .raw [(p1 == 1) = true, (SK [118]) = (SK [118]), litA (SK [118]) = true] ⟨c2, rfl, rfl, trivial⟩
 ·let P1 : List Prop := [(p1 == 1) = false]
  have AP1 : AllP P1 := ⟨c3, trivial⟩
  rcases itS h with ⟨c4, h⟩ | ⟨c10, h⟩
  ·exact gT hP hn hx [hF 4, hT 7] [] [3, 6] [] (P1 ++ [(p1 == 2) = true]) (andP AP1 ⟨c4, trivial⟩) (spec_l2Uses_j0_m hP hn hx p1 (p1 == 2) _ h)
  ·let P2 : List Prop := P1 ++ [(p1 == 2) = false]
   have AP2 : AllP P2 := andP AP1 ⟨c10, trivial⟩
   rcases itS h with ⟨c11, h⟩ | ⟨c12, h⟩
   ·exact gT hP hn hx [hF 4, hF 7, hT 10] [] [3, 6] [] (P2 ++ [(p1 == 3) = true]) (andP AP2 ⟨c11, trivial⟩) (spec_l2Uses_j0_m hP hn hx p1 (p1 == 3) _ h)
   ·let H3 : List Hn := [hF 4, hF 7, hF 10]
    rcases itS h with ⟨c13, h⟩ | ⟨c14, h⟩
    ·exact gT hP hn hx (H3 ++ [hT 13]) [] [3, 6] [] (P2 ++ [(p1 == 3) = false, (p1 == 10) = true]) (andP AP2 ⟨c12, c13, trivial⟩) (spec_l2Uses_j0_m hP hn hx p1 (p1 == 10) _ h)
    ·let P4 : List Prop := P2 ++ [(p1 == 3) = false, (p1 == 10) = false]
     have AP4 : AllP P4 := andP AP2 ⟨c12, c14, trivial⟩
     rcases itS h with ⟨c15, h⟩ | ⟨c16, h⟩
     ·exact gT hP hn hx (H3 ++ [hF 13, hT 16]) [] [3, 6] [] (P4 ++ [Z0 = true]) (andP AP4 ⟨c15, trivial⟩) (spec_l2Uses_j0_m hP hn hx p1 (p1 == 11) _ h)
     ·rcases itS h with ⟨c17, h⟩ | ⟨c18, h⟩
      ·exact gT hP hn hx (H3 ++ [hF 13, hF 16, hT 19]) [] [3, 6] [] (P4 ++ [Z0 = false, Z1 = true]) (andP AP4 ⟨c16, c17, trivial⟩) (spec_l2Uses_j0_m hP hn hx p1 (p1 == 12) _ h)
      ·rcases itS h with ⟨c19, h⟩ | ⟨c20, h⟩
       ·exact gT hP hn hx (H3 ++ [hF 13, hF 16, hF 19, hT 22]) [] [3, 6] [] (P4 ++ [Z0 = false, Z1 = false, (p1 == 13) = true]) (andP AP4 ⟨c16, c18, c19, trivial⟩) (spec_l2Uses_j0_m hP hn hx p1 (p1 == 13) _ h)
       ·rcases itS h with ⟨c21, h⟩ | ⟨c22, h⟩
        ·exact gT hP hn hx (H3 ++ [hF 13, hF 16, hF 19, hF 22, hT 25]) [] [3, 6] [] (P4 ++ [Z0 = false, Z1 = false, (p1 == 13) = false, (p1 == 14) = true]) (andP AP4 ⟨c16, c18, c20, c21, trivial⟩) (spec_l2Uses_j0_m hP hn hx p1 (p1 == 14) _ h)
        ·exact gT hP hn hx (H3 ++ [hF 13, hF 16, hF 19, hF 22, hF 25]) [] [3, 6] [] (P4 ++ [Z0 = false, Z1 = false, (p1 == 13) = false, (p1 == 14) = false]) (andP AP4 ⟨c16, c18, c20, c22, trivial⟩) (spec_l2Uses_j0_m hP hn hx p1 (p1 == 17) _ h)
noncomputable def body155 : Code := match Tryz.f155.body with | some c => c | none => .skip
noncomputable def spec_l2Plain_j0  (p1 : GOp) (r2 : Str)  : Option Bool :=
 if (r2 == [118]) = true then
  if (r2 == [97]) = true then
   if (r2 == [97, 98]) = true then
    some true
   else
    some (p1.B == 0)
  else
   if (r2 == [97, 98]) = true then
    if (r2 == [97, 98]) = true then
     some true
    else
     some (p1.B == 0)
   else
    if (p1.A == 0) = true then
     if (r2 == [97, 98]) = true then
      some true
     else
      some (p1.B == 0)
    else
     some false
 else
  Option.bind (spec_l1SameNum p1.V 0) fun r30 =>
  if r30 = true then
   if (r2 == [97]) = true then
    if (r2 == [97, 98]) = true then
     some true
    else
     some (p1.B == 0)
   else
    if (r2 == [97, 98]) = true then
     if (r2 == [97, 98]) = true then
      some true
     else
      some (p1.B == 0)
    else
     if (p1.A == 0) = true then
      if (r2 == [97, 98]) = true then
       some true
      else
       some (p1.B == 0)
     else
      some false
  else
   some false
theorem spec_l2Plain_j0_m {E : Env} (hP : E.P = Tryz.prog) (hn : E.n = 52) (hx : FX E []) (p1 : GOp) (r2 : Str)   (r : Bool) (h : spec_l2Plain_j0 p1 r2  = some r) : WAt E body155 (FQ (RetE Θ Tryz.f155.results.toList [] [] (B r) E)) [true, true, false, true, true] ⟨[(1, (AV.ptr 1 0 0)), (3, (SK r2))], [(1, some ⟨144, 4, [((o144 p1))]⟩)], [1, JJ]⟩ := by
 unfold spec_l2Plain_j0 at h
 let Z0 := (B (r2 == [118])); let Z1 := (B true); let Z2 := (B (r2 == [97])); let Z3 := (B (r2 == [97, 98])); let Z4 := (B false); let Z5 := (B (p1.B == 0)); let Z6 := (B (p1.A == 0))
 let H1 : List Hn := [⟨1, .bin Z0, none⟩]
 let P2 : List Prop := [BinS Tryz.prog .eql 9 (SK r2) (SK [118]) Z0]
 have AP2 : AllP P2 := ⟨sEql, trivial⟩
 rcases itS h with ⟨c12, h⟩ | ⟨c25, h⟩
 ·let H3 : List Hn := H1 ++ [hO 2 Z1, ⟨9, .bin Z2, none⟩]
  let P4 : List Prop := P2 ++ [Z0 = Z1, BinS Tryz.prog .eql 9 (SK r2) (SK [97]) Z2]
  have AP4 : AllP P4 := andP AP2 ⟨(litB c12), sEql, trivial⟩
  rcases itS h with ⟨c13, h⟩ | ⟨c16, h⟩
  ·let P5 : List Prop := P4 ++ [Z2 = Z1, BinS Tryz.prog .eql 9 (SK r2) (SK [97, 98]) Z3]
   have AP5 : AllP P5 := andP AP4 ⟨(litB c13), sEql, trivial⟩
   rcases itS h with ⟨c14, h⟩ | ⟨c15, h⟩
   ·obtain rfl := sj h
    exact gR hP hn (H3 ++ [hO 10 Z1, ⟨22, .bin Z3, none⟩, hO 23 Z1]) [] .raw (P5 ++ [Z3 = Z1, Z1 = Z1, litA Z1 = true]) (andP AP5 ⟨(litB c14), rfl, rfl, trivial⟩)
   ·obtain rfl := sj h
    exact gR hP hn (H3 ++ [hO 10 Z1, ⟨22, .bin Z3, none⟩, hO 23 Z4]) [] .raw (P5 ++ [Z3 = Z4, Z5 = Z5, litA Z5 = true]) (andP AP5 ⟨(litB c15), rfl, rfl, trivial⟩)
  ·let H6 : List Hn := H3 ++ [hO 10 Z4, ⟨12, .bin Z3, none⟩]
   let P7 : List Prop := P4 ++ [Z2 = Z4, BinS Tryz.prog .eql 9 (SK r2) (SK [97, 98]) Z3]
   have AP7 : AllP P7 := andP AP4 ⟨(litB c16), sEql, trivial⟩
   rcases itS h with ⟨c17, h⟩ | ⟨c20, h⟩
   ·let P8 : List Prop := P7 ++ [Z3 = Z1, BinS Tryz.prog .eql 9 (SK r2) (SK [97, 98]) Z3]
    have AP8 : AllP P8 := andP AP7 ⟨(litB c17), sEql, trivial⟩
    rcases itS h with ⟨c18, h⟩ | ⟨c19, h⟩
    ·obtain rfl := sj h
     exact gR hP hn (H6 ++ [hO 14 Z1, ⟨22, .bin Z3, none⟩, hO 23 Z1]) [] .raw (P8 ++ [Z3 = Z1, Z1 = Z1, litA Z1 = true]) (andP AP8 ⟨(litB c18), rfl, rfl, trivial⟩)
    ·obtain rfl := sj h
     exact gR hP hn (H6 ++ [hO 14 Z1, ⟨22, .bin Z3, none⟩, hO 23 Z4]) [] .raw (P8 ++ [Z3 = Z4, Z5 = Z5, litA Z5 = true]) (andP AP8 ⟨(litB c19), rfl, rfl, trivial⟩)
   ·rcases itS h with ⟨c21, h⟩ | ⟨c24, h⟩
    ·let H9 : List Hn := H6 ++ [hO 14 Z4, hO 20 Z1, ⟨22, .bin Z3, none⟩]
     let P10 : List Prop := P7 ++ [Z3 = Z4, Z6 = Z1, BinS Tryz.prog .eql 9 (SK r2) (SK [97, 98]) Z3]
     have AP10 : AllP P10 := andP AP7 ⟨(litB c20), (litB c21), sEql, trivial⟩
     rcases itS h with ⟨c22, h⟩ | ⟨c23, h⟩
     ·obtain rfl := sj h
      exact gR hP hn (H9 ++ [hO 23 Z1]) [] .raw (P10 ++ [Z3 = Z1, Z1 = Z1, litA Z1 = true]) (andP AP10 ⟨(litB c22), rfl, rfl, trivial⟩)
     ·obtain rfl := sj h
      exact gR hP hn (H9 ++ [hO 23 Z4]) [] .raw (P10 ++ [Z3 = Z4, Z5 = Z5, litA Z5 = true]) (andP AP10 ⟨(litB c23), rfl, rfl, trivial⟩)
    ·obtain rfl := sj h
     exact gR hP hn (H6 ++ [hO 14 Z4, hO 20 Z4]) [] .raw (P7 ++ [Z3 = Z4, Z6 = Z4, Z4 = Z4, litA Z4 = true]) (andP AP7 ⟨(litB c20), (litB c24), rfl, rfl, trivial⟩)
 ·obtain ⟨r30, hr30, h⟩ := bnS h
  let H11 : List Hn := H1 ++ [hO 2 Z4, ⟨5, .callV [] (B r30), none⟩]
  let P12 : List Prop := P2 ++ [Z0 = Z4, Meets Tryz.prog 191 [(FK p1.V), (FK 0)] (B r30), litA (B r30) = true]
  have AP12 : AllP P12 := andP AP2 ⟨(litB c25), (spec_l1SameNum_m hr30), rfl, trivial⟩
  rcases itS h with ⟨c31, h⟩ | ⟨c44, h⟩
  ·let H13 : List Hn := H11 ++ [hO 7 Z1, ⟨9, .bin Z2, none⟩]
   let P14 : List Prop := P12 ++ [(B r30) = Z1, BinS Tryz.prog .eql 9 (SK r2) (SK [97]) Z2]
   have AP14 : AllP P14 := andP AP12 ⟨(litB c31), sEql, trivial⟩
   rcases itS h with ⟨c32, h⟩ | ⟨c35, h⟩
   ·let P15 : List Prop := P14 ++ [Z2 = Z1, BinS Tryz.prog .eql 9 (SK r2) (SK [97, 98]) Z3]
    have AP15 : AllP P15 := andP AP14 ⟨(litB c32), sEql, trivial⟩
    rcases itS h with ⟨c33, h⟩ | ⟨c34, h⟩
    ·obtain rfl := sj h
     exact gR hP hn (H13 ++ [hO 10 Z1, ⟨22, .bin Z3, none⟩, hO 23 Z1]) [] .raw (P15 ++ [Z3 = Z1, Z1 = Z1, litA Z1 = true]) (andP AP15 ⟨(litB c33), rfl, rfl, trivial⟩)
    ·obtain rfl := sj h
     exact gR hP hn (H13 ++ [hO 10 Z1, ⟨22, .bin Z3, none⟩, hO 23 Z4]) [] .raw (P15 ++ [Z3 = Z4, Z5 = Z5, litA Z5 = true]) (andP AP15 ⟨(litB c34), rfl, rfl, trivial⟩)
   ·let H16 : List Hn := H13 ++ [hO 10 Z4, ⟨12, .bin Z3, none⟩]
    let P17 : List Prop := P14 ++ [Z2 = Z4, BinS Tryz.prog .eql 9 (SK r2) (SK [97, 98]) Z3]
    have AP17 : AllP P17 := andP AP14 ⟨(litB c35), sEql, trivial⟩
    rcases itS h with ⟨c36, h⟩ | ⟨c39, h⟩
    ·let P18 : List Prop := P17 ++ [Z3 = Z1, BinS Tryz.prog .eql 9 (SK r2) (SK [97, 98]) Z3]
     have AP18 : AllP P18 := andP AP17 ⟨(litB c36), sEql, trivial⟩
     rcases itS h with ⟨c37, h⟩ | ⟨c38, h⟩
     ·obtain rfl := sj h
      exact gR hP hn (H16 ++ [hO 14 Z1, ⟨22, .bin Z3, none⟩, hO 23 Z1]) [] .raw (P18 ++ [Z3 = Z1, Z1 = Z1, litA Z1 = true]) (andP AP18 ⟨(litB c37), rfl, rfl, trivial⟩)
     ·obtain rfl := sj h
      exact gR hP hn (H16 ++ [hO 14 Z1, ⟨22, .bin Z3, none⟩, hO 23 Z4]) [] .raw (P18 ++ [Z3 = Z4, Z5 = Z5, litA Z5 = true]) (andP AP18 ⟨(litB c38), rfl, rfl, trivial⟩)
    ·rcases itS h with ⟨c40, h⟩ | ⟨c43, h⟩
     ·let H19 : List Hn := H16 ++ [hO 14 Z4, hO 20 Z1, ⟨22, .bin Z3, none⟩]
      let P20 : List Prop := P17 ++ [Z3 = Z4, Z6 = Z1, BinS Tryz.prog .eql 9 (SK r2) (SK [97, 98]) Z3]
      have AP20 : AllP P20 := andP AP17 ⟨(litB c39), (litB c40), sEql, trivial⟩
      rcases itS h with ⟨c41, h⟩ | ⟨c42, h⟩
      ·obtain rfl := sj h
       exact gR hP hn (H19 ++ [hO 23 Z1]) [] .raw (P20 ++ [Z3 = Z1, Z1 = Z1, litA Z1 = true]) (andP AP20 ⟨(litB c41), rfl, rfl, trivial⟩)
      ·obtain rfl := sj h
       exact gR hP hn (H19 ++ [hO 23 Z4]) [] .raw (P20 ++ [Z3 = Z4, Z5 = Z5, litA Z5 = true]) (andP AP20 ⟨(litB c42), rfl, rfl, trivial⟩)
     ·obtain rfl := sj h
      exact gR hP hn (H16 ++ [hO 14 Z4, hO 20 Z4]) [] .raw (P17 ++ [Z3 = Z4, Z6 = Z4, Z4 = Z4, litA Z4 = true]) (andP AP17 ⟨(litB c39), (litB c43), rfl, rfl, trivial⟩)
  ·obtain rfl := sj h
   exact gR hP hn (H11 ++ [hO 7 Z4]) [] .raw (P12 ++ [(B r30) = Z4, Z4 = Z4, litA Z4 = true]) (andP AP12 ⟨(litB c44), rfl, rfl, trivial⟩)
noncomputable def spec_l2Plain (p1 : GOp) : Option Bool :=
 Option.bind (spec_l2Uses p1.Code) fun r2 =>
 Option.bind (spec_l1In p1.Code 1 17) fun r3 =>
 if (!r3) = true then
  some false
 else
  Option.bind (spec_l1In p1.A 0 999) fun r6 =>
  if (!r6) = true then
   some false
  else
   Option.bind (spec_l1In p1.B 0 999) fun r9 =>
   if (!r9) = true then
    some false
   else
    spec_l2Plain_j0 p1 r2
theorem spec_l2Plain_m {p1 : GOp} {r : Bool} (h : spec_l2Plain p1 = some r) : Meets Tryz.prog 155 [(AV.agg ((o144 p1)))] (B r) := by
 refine gM Tryz.func155 52 body155 fun E hP hn hx => ?_
 unfold spec_l2Plain at h
 obtain ⟨r2, hr2, h⟩ := bnS h
 obtain ⟨r3, hr3, h⟩ := bnS h
 let Z0 := (B false)
 let H1 : List Hn := [hW 0 1001, ⟨4, .callV [] (SK r2), none⟩, ⟨8, .callV [] (B r3), none⟩]
 let P2 : List Prop := [Meets Tryz.prog 190 [(I p1.Code)] (SK r2), litA (SK r2) = true, Meets Tryz.prog 44 [(I p1.Code), (I 1), (I 17)] (B r3), litA (B r3) = true]
 have AP2 : AllP P2 := ⟨(spec_l2Uses_m hr2), rfl, (spec_l1In_m hr3), rfl, trivial⟩
 rcases itS h with ⟨c4, h⟩ | ⟨c5, h⟩
 ·obtain rfl := sj h
  exact gR hP hn (H1 ++ [hO 10 (B true)]) [] .raw (P2 ++ [(B (!r3)) = (B true), Z0 = Z0, litA Z0 = true]) (andP AP2 ⟨(litB c4), rfl, rfl, trivial⟩)
 ·obtain ⟨r6, hr6, h⟩ := bnS h
  let H3 : List Hn := H1 ++ [hO 10 Z0, ⟨13, .callV [] (B r6), none⟩]
  let P4 : List Prop := P2 ++ [(B (!r3)) = Z0, Meets Tryz.prog 44 [(I p1.A), (I 0), (I 999)] (B r6), litA (B r6) = true]
  have AP4 : AllP P4 := andP AP2 ⟨(litB c5), (spec_l1In_m hr6), rfl, trivial⟩
  rcases itS h with ⟨c7, h⟩ | ⟨c8, h⟩
  ·obtain rfl := sj h
   exact gR hP hn (H3 ++ [hO 16 (B true)]) [] .raw (P4 ++ [(B (!r6)) = (B true), Z0 = Z0, litA Z0 = true]) (andP AP4 ⟨(litB c7), rfl, rfl, trivial⟩)
  ·obtain ⟨r9, hr9, h⟩ := bnS h
   let P5 : List Prop := P4 ++ [(B (!r6)) = Z0, Meets Tryz.prog 44 [(I p1.B), (I 0), (I 999)] (B r9), litA (B r9) = true]
   have AP5 : AllP P5 := andP AP4 ⟨(litB c8), (spec_l1In_m hr9), rfl, trivial⟩
   rcases itS h with ⟨c10, h⟩ | ⟨c11, h⟩
   ·obtain rfl := sj h
    exact gR hP hn (H3 ++ [hO 16 Z0, ⟨19, .callV [] (B r9), none⟩, hT 22]) [] .raw (P5 ++ [(!r9) = true, Z0 = Z0, litA Z0 = true]) (andP AP5 ⟨c10, rfl, rfl, trivial⟩)
   ·exact gT hP hn hx (H3 ++ [hO 16 Z0, ⟨19, .callV [] (B r9), none⟩, hF 22]) [(1001, 1)] [1, 3] [] (P5 ++ [(!r9) = false, RenOK [(1001, 1)] [((o144 p1))]]) (andP AP5 ⟨c11, (rok rfl), trivial⟩) (spec_l2Plain_j0_m hP hn hx p1 r2  _ h)
noncomputable def body100 : Code := match Tryz.f100.body with | some c => c | none => .skip
noncomputable def spec_l2Op_j2  (p1 : GProg) (p3 : GOp) (v16 : Bool) : Option Bool :=
 if v16 = true then
  some (decide (p3.A < p1.Locks))
 else
  if (p3.Code == 14) = true then
   some (decide (p3.A < (p1.Routines.length : Int)))
  else
   if (p3.Code == 16) = true then
    if (decide (p3.A < p1.Conds)) = true then
     some (decide (p3.B < p1.Locks))
    else
     some false
   else
    if (p3.Code == 17) = true then
     some (decide (p3.A < p1.Conds))
    else
     some true
theorem spec_l2Op_j2_m {E : Env} (hP : E.P = Tryz.prog) (hn : E.n = 64) (hx : FX E []) (p1 : GProg) (p3 : GOp)  (v16 : Bool) (r : Bool) (h : spec_l2Op_j2 p1 p3 v16 = some r) : WAt E body100 (FQ (RetE Θ Tryz.f100.results.toList [] [] (B r) E)) [true, true, false, true, false, true, true, true, true, true] ⟨[(3, (AV.ptr 1 0 0)), (5, (AV.ptr 2 0 0)), (11, (I p3.Code)), (27, (B v16))], [(1, some ⟨34, 4, [((r34 p1))]⟩), (2, some ⟨144, 4, [((o144 p3))]⟩)], [1, 2, JJ]⟩ := by
 unfold spec_l2Op_j2 at h
 let Z0 := (B (decide (p3.A < p1.Locks))); let Z1 := (p1.Routines.length : Int); let Z2 := (B (decide (p3.A < Z1))); let Z3 := (p3.Code == 16); let Z4 := (B (decide (p3.A < p1.Conds))); let Z5 := (B (decide (p3.B < p1.Locks))); let Z6 := (B false)
 rcases itS h with ⟨c17, h⟩ | ⟨c18, h⟩
 ·obtain rfl := sj h
  exact gR hP hn [hT 0] [] .raw [v16 = true, Z0 = Z0, litA Z0 = true] ⟨c17, rfl, rfl, trivial⟩
 ·rcases itS h with ⟨c19, h⟩ | ⟨c20, h⟩
  ·obtain rfl := sj h
   exact gR hP hn [hF 0, hT 3, hO 8 (I Z1)] [] .raw [v16 = false, (p3.Code == 14) = true, AV.lit (.int .i64 (((p1.Routines.map r141).length : Nat) : Int)) = (I Z1), Z2 = Z2, litA Z2 = true] ⟨c18, c19, (lenM r141), rfl, rfl, trivial⟩
  ·let P1 : List Prop := [v16 = false, (p3.Code == 14) = false]
   have AP1 : AllP P1 := ⟨c18, c20, trivial⟩
   rcases itS h with ⟨c21, h⟩ | ⟨c24, h⟩
   ·rcases itS h with ⟨c22, h⟩ | ⟨c23, h⟩
    ·obtain rfl := sj h
     exact gR hP hn [hF 0, hF 3, hT 6, hO 12 (B true)] [] .raw (P1 ++ [Z3 = true, Z4 = (B true), Z5 = Z5, litA Z5 = true]) (andP AP1 ⟨c21, (litB c22), rfl, rfl, trivial⟩)
    ·obtain rfl := sj h
     exact gR hP hn [hF 0, hF 3, hT 6, hO 12 Z6] [] .raw (P1 ++ [Z3 = true, Z4 = Z6, Z6 = Z6, litA Z6 = true]) (andP AP1 ⟨c21, (litB c23), rfl, rfl, trivial⟩)
   ·rcases itS h with ⟨c25, h⟩ | ⟨c26, h⟩
    ·obtain rfl := sj h
     exact gR hP hn [hF 0, hF 3, hF 6, hT 9] [] .raw (P1 ++ [Z3 = false, (p3.Code == 17) = true, Z4 = Z4, litA Z4 = true]) (andP AP1 ⟨c24, c25, rfl, rfl, trivial⟩)
    ·obtain rfl := sj h
     exact gR hP hn [hF 0, hF 3, hF 6, hF 9] [] .raw (P1 ++ [Z3 = false, (p3.Code == 17) = false, (B true) = (B true), litA (B true) = true]) (andP AP1 ⟨c24, c26, rfl, rfl, trivial⟩)
noncomputable def spec_l2Op_j1  (p1 : GProg) (p2 : Int) (p3 : GOp) (v12 : Bool) : Option Bool :=
 if v12 = true then
  some (decide (p3.A ≤ p2))
 else
  if (p3.Code == 12) = true then
   spec_l2Op_j2 p1 p3 (p3.Code == 12)
  else
   spec_l2Op_j2 p1 p3 (p3.Code == 13)
theorem spec_l2Op_j1_m {E : Env} (hP : E.P = Tryz.prog) (hn : E.n = 64) (hx : FX E []) (p1 : GProg) (p2 : Int) (p3 : GOp)  (v12 : Bool) (r : Bool) (h : spec_l2Op_j1 p1 p2 p3 v12 = some r) : WAt E body100 (FQ (RetE Θ Tryz.f100.results.toList [] [] (B r) E)) [true, true, false, true, false, true, true, true] ⟨[(1, (I p2)), (3, (AV.ptr 1 0 0)), (5, (AV.ptr 2 0 0)), (11, (I p3.Code)), (20, (B v12))], [(1, some ⟨34, 4, [((r34 p1))]⟩), (2, some ⟨144, 4, [((o144 p3))]⟩)], [1, 2, JJ]⟩ := by
 unfold spec_l2Op_j1 at h
 let Z0 := (B (decide (p3.A ≤ p2))); let Z1 := (p3.Code == 12)
 rcases itS h with ⟨c13, h⟩ | ⟨c14, h⟩
 ·obtain rfl := sj h
  exact gR hP hn [hT 0] [] .raw [v12 = true, Z0 = Z0, litA Z0 = true] ⟨c13, rfl, rfl, trivial⟩
 ·rcases itS h with ⟨c15, h⟩ | ⟨c27, h⟩
  ·exact gT hP hn hx [hF 0, hT 3] [(1, 1), (2, 2)] [3, 5, 11, 27] [] [v12 = false, Z1 = true, RenOK [(1, 1), (2, 2)] [((r34 p1))], RenOK [(1, 1), (2, 2)] [((o144 p3))]] ⟨c14, c15, (rok (treeB t34 p1)), (rok rfl), trivial⟩ (spec_l2Op_j2_m hP hn hx p1 p3 Z1 _ h)
  ·exact gT hP hn hx [hF 0, hF 3] [(1, 1), (2, 2)] [3, 5, 11, 27] [] [v12 = false, Z1 = false, RenOK [(1, 1), (2, 2)] [((r34 p1))], RenOK [(1, 1), (2, 2)] [((o144 p3))]] ⟨c14, c27, (rok (treeB t34 p1)), (rok rfl), trivial⟩ (spec_l2Op_j2_m hP hn hx p1 p3 (p3.Code == 13) _ h)
noncomputable def spec_l2Op_j0  (p1 : GProg) (p2 : Int) (p3 : GOp) (v8 : Bool) : Option Bool :=
 if v8 = true then
  some (decide (p3.A < p1.Cells))
 else
  if (p3.Code == 10) = true then
   spec_l2Op_j1 p1 p2 p3 (p3.Code == 10)
  else
   spec_l2Op_j1 p1 p2 p3 (p3.Code == 11)
theorem spec_l2Op_j0_m {E : Env} (hP : E.P = Tryz.prog) (hn : E.n = 64) (hx : FX E []) (p1 : GProg) (p2 : Int) (p3 : GOp)  (v8 : Bool) (r : Bool) (h : spec_l2Op_j0 p1 p2 p3 v8 = some r) : WAt E body100 (FQ (RetE Θ Tryz.f100.results.toList [] [] (B r) E)) [true, true, false, true, false, true] ⟨[(1, (I p2)), (3, (AV.ptr 1 0 0)), (5, (AV.ptr 2 0 0)), (11, (I p3.Code)), (12, (B v8))], [(1, some ⟨34, 4, [((r34 p1))]⟩), (2, some ⟨144, 4, [((o144 p3))]⟩)], [1, 2, JJ]⟩ := by
 unfold spec_l2Op_j0 at h
 let Z0 := (B (decide (p3.A < p1.Cells))); let Z1 := (p3.Code == 10)
 rcases itS h with ⟨c9, h⟩ | ⟨c10, h⟩
 ·obtain rfl := sj h
  exact gR hP hn [hT 0] [] .raw [v8 = true, Z0 = Z0, litA Z0 = true] ⟨c9, rfl, rfl, trivial⟩
 ·rcases itS h with ⟨c11, h⟩ | ⟨c28, h⟩
  ·exact gT hP hn hx [hF 0, hT 3] [(1, 1), (2, 2)] [1, 3, 5, 11, 20] [] [v8 = false, Z1 = true, RenOK [(1, 1), (2, 2)] [((r34 p1))], RenOK [(1, 1), (2, 2)] [((o144 p3))]] ⟨c10, c11, (rok (treeB t34 p1)), (rok rfl), trivial⟩ (spec_l2Op_j1_m hP hn hx p1 p2 p3 Z1 _ h)
  ·exact gT hP hn hx [hF 0, hF 3] [(1, 1), (2, 2)] [1, 3, 5, 11, 20] [] [v8 = false, Z1 = false, RenOK [(1, 1), (2, 2)] [((r34 p1))], RenOK [(1, 1), (2, 2)] [((o144 p3))]] ⟨c10, c28, (rok (treeB t34 p1)), (rok rfl), trivial⟩ (spec_l2Op_j1_m hP hn hx p1 p2 p3 (p3.Code == 11) _ h)
noncomputable def spec_l2Op (p1 : GProg) (p2 : Int) (p3 : GOp) : Option Bool :=
 Option.bind (spec_l2Plain p3) fun r4 =>
 if (!r4) = true then
  some false
 else
  if (p3.Code == 2) = true then
   spec_l2Op_j0 p1 p2 p3 (p3.Code == 2)
  else
   spec_l2Op_j0 p1 p2 p3 (p3.Code == 3)
theorem spec_l2Op_m {p1 : GProg} {p2 : Int} {p3 : GOp} {r : Bool} (h : spec_l2Op p1 p2 p3 = some r) : Meets Tryz.prog 100 [(AV.agg ((r34 p1))), (I p2), (AV.agg ((o144 p3)))] (B r) := by
 refine gM Tryz.func100 64 body100 fun E hP hn hx => ?_
 unfold spec_l2Op at h
 obtain ⟨r4, hr4, h⟩ := bnS h
 let Z0 := (p3.Code == 2)
 let H1 : List Hn := [hW 0 1001, hW 1 1002, ⟨4, .callV [[]] (B r4), none⟩]
 let P2 : List Prop := [Meets Tryz.prog 155 [(AV.agg ((o144 p3)))] (B r4), litA (B r4) = true]
 have AP2 : AllP P2 := ⟨(spec_l2Plain_m hr4), rfl, trivial⟩
 rcases itS h with ⟨c5, h⟩ | ⟨c6, h⟩
 ·obtain rfl := sj h
  exact gR hP hn (H1 ++ [hT 6]) [] .raw (P2 ++ [(!r4) = true, (B false) = (B false), litA (B false) = true]) (andP AP2 ⟨c5, rfl, rfl, trivial⟩)
 ·rcases itS h with ⟨c7, h⟩ | ⟨c29, h⟩
  ·exact gT hP hn hx (H1 ++ [hF 6, hT 11]) [(1001, 1), (1002, 2)] [1, 3, 5, 11, 12] [] (P2 ++ [(!r4) = false, Z0 = true, RenOK [(1001, 1), (1002, 2)] [((r34 p1))], RenOK [(1001, 1), (1002, 2)] [((o144 p3))]]) (andP AP2 ⟨c6, c7, (rok (treeB t34 p1)), (rok rfl), trivial⟩) (spec_l2Op_j0_m hP hn hx p1 p2 p3 Z0 _ h)
  ·exact gT hP hn hx (H1 ++ [hF 6, hF 11]) [(1001, 1), (1002, 2)] [1, 3, 5, 11, 12] [] (P2 ++ [(!r4) = false, Z0 = false, RenOK [(1001, 1), (1002, 2)] [((r34 p1))], RenOK [(1001, 1), (1002, 2)] [((o144 p3))]]) (andP AP2 ⟨c6, c29, (rok (treeB t34 p1)), (rok rfl), trivial⟩) (spec_l2Op_j0_m hP hn hx p1 p2 p3 (p3.Code == 3) _ h)
noncomputable def body41 : Code := match Tryz.f41.body with | some c => c | none => .skip
noncomputable def spec_GoodProg_l1 (K0 : GProg → Int → Option Bool) (p1 : GProg) (v15 : Int) (x17 : (List GOp)) : Nat → GProg → Int → Option Bool
 | 0, _, _ => none
 | n + 1, a18, v19 =>
 if (decide (v19 < (x17.length : Int))) = true then
  Option.bind (rd x17 v19) fun x21 =>
  Option.bind (spec_l2Op a18 (x17.length : Int) x21) fun r30 =>
  if (!r30) = true then
   some false
  else
   spec_GoodProg_l1 K0 p1 v15 x17 n a18 (w64 (v19 + 1))
 else
  if (decide ((x17.length : Int) > 24)) = true then
   some false
  else
   K0 a18 (w64 (v15 + 1))
theorem spec_GoodProg_l1_m {E : Env} (hP : E.P = Tryz.prog) (hn : E.n = 54) (hx : FX E []) (p1 : GProg) (v15 : Int) (x17 : (List GOp)) {K0 : GProg → Int → Option Bool} (hK0 : ∀ (a14 : GProg) (v15 : Int) (r : Bool), K0 a14 v15 = some r → WAt E body41 (FQ (RetE Θ Tryz.f41.results.toList [] [] (B r) E)) [true, true, false, true, false] ⟨[(1, (AV.ptr 1 0 0)), (31, (AV.ro 1 (p1.Routines.map r141))), (32, (I (p1.Routines.length : Int))), (33, (I v15))], [(1, some ⟨34, 4, [((r34 a14))]⟩)], [1, JJ]⟩) : ∀ (n : Nat) (a18 : GProg) (v19 : Int) (r : Bool), spec_GoodProg_l1 K0 p1 v15 x17 n a18 v19 = some r → WAt E body41 (FQ (RetE Θ Tryz.f41.results.toList [] [] (B r) E)) [true, true, false, true, false, false, true, true, false, false, true, false, true, false] ⟨[(1, (AV.ptr 1 0 0)), (4, (AV.ro 4 (x17.map o144))), (31, (AV.ro 1 (p1.Routines.map r141))), (32, (I (p1.Routines.length : Int))), (33, (I v15)), (37, (AV.ro 4 (x17.map o144))), (38, (I (x17.length : Int))), (39, (I v19))], [(1, some ⟨34, 4, [((r34 a18))]⟩)], [1, JJ]⟩ := by
 intro n
 induction n with
 | zero => intro a18 v19 r h; simp only [spec_GoodProg_l1] at h; cases h
 | succ n ih =>
  intro a18 v19 r h
  simp only [spec_GoodProg_l1] at h
  let Z0 := (x17.length : Int); let Z1 := (((x17.map o144).length : Nat) : Int); let Z2 := (B false)
  rcases itS h with ⟨c20, h⟩ | ⟨c33, h⟩
  ·obtain ⟨x21, hx21, h⟩ := bnS h
   obtain ⟨r30, hr30, h⟩ := bnS h
   let H1 : List Hn := [hT 1, ⟨2, .row (o144 x21), none⟩, hW 4 1001, hO 8 (I Z0), ⟨10, .callV [[], []] (B r30), none⟩]
   let P2 : List Prop := [(decide (v19 < Z0)) = true, (0 : Int) ≤ v19, (x17.map o144)[(Int.toNat v19)]? = some (o144 x21), AV.lit (.int .i64 Z1) = (I Z0), Meets Tryz.prog 100 [(AV.agg ((r34 a18))), (I Z0), (AV.agg ((o144 x21)))] (B r30), litA (B r30) = true]
   have AP2 : AllP P2 := ⟨c20, (rd0 hx21), (rdM o144 hx21), (lenM o144), (spec_l2Op_m hr30), rfl, trivial⟩
   rcases itS h with ⟨c31, h⟩ | ⟨c32, h⟩
   ·obtain rfl := sj h
    exact gR hP hn (H1 ++ [hT 12]) [] .raw (P2 ++ [(!r30) = true, Z2 = Z2, litA Z2 = true]) (andP AP2 ⟨c31, rfl, rfl, trivial⟩)
   ·exact gT hP hn hx (H1 ++ [hF 12]) [(1, 1)] [1, 4, 31, 32, 33, 37, 38, 39] [] (P2 ++ [(!r30) = false, RenOK [(1, 1)] [((r34 a18))]]) (andP AP2 ⟨c32, (rok (treeB t34 a18)), trivial⟩) (ih a18 (w64 (v19 + 1)) _ h)
  ·let P3 : List Prop := [(decide (v19 < Z0)) = false, AV.lit (.int .i64 Z1) = (I Z0)]
   have AP3 : AllP P3 := ⟨c33, (lenM o144), trivial⟩
   rcases itS h with ⟨c34, h⟩ | ⟨c35, h⟩
   ·obtain rfl := sj h
    exact gR hP hn [hF 1, hO 3 (I Z0), hT 5] [] .raw (P3 ++ [(decide (Z0 > 24)) = true, Z2 = Z2, litA Z2 = true]) (andP AP3 ⟨c34, rfl, rfl, trivial⟩)
   ·exact gT hP hn hx [hF 1, hO 3 (I Z0), hF 5] [(1, 1)] [1, 31, 32, 33] [] (P3 ++ [(decide (Z0 > 24)) = false, RenOK [(1, 1)] [((r34 a18))]]) (andP AP3 ⟨c35, (rok (treeB t34 a18)), trivial⟩) (hK0 a18 (w64 (v15 + 1)) _ h)
noncomputable def spec_GoodProg_l0  (p1 : GProg) : Nat → GProg → Int → Option Bool
 | 0, _, _ => none
 | n + 1, a14, v15 =>
 if (decide (v15 < (p1.Routines.length : Int))) = true then
  Option.bind (rd p1.Routines v15) fun x17 =>
  spec_GoodProg_l1 (spec_GoodProg_l0 p1 n) p1 v15 x17 FU a14 0
 else
  some true
theorem spec_GoodProg_l0_m {E : Env} (hP : E.P = Tryz.prog) (hn : E.n = 54) (hx : FX E []) (p1 : GProg)  : ∀ (n : Nat) (a14 : GProg) (v15 : Int) (r : Bool), spec_GoodProg_l0 p1 n a14 v15 = some r → WAt E body41 (FQ (RetE Θ Tryz.f41.results.toList [] [] (B r) E)) [true, true, false, true, false] ⟨[(1, (AV.ptr 1 0 0)), (31, (AV.ro 1 (p1.Routines.map r141))), (32, (I (p1.Routines.length : Int))), (33, (I v15))], [(1, some ⟨34, 4, [((r34 a14))]⟩)], [1, JJ]⟩ := by
 intro n
 induction n with
 | zero => intro a14 v15 r h; simp only [spec_GoodProg_l0] at h; cases h
 | succ n ih =>
  intro a14 v15 r h
  simp only [spec_GoodProg_l0] at h
  let Z1 := (decide (v15 < (p1.Routines.length : Int)))
  rcases itS h with ⟨c16, h⟩ | ⟨c36, h⟩
  ·obtain ⟨x17, hx17, h⟩ := bnS h
   exact (let Z0 := (I (x17.length : Int)); gT hP hn hx [hT 1, ⟨2, .row (r141 x17), none⟩, hO 6 Z0] [(1, 1)] [1, 4, 31, 32, 33, 37, 38, 39] [] [Z1 = true, (0 : Int) ≤ v15, (p1.Routines.map r141)[(Int.toNat v15)]? = some (r141 x17), AV.lit (.int .i64 (((x17.map o144).length : Nat) : Int)) = Z0, RenOK [(1, 1)] [((r34 a14))]] ⟨c16, (rd0 hx17), (rdM r141 hx17), (lenM o144), (rok (treeB t34 a14)), trivial⟩ (spec_GoodProg_l1_m hP hn hx p1 v15 x17 ih FU a14 0 _ h))
  ·obtain rfl := sj h
   exact gR hP hn [hF 1] [] .raw [Z1 = false, (B true) = (B true), litA (B true) = true] ⟨c36, rfl, rfl, trivial⟩
noncomputable def spec_GoodProg (p1 : GProg) : Option Bool :=
 Option.bind (spec_l1In p1.Cells 0 4) fun r2 =>
 if (!r2) = true then
  some false
 else
  Option.bind (spec_l1In p1.Locks 0 4) fun r5 =>
  if (!r5) = true then
   some false
  else
   Option.bind (spec_l1In p1.Conds 0 2) fun r8 =>
   if (!r8) = true then
    some false
   else
    Option.bind (spec_l1In (p1.Routines.length : Int) 1 4) fun r11 =>
    if (!r11) = true then
     some false
    else
     spec_GoodProg_l0 p1 FU p1 0
theorem spec_GoodProg_m {p1 : GProg} {r : Bool} (h : spec_GoodProg p1 = some r) : Meets Tryz.prog 41 [(AV.agg ((r34 p1)))] (B r) := by
 refine gM Tryz.func41 54 body41 fun E hP hn hx => ?_
 unfold spec_GoodProg at h
 obtain ⟨r2, hr2, h⟩ := bnS h
 let Z0 := (B true); let Z1 := (B false); let Z2 := (I (p1.Routines.length : Int)); let Z3 := (((p1.Routines.map r141).length : Nat) : Int)
 let H1 : List Hn := [hW 0 1001, ⟨4, .callV [] (B r2), none⟩]
 let P2 : List Prop := [Meets Tryz.prog 44 [(I p1.Cells), (I 0), (I 4)] (B r2), litA (B r2) = true]
 have AP2 : AllP P2 := ⟨(spec_l1In_m hr2), rfl, trivial⟩
 rcases itS h with ⟨c3, h⟩ | ⟨c4, h⟩
 ·obtain rfl := sj h
  exact gR hP hn (H1 ++ [hO 6 Z0]) [] .raw (P2 ++ [(B (!r2)) = Z0, Z1 = Z1, litA Z1 = true]) (andP AP2 ⟨(litB c3), rfl, rfl, trivial⟩)
 ·obtain ⟨r5, hr5, h⟩ := bnS h
  let H3 : List Hn := H1 ++ [hO 6 Z1, ⟨9, .callV [] (B r5), none⟩]
  let P4 : List Prop := P2 ++ [(B (!r2)) = Z1, Meets Tryz.prog 44 [(I p1.Locks), (I 0), (I 4)] (B r5), litA (B r5) = true]
  have AP4 : AllP P4 := andP AP2 ⟨(litB c4), (spec_l1In_m hr5), rfl, trivial⟩
  rcases itS h with ⟨c6, h⟩ | ⟨c7, h⟩
  ·obtain rfl := sj h
   exact gR hP hn (H3 ++ [hO 12 Z0]) [] .raw (P4 ++ [(B (!r5)) = Z0, Z1 = Z1, litA Z1 = true]) (andP AP4 ⟨(litB c6), rfl, rfl, trivial⟩)
  ·obtain ⟨r8, hr8, h⟩ := bnS h
   let H5 : List Hn := H3 ++ [hO 12 Z1, ⟨15, .callV [] (B r8), none⟩]
   let P6 : List Prop := P4 ++ [(B (!r5)) = Z1, Meets Tryz.prog 44 [(I p1.Conds), (I 0), (I 2)] (B r8), litA (B r8) = true]
   have AP6 : AllP P6 := andP AP4 ⟨(litB c7), (spec_l1In_m hr8), rfl, trivial⟩
   rcases itS h with ⟨c9, h⟩ | ⟨c10, h⟩
   ·obtain rfl := sj h
    exact gR hP hn (H5 ++ [hO 18 Z0]) [] .raw (P6 ++ [(B (!r8)) = Z0, Z1 = Z1, litA Z1 = true]) (andP AP6 ⟨(litB c9), rfl, rfl, trivial⟩)
   ·obtain ⟨r11, hr11, h⟩ := bnS h
    let H7 : List Hn := H5 ++ [hO 18 Z1, hO 21 Z2, ⟨22, .callV [] (B r11), none⟩]
    let P8 : List Prop := P6 ++ [(B (!r8)) = Z1, AV.lit (.int .i64 Z3) = Z2, Meets Tryz.prog 44 [Z2, (I 1), (I 4)] (B r11), litA (B r11) = true]
    have AP8 : AllP P8 := andP AP6 ⟨(litB c10), (lenM r141), (spec_l1In_m hr11), rfl, trivial⟩
    rcases itS h with ⟨c12, h⟩ | ⟨c13, h⟩
    ·obtain rfl := sj h
     exact gR hP hn (H7 ++ [hT 25]) [] .raw (P8 ++ [(!r11) = true, Z1 = Z1, litA Z1 = true]) (andP AP8 ⟨c12, rfl, rfl, trivial⟩)
    ·exact gT hP hn hx (H7 ++ [hF 25, hO 28 Z2]) [(1001, 1)] [1, 31, 32, 33] [] (P8 ++ [(!r11) = false, AV.lit (.int .i64 Z3) = Z2, RenOK [(1001, 1)] [((r34 p1))]]) (andP AP8 ⟨c13, (lenM r141), (rok (treeB t34 p1)), trivial⟩) (spec_GoodProg_l0_m hP hn hx p1 FU p1 0 _ h)
noncomputable def body98 : Code := match Tryz.f98.body with | some c => c | none => .skip
noncomputable def spec_l1All_l0  (p1 : (List Int)) (p2 : Int) (p3 : Int) : Nat → Int → Option Bool
 | 0, _ => none
 | n + 1, v4 =>
 if (decide (v4 < (p1.length : Int))) = true then
  Option.bind (rd p1 v4) fun x6 =>
  Option.bind (spec_l1In x6 p2 p3) fun r7 =>
  if (!r7) = true then
   some false
  else
   spec_l1All_l0 p1 p2 p3 n (w64 (v4 + 1))
 else
  some true
theorem spec_l1All_l0_m {E : Env} (hP : E.P = Tryz.prog) (hn : E.n = 21) (hx : FX E []) (p1 : (List Int)) (p2 : Int) (p3 : Int)  : ∀ (n : Nat) (v4 : Int) (r : Bool), spec_l1All_l0 p1 p2 p3 n v4 = some r → WAt E body98 (FQ (RetE Θ Tryz.f98.results.toList [] [] (B r) E)) [true, false, true, false] ⟨[(1, (I p2)), (2, (I p3)), (9, (AV.ro 1 (p1.map o3))), (10, (I (p1.length : Int))), (11, (I v4))], [], [JJ]⟩ := by
 intro n
 induction n with
 | zero => intro v4 r h; simp only [spec_l1All_l0] at h; cases h
 | succ n ih =>
  intro v4 r h
  simp only [spec_l1All_l0] at h
  let Z0 := (decide (v4 < (p1.length : Int)))
  rcases itS h with ⟨c5, h⟩ | ⟨c10, h⟩
  ·obtain ⟨x6, hx6, h⟩ := bnS h
   obtain ⟨r7, hr7, h⟩ := bnS h
   let P1 : List Prop := [Z0 = true, (0 : Int) ≤ v4, (p1.map o3)[(Int.toNat v4)]? = some (o3 x6), Meets Tryz.prog 44 [(I x6), (I p2), (I p3)] (B r7), litA (B r7) = true]
   have AP1 : AllP P1 := ⟨c5, (rd0 hx6), (rdM o3 hx6), (spec_l1In_m hr7), rfl, trivial⟩
   rcases itS h with ⟨c8, h⟩ | ⟨c9, h⟩
   ·obtain rfl := sj h
    exact gR hP hn [hT 1, ⟨2, .row (o3 x6), none⟩, ⟨8, .callV [] (B r7), none⟩, hT 10] [] .raw (P1 ++ [(!r7) = true, (B false) = (B false), litA (B false) = true]) (andP AP1 ⟨c8, rfl, rfl, trivial⟩)
   ·exact gT hP hn hx [hT 1, ⟨2, .row (o3 x6), none⟩, ⟨8, .callV [] (B r7), none⟩, hF 10] [] [1, 2, 9, 10, 11] [] (P1 ++ [(!r7) = false]) (andP AP1 ⟨c9, trivial⟩) (ih (w64 (v4 + 1)) _ h)
  ·obtain rfl := sj h
   exact gR hP hn [hF 1] [] .raw [Z0 = false, (B true) = (B true), litA (B true) = true] ⟨c10, rfl, rfl, trivial⟩
noncomputable def spec_l1All (p1 : (List Int)) (p2 : Int) (p3 : Int) : Option Bool :=
 spec_l1All_l0 p1 p2 p3 FU 0
theorem spec_l1All_m {p1 : (List Int)} {p2 : Int} {p3 : Int} {r : Bool} (h : spec_l1All p1 p2 p3 = some r) : Meets Tryz.prog 98 [(AV.ro 1 (p1.map o3)), (I p2), (I p3)] (B r) := by
 refine gM Tryz.func98 21 body98 fun E hP hn hx => ?_
 unfold spec_l1All at h
 exact (let Z0 := (I (p1.length : Int)); gT hP hn hx [hO 2 Z0] [] [1, 2, 9, 10, 11] [] [AV.lit (.int .i64 (((p1.map o3).length : Nat) : Int)) = Z0] ⟨(lenM o3), trivial⟩ (spec_l1All_l0_m hP hn hx p1 p2 p3 FU 0 _ h))
noncomputable def body177 : Code := match Tryz.f177.body with | some c => c | none => .skip
noncomputable def spec_l3Thread_j1  (p1 : GProg) (p2 : GThread)  : Option Bool :=
 Option.bind (spec_l1In p2.Cond 0 (w64 (p1.Conds - 1))) fun r16 =>
 if r16 = true then
  Option.bind (spec_l1In p2.Lock 0 (w64 (p1.Locks - 1))) fun r18 =>
  some r18
 else
  some false
theorem spec_l3Thread_j1_m {E : Env} (hP : E.P = Tryz.prog) (hn : E.n = 66) (hx : FX E []) (p1 : GProg) (p2 : GThread)   (r : Bool) (h : spec_l3Thread_j1 p1 p2  = some r) : WAt E body177 (FQ (RetE Θ Tryz.f177.results.toList [] [] (B r) E)) [true, true, true, false, true, false] ⟨[(2, (AV.ptr 1 0 0)), (3, (AV.ptr 2 0 0))], [(1, some ⟨34, 4, [((r34 p1))]⟩), (2, some ⟨179, 6, [((r179 p2))]⟩)], [1, 2, JJ]⟩ := by
 unfold spec_l3Thread_j1 at h
 obtain ⟨r16, hr16, h⟩ := bnS h
 let Z0 := (B false)
 let P1 : List Prop := [Meets Tryz.prog 44 [(I p2.Cond), (I 0), (I (w64 (p1.Conds - 1)))] (B r16), litA (B r16) = true]
 have AP1 : AllP P1 := ⟨(spec_l1In_m hr16), rfl, trivial⟩
 rcases itS h with ⟨c17, h⟩ | ⟨c19, h⟩
 ·obtain ⟨r18, hr18, h⟩ := bnS h
  obtain rfl := sj h
  exact gR hP hn [⟨5, .callV [] (B r16), none⟩, hO 6 (B true), ⟨12, .callV [] (B r18), none⟩] [] .raw (P1 ++ [(B r16) = (B true), Meets Tryz.prog 44 [(I p2.Lock), (I 0), (I (w64 (p1.Locks - 1)))] (B r18), litA (B r18) = true, (B r18) = (B r18), litA (B r18) = true]) (andP AP1 ⟨(litB c17), (spec_l1In_m hr18), rfl, rfl, rfl, trivial⟩)
 ·obtain rfl := sj h
  exact gR hP hn [⟨5, .callV [] (B r16), none⟩, hO 6 Z0] [] .raw (P1 ++ [(B r16) = Z0, Z0 = Z0, litA Z0 = true]) (andP AP1 ⟨(litB c19), rfl, rfl, trivial⟩)
noncomputable def spec_l3Thread_j0  (p1 : GProg) (p2 : GThread)  : Option Bool :=
 Option.bind (rd p1.Routines p2.Routine) fun x11 =>
 Option.bind (spec_l1In p2.Pc 0 (x11.length : Int)) fun r12 =>
 if (!r12) = true then
  some false
 else
  if (p2.State == 3) = true then
   spec_l3Thread_j1 p1 p2
  else
   if (p2.State == 4) = true then
    spec_l3Thread_j1 p1 p2
   else
    if (p2.Cond == (-1)) = true then
     some (p2.Lock == (-1))
    else
     some false
theorem spec_l3Thread_j0_m {E : Env} (hP : E.P = Tryz.prog) (hn : E.n = 66) (hx : FX E []) (p1 : GProg) (p2 : GThread)   (r : Bool) (h : spec_l3Thread_j0 p1 p2  = some r) : WAt E body177 (FQ (RetE Θ Tryz.f177.results.toList [] [] (B r) E)) [true, false, true, true] ⟨[(2, (AV.ptr 1 0 0)), (3, (AV.ptr 2 0 0))], [(1, some ⟨34, 4, [((r34 p1))]⟩), (2, some ⟨179, 6, [((r179 p2))]⟩)], [1, 2, JJ]⟩ := by
 unfold spec_l3Thread_j0 at h
 obtain ⟨x11, hx11, h⟩ := bnS h
 obtain ⟨r12, hr12, h⟩ := bnS h
 let Z0 := (I (x11.length : Int)); let Z1 := (B false); let Z2 := (p2.State == 4); let Z3 := (B (p2.Cond == (-1))); let Z4 := (B (p2.Lock == (-1)))
 let H1 : List Hn := [⟨6, .row (r141 x11), none⟩, hO 8 Z0, ⟨9, .callV [] (B r12), none⟩]
 let P2 : List Prop := [(0 : Int) ≤ p2.Routine, (p1.Routines.map r141)[(Int.toNat p2.Routine)]? = some (r141 x11), AV.lit (.int .i64 (((x11.map o144).length : Nat) : Int)) = Z0, Meets Tryz.prog 44 [(I p2.Pc), (I 0), Z0] (B r12), litA (B r12) = true]
 have AP2 : AllP P2 := ⟨(rd0 hx11), (rdM r141 hx11), (lenM o144), (spec_l1In_m hr12), rfl, trivial⟩
 rcases itS h with ⟨c13, h⟩ | ⟨c14, h⟩
 ·obtain rfl := sj h
  exact gR hP hn (H1 ++ [hT 11]) [] .raw (P2 ++ [(!r12) = true, Z1 = Z1, litA Z1 = true]) (andP AP2 ⟨c13, rfl, rfl, trivial⟩)
 ·rcases itS h with ⟨c15, h⟩ | ⟨c20, h⟩
  ·exact gT hP hn hx (H1 ++ [hF 11, hO 15 (B true)]) [(1, 1), (2, 2)] [2, 3] [] (P2 ++ [(!r12) = false, (B (p2.State == 3)) = (B true), RenOK [(1, 1), (2, 2)] [((r34 p1))], RenOK [(1, 1), (2, 2)] [((r179 p2))]]) (andP AP2 ⟨c14, (litB c15), (rok (treeB t34 p1)), (rok (treeB t179 p2)), trivial⟩) (spec_l3Thread_j1_m hP hn hx p1 p2  _ h)
  ·let P3 : List Prop := P2 ++ [(!r12) = false, (B (p2.State == 3)) = Z1]
   have AP3 : AllP P3 := andP AP2 ⟨c14, (litB c20), trivial⟩
   rcases itS h with ⟨c21, h⟩ | ⟨c22, h⟩
   ·exact gT hP hn hx (H1 ++ [hF 11, hO 15 Z1, hT 20]) [(1, 1), (2, 2)] [2, 3] [] (P3 ++ [Z2 = true, RenOK [(1, 1), (2, 2)] [((r34 p1))], RenOK [(1, 1), (2, 2)] [((r179 p2))]]) (andP AP3 ⟨c21, (rok (treeB t34 p1)), (rok (treeB t179 p2)), trivial⟩) (spec_l3Thread_j1_m hP hn hx p1 p2  _ h)
   ·rcases itS h with ⟨c23, h⟩ | ⟨c24, h⟩
    ·obtain rfl := sj h
     exact gR hP hn (H1 ++ [hF 11, hO 15 Z1, hF 20, hO 24 (B true)]) [] .raw (P3 ++ [Z2 = false, Z3 = (B true), Z4 = Z4, litA Z4 = true]) (andP AP3 ⟨c22, (litB c23), rfl, rfl, trivial⟩)
    ·obtain rfl := sj h
     exact gR hP hn (H1 ++ [hF 11, hO 15 Z1, hF 20, hO 24 Z1]) [] .raw (P3 ++ [Z2 = false, Z3 = Z1, Z1 = Z1, litA Z1 = true]) (andP AP3 ⟨c22, (litB c24), rfl, rfl, trivial⟩)
noncomputable def spec_l3Thread (p1 : GProg) (p2 : GThread) : Option Bool :=
 Option.bind (spec_l1In p2.Routine 0 (w64 ((p1.Routines.length : Int) - 1))) fun r3 =>
 if (!r3) = true then
  some false
 else
  Option.bind (spec_l1In p2.State 1 4) fun r6 =>
  if (!r6) = true then
   some false
  else
   if (decide ((p2.Stack.length : Int) > 8)) = true then
    some false
   else
    spec_l3Thread_j0 p1 p2
theorem spec_l3Thread_m {p1 : GProg} {p2 : GThread} {r : Bool} (h : spec_l3Thread p1 p2 = some r) : Meets Tryz.prog 177 [(AV.agg ((r34 p1))), (AV.agg ((r179 p2)))] (B r) := by
 refine gM Tryz.func177 66 body177 fun E hP hn hx => ?_
 unfold spec_l3Thread at h
 obtain ⟨r3, hr3, h⟩ := bnS h
 let Z0 := (p1.Routines.length : Int); let Z1 := (B false); let Z2 := (p2.Stack.length : Int)
 let H1 : List Hn := [hW 0 1001, hW 1 1002, hO 7 (I Z0), ⟨9, .callV [] (B r3), none⟩]
 let P2 : List Prop := [AV.lit (.int .i64 (((p1.Routines.map r141).length : Nat) : Int)) = (I Z0), Meets Tryz.prog 44 [(I p2.Routine), (I 0), (I (w64 (Z0 - 1)))] (B r3), litA (B r3) = true]
 have AP2 : AllP P2 := ⟨(lenM r141), (spec_l1In_m hr3), rfl, trivial⟩
 rcases itS h with ⟨c4, h⟩ | ⟨c5, h⟩
 ·obtain rfl := sj h
  exact gR hP hn (H1 ++ [hO 11 (B true)]) [] .raw (P2 ++ [(B (!r3)) = (B true), Z1 = Z1, litA Z1 = true]) (andP AP2 ⟨(litB c4), rfl, rfl, trivial⟩)
 ·obtain ⟨r6, hr6, h⟩ := bnS h
  let H3 : List Hn := H1 ++ [hO 11 Z1, ⟨14, .callV [] (B r6), none⟩]
  let P4 : List Prop := P2 ++ [(B (!r3)) = Z1, Meets Tryz.prog 44 [(I p2.State), (I 1), (I 4)] (B r6), litA (B r6) = true]
  have AP4 : AllP P4 := andP AP2 ⟨(litB c5), (spec_l1In_m hr6), rfl, trivial⟩
  rcases itS h with ⟨c7, h⟩ | ⟨c8, h⟩
  ·obtain rfl := sj h
   exact gR hP hn (H3 ++ [hO 17 (B true)]) [] .raw (P4 ++ [(B (!r6)) = (B true), Z1 = Z1, litA Z1 = true]) (andP AP4 ⟨(litB c7), rfl, rfl, trivial⟩)
  ·let P5 : List Prop := P4 ++ [(B (!r6)) = Z1, AV.lit (.int .i64 (((p2.Stack.map o142).length : Nat) : Int)) = (I Z2)]
   have AP5 : AllP P5 := andP AP4 ⟨(litB c8), (lenM o142), trivial⟩
   rcases itS h with ⟨c9, h⟩ | ⟨c10, h⟩
   ·obtain rfl := sj h
    exact gR hP hn (H3 ++ [hO 17 Z1, hO 20 (I Z2), hT 23]) [] .raw (P5 ++ [(decide (Z2 > 8)) = true, Z1 = Z1, litA Z1 = true]) (andP AP5 ⟨c9, rfl, rfl, trivial⟩)
   ·exact gT hP hn hx (H3 ++ [hO 17 Z1, hO 20 (I Z2), hF 23]) [(1001, 1), (1002, 2)] [2, 3] [] (P5 ++ [(decide (Z2 > 8)) = false, RenOK [(1001, 1), (1002, 2)] [((r34 p1))], RenOK [(1001, 1), (1002, 2)] [((r179 p2))]]) (andP AP5 ⟨c10, (rok (treeB t34 p1)), (rok (treeB t179 p2)), trivial⟩) (spec_l3Thread_j0_m hP hn hx p1 p2  _ h)
noncomputable def body130 : Code := match Tryz.f130.body with | some c => c | none => .skip
noncomputable def spec_l3Good_l0  (p2 : GState) : Nat → GProg → GState → Int → Option Bool
 | 0, _, _, _ => none
 | n + 1, a13, a14, v15 =>
 if (decide (v15 < (p2.Threads.length : Int))) = true then
  Option.bind (rd p2.Threads v15) fun x17 =>
  Option.bind (spec_l3Thread a13 x17) fun r18 =>
  if (!r18) = true then
   some false
  else
   spec_l3Good_l0 p2 n a13 a14 (w64 (v15 + 1))
 else
  Option.bind (spec_l1All a14.Owner (-1) (w64 ((a14.Threads.length : Int) - 1))) fun r30 =>
  some r30
theorem spec_l3Good_l0_m {E : Env} (hP : E.P = Tryz.prog) (hn : E.n = 53) (hx : FX E []) (p2 : GState)  : ∀ (n : Nat) (a13 : GProg) (a14 : GState) (v15 : Int) (r : Bool), spec_l3Good_l0 p2 n a13 a14 v15 = some r → WAt E body130 (FQ (RetE Θ Tryz.f130.results.toList [] [] (B r) E)) [true, true, false, true, false] ⟨[(2, (AV.ptr 1 0 0)), (3, (AV.ptr 2 0 0)), (35, (AV.ro 6 (p2.Threads.map r179))), (36, (I (p2.Threads.length : Int))), (37, (I v15))], [(1, some ⟨34, 4, [((r34 a13))]⟩), (2, some ⟨57, 4, [((r57 a14))]⟩)], [1, 2, JJ]⟩ := by
 intro n
 induction n with
 | zero => intro a13 a14 v15 r h; simp only [spec_l3Good_l0] at h; cases h
 | succ n ih =>
  intro a13 a14 v15 r h
  simp only [spec_l3Good_l0] at h
  let Z0 := (decide (v15 < (p2.Threads.length : Int))); let Z1 := (a14.Threads.length : Int)
  rcases itS h with ⟨c16, h⟩ | ⟨c21, h⟩
  ·obtain ⟨x17, hx17, h⟩ := bnS h
   obtain ⟨r18, hr18, h⟩ := bnS h
   let H1 : List Hn := [hT 1, ⟨2, .row (r179 x17), none⟩, hW 4 1001, ⟨8, .callV [[], []] (B r18), none⟩]
   let P2 : List Prop := [Z0 = true, (0 : Int) ≤ v15, (p2.Threads.map r179)[(Int.toNat v15)]? = some (r179 x17), Meets Tryz.prog 177 [(AV.agg ((r34 a13))), (AV.agg ((r179 x17)))] (B r18), litA (B r18) = true]
   have AP2 : AllP P2 := ⟨c16, (rd0 hx17), (rdM r179 hx17), (spec_l3Thread_m hr18), rfl, trivial⟩
   rcases itS h with ⟨c19, h⟩ | ⟨c20, h⟩
   ·obtain rfl := sj h
    exact gR hP hn (H1 ++ [hT 10]) [] .raw (P2 ++ [(!r18) = true, (B false) = (B false), litA (B false) = true]) (andP AP2 ⟨c19, rfl, rfl, trivial⟩)
   ·exact gT hP hn hx (H1 ++ [hF 10]) [(1, 1), (2, 2)] [2, 3, 35, 36, 37] [] (P2 ++ [(!r18) = false, RenOK [(1, 1), (2, 2)] [((r34 a13))], RenOK [(1, 1), (2, 2)] [((r57 a14))]]) (andP AP2 ⟨c20, (rok (treeB t34 a13)), (rok (treeB t57 a14)), trivial⟩) (ih a13 a14 (w64 (v15 + 1)) _ h)
  ·obtain ⟨r30, hr30, h⟩ := bnS h
   obtain rfl := sj h
   exact gR hP hn [hF 1, hO 6 (I Z1), ⟨8, .callV [] (B r30), none⟩] [] .raw [Z0 = false, AV.lit (.int .i64 (((a14.Threads.map r179).length : Nat) : Int)) = (I Z1), Meets Tryz.prog 98 [(AV.ro 1 (a14.Owner.map o3)), (I (-1)), (I (w64 (Z1 - 1)))] (B r30), litA (B r30) = true, (B r30) = (B r30), litA (B r30) = true] ⟨c21, (lenM r179), (spec_l1All_m hr30), rfl, rfl, rfl, trivial⟩
noncomputable def spec_l3Good (p1 : GProg) (p2 : GState) : Option Bool :=
 Option.bind (spec_l1In (p2.Threads.length : Int) 1 5) fun r3 =>
 if (!r3) = true then
  some false
 else
  if ((p2.Cells.length : Int) != p1.Cells) = true then
   some false
  else
   if ((p2.Owner.length : Int) != p1.Locks) = true then
    some false
   else
    Option.bind (spec_l1In p2.Fault 0 4) fun r10 =>
    if (!r10) = true then
     some false
    else
     spec_l3Good_l0 p2 FU p1 p2 0
theorem spec_l3Good_m {p1 : GProg} {p2 : GState} {r : Bool} (h : spec_l3Good p1 p2 = some r) : Meets Tryz.prog 130 [(AV.agg ((r34 p1))), (AV.agg ((r57 p2)))] (B r) := by
 refine gM Tryz.func130 53 body130 fun E hP hn hx => ?_
 unfold spec_l3Good at h
 obtain ⟨r3, hr3, h⟩ := bnS h
 let Z0 := (I (p2.Threads.length : Int)); let Z1 := (((p2.Threads.map r179).length : Nat) : Int); let Z2 := (B true); let Z3 := (B false); let Z4 := (p2.Cells.length : Int); let Z5 := (p2.Owner.length : Int)
 let H1 : List Hn := [hW 0 1001, hW 1 1002, hO 5 Z0, ⟨6, .callV [] (B r3), none⟩]
 let P2 : List Prop := [AV.lit (.int .i64 Z1) = Z0, Meets Tryz.prog 44 [Z0, (I 1), (I 5)] (B r3), litA (B r3) = true]
 have AP2 : AllP P2 := ⟨(lenM r179), (spec_l1In_m hr3), rfl, trivial⟩
 rcases itS h with ⟨c4, h⟩ | ⟨c5, h⟩
 ·obtain rfl := sj h
  exact gR hP hn (H1 ++ [hO 8 Z2]) [] .raw (P2 ++ [(B (!r3)) = Z2, Z3 = Z3, litA Z3 = true]) (andP AP2 ⟨(litB c4), rfl, rfl, trivial⟩)
 ·let H3 : List Hn := H1 ++ [hO 8 Z3, hO 11 (I Z4)]
  let P4 : List Prop := P2 ++ [(B (!r3)) = Z3, AV.lit (.int .i64 (((p2.Cells.map o142).length : Nat) : Int)) = (I Z4)]
  have AP4 : AllP P4 := andP AP2 ⟨(litB c5), (lenM o142), trivial⟩
  rcases itS h with ⟨c6, h⟩ | ⟨c7, h⟩
  ·obtain rfl := sj h
   exact gR hP hn (H3 ++ [hO 16 Z2]) [] .raw (P4 ++ [(B (Z4 != p1.Cells)) = Z2, Z3 = Z3, litA Z3 = true]) (andP AP4 ⟨(litB c6), rfl, rfl, trivial⟩)
  ·let H5 : List Hn := H3 ++ [hO 16 Z3, hO 19 (I Z5)]
   let P6 : List Prop := P4 ++ [(B (Z4 != p1.Cells)) = Z3, AV.lit (.int .i64 (((p2.Owner.map o3).length : Nat) : Int)) = (I Z5)]
   have AP6 : AllP P6 := andP AP4 ⟨(litB c7), (lenM o3), trivial⟩
   rcases itS h with ⟨c8, h⟩ | ⟨c9, h⟩
   ·obtain rfl := sj h
    exact gR hP hn (H5 ++ [hO 24 Z2]) [] .raw (P6 ++ [(B (Z5 != p1.Locks)) = Z2, Z3 = Z3, litA Z3 = true]) (andP AP6 ⟨(litB c8), rfl, rfl, trivial⟩)
   ·obtain ⟨r10, hr10, h⟩ := bnS h
    let P7 : List Prop := P6 ++ [(B (Z5 != p1.Locks)) = Z3, Meets Tryz.prog 44 [(I p2.Fault), (I 0), (I 4)] (B r10), litA (B r10) = true]
    have AP7 : AllP P7 := andP AP6 ⟨(litB c9), (spec_l1In_m hr10), rfl, trivial⟩
    rcases itS h with ⟨c11, h⟩ | ⟨c12, h⟩
    ·obtain rfl := sj h
     exact gR hP hn (H5 ++ [hO 24 Z3, ⟨27, .callV [] (B r10), none⟩, hT 30]) [] .raw (P7 ++ [(!r10) = true, Z3 = Z3, litA Z3 = true]) (andP AP7 ⟨c11, rfl, rfl, trivial⟩)
    ·exact gT hP hn hx (H5 ++ [hO 24 Z3, ⟨27, .callV [] (B r10), none⟩, hF 30, hO 33 Z0]) [(1001, 1), (1002, 2)] [2, 3, 35, 36, 37] [] (P7 ++ [(!r10) = false, AV.lit (.int .i64 Z1) = Z0, RenOK [(1001, 1), (1002, 2)] [((r34 p1))], RenOK [(1001, 1), (1002, 2)] [((r57 p2))]]) (andP AP7 ⟨c12, (lenM r179), (rok (treeB t34 p1)), (rok (treeB t57 p2)), trivial⟩) (spec_l3Good_l0_m hP hn hx p2 FU p1 p2 0 _ h)
noncomputable def body67 : Code := match Tryz.f67.body with | some c => c | none => .skip
noncomputable def spec_GoodState (p1 : GProg) (p2 : GState) : Option Bool :=
 Option.bind (spec_GoodProg p1) fun r3 =>
 if r3 = true then
  Option.bind (spec_l3Good p1 p2) fun r5 =>
  some r5
 else
  some false
theorem spec_GoodState_m {p1 : GProg} {p2 : GState} {r : Bool} (h : spec_GoodState p1 p2 = some r) : Meets Tryz.prog 67 [(AV.agg ((r34 p1))), (AV.agg ((r57 p2)))] (B r) := by
 refine gM Tryz.func67 12 body67 fun E hP hn hx => ?_
 unfold spec_GoodState at h
 obtain ⟨r3, hr3, h⟩ := bnS h
 let Z0 := [(AV.agg ((r34 p1)))]; let Z1 := (B false)
 rcases itS h with ⟨c4, h⟩ | ⟨c6, h⟩
 ·obtain ⟨r5, hr5, h⟩ := bnS h
  obtain rfl := sj h
  exact gR hP hn [hW 0 1001, hW 1 1002, ⟨4, .callV [[]] (B r3), none⟩, hO 5 (B true), ⟨8, .callV [[], []] (B r5), none⟩] [] .raw [Meets Tryz.prog 41 Z0 (B r3), litA (B r3) = true, (B r3) = (B true), Meets Tryz.prog 130 [(AV.agg ((r34 p1))), (AV.agg ((r57 p2)))] (B r5), litA (B r5) = true, (B r5) = (B r5), litA (B r5) = true] ⟨(spec_GoodProg_m hr3), rfl, (litB c4), (spec_l3Good_m hr5), rfl, rfl, rfl, trivial⟩
 ·obtain rfl := sj h
  exact gR hP hn [hW 0 1001, hW 1 1002, ⟨4, .callV [[]] (B r3), none⟩, hO 5 Z1] [] .raw [Meets Tryz.prog 41 Z0 (B r3), litA (B r3) = true, (B r3) = Z1, Z1 = Z1, litA Z1 = true] ⟨(spec_GoodProg_m hr3), rfl, (litB c6), rfl, rfl, trivial⟩
noncomputable def body68 : Code := match Tryz.f68.body with | some c => c | none => .skip
noncomputable def spec_l1Has_l0  (p1 : (List Int)) (p2 : Int) : Nat → Int → Option Bool
 | 0, _ => none
 | n + 1, v3 =>
 if (decide (v3 < (p1.length : Int))) = true then
  Option.bind (rd p1 v3) fun x5 =>
  if (x5 == p2) = true then
   some true
  else
   spec_l1Has_l0 p1 p2 n (w64 (v3 + 1))
 else
  some false
theorem spec_l1Has_l0_m {E : Env} (hP : E.P = Tryz.prog) (hn : E.n = 17) (hx : FX E []) (p1 : (List Int)) (p2 : Int)  : ∀ (n : Nat) (v3 : Int) (r : Bool), spec_l1Has_l0 p1 p2 n v3 = some r → WAt E body68 (FQ (RetE Θ Tryz.f68.results.toList [] [] (B r) E)) [true, false, true, false] ⟨[(1, (I p2)), (7, (AV.ro 1 (p1.map o3))), (8, (I (p1.length : Int))), (9, (I v3))], [], [JJ]⟩ := by
 intro n
 induction n with
 | zero => intro v3 r h; simp only [spec_l1Has_l0] at h; cases h
 | succ n ih =>
  intro v3 r h
  simp only [spec_l1Has_l0] at h
  let Z0 := (decide (v3 < (p1.length : Int)))
  rcases itS h with ⟨c4, h⟩ | ⟨c8, h⟩
  ·obtain ⟨x5, hx5, h⟩ := bnS h
   let P1 : List Prop := [Z0 = true, (0 : Int) ≤ v3, (p1.map o3)[(Int.toNat v3)]? = some (o3 x5)]
   have AP1 : AllP P1 := ⟨c4, (rd0 hx5), (rdM o3 hx5), trivial⟩
   rcases itS h with ⟨c6, h⟩ | ⟨c7, h⟩
   ·obtain rfl := sj h
    exact gR hP hn [hT 1, ⟨2, .row (o3 x5), none⟩, hT 8] [] .raw (P1 ++ [(x5 == p2) = true, (B true) = (B true), litA (B true) = true]) (andP AP1 ⟨c6, rfl, rfl, trivial⟩)
   ·exact gT hP hn hx [hT 1, ⟨2, .row (o3 x5), none⟩, hF 8] [] [1, 7, 8, 9] [] (P1 ++ [(x5 == p2) = false]) (andP AP1 ⟨c7, trivial⟩) (ih (w64 (v3 + 1)) _ h)
  ·obtain rfl := sj h
   exact gR hP hn [hF 1] [] .raw [Z0 = false, (B false) = (B false), litA (B false) = true] ⟨c8, rfl, rfl, trivial⟩
noncomputable def spec_l1Has (p1 : (List Int)) (p2 : Int) : Option Bool :=
 spec_l1Has_l0 p1 p2 FU 0
theorem spec_l1Has_m {p1 : (List Int)} {p2 : Int} {r : Bool} (h : spec_l1Has p1 p2 = some r) : Meets Tryz.prog 68 [(AV.ro 1 (p1.map o3)), (I p2)] (B r) := by
 refine gM Tryz.func68 17 body68 fun E hP hn hx => ?_
 unfold spec_l1Has at h
 exact (let Z0 := (I (p1.length : Int)); gT hP hn hx [hO 2 Z0] [] [1, 7, 8, 9] [] [AV.lit (.int .i64 (((p1.map o3).length : Nat) : Int)) = Z0] ⟨(lenM o3), trivial⟩ (spec_l1Has_l0_m hP hn hx p1 p2 FU 0 _ h))
noncomputable def body205 : Code := match Tryz.f205.body with | some c => c | none => .skip
noncomputable def spec_ToIndex (p1 : Nat) (p2 : Int) : Option (Int × Bool) :=
 Option.bind (spec_l1In p2 1 1000) fun r3 =>
 if (!r3) = true then
  some (0, false)
 else
  if ((fcmp p1 0) == some .lt) = true then
   some (0, false)
  else
   if (!((fcmp p1 (fOf p2)) == some .lt)) = true then
    some (0, false)
   else
    Option.bind (fTo p1) fun x10 =>
    if ((fcmp (fOf x10) p1) != some .eq) = true then
     some (0, false)
    else
     Option.bind (fTo p1) fun x13 =>
     some (x13, true)
theorem spec_ToIndex_m {p1 : Nat} {p2 : Int} {r : (Int × Bool)} (h : spec_ToIndex p1 p2 = some r) : Meets Tryz.prog 205 [(FK p1), (I p2)] (AV.tup [(I r.1), (B r.2)]) := by
 refine gM Tryz.func205 29 body205 fun E hP hn hx => ?_
 unfold spec_ToIndex at h
 obtain ⟨r3, hr3, h⟩ := bnS h
 let Z0 := (B true); let Z1 := (B false); let Z2 := (fcmp p1 0); let Z3 := (fcmp p1 (fOf p2))
 let H1 : List Hn := [⟨3, .callV [] (B r3), none⟩]
 let P2 : List Prop := [Meets Tryz.prog 44 [(I p2), (I 1), (I 1000)] (B r3), litA (B r3) = true]
 have AP2 : AllP P2 := ⟨(spec_l1In_m hr3), rfl, trivial⟩
 rcases itS h with ⟨c4, h⟩ | ⟨c5, h⟩
 ·obtain rfl := sj h
  exact gR hP hn (H1 ++ [hO 5 Z0]) [] (.agg [.raw, .raw]) (P2 ++ [(B (!r3)) = Z0, (I 0) = (I 0), litA (I 0) = true, Z1 = Z1, litA Z1 = true]) (andP AP2 ⟨(litB c4), rfl, rfl, rfl, rfl, trivial⟩)
 ·let H3 : List Hn := H1 ++ [hO 5 Z1, ⟨7, .bin (B (Z2 == some .lt)), none⟩]
  let P4 : List Prop := P2 ++ [(B (!r3)) = Z1, BinS Tryz.prog .lss 142 (FK p1) (FK 0) (B (Z2 == some .lt))]
  have AP4 : AllP P4 := andP AP2 ⟨(litB c5), fLss, trivial⟩
  rcases itS h with ⟨c6, h⟩ | ⟨c7, h⟩
  ·obtain rfl := sj h
   exact gR hP hn (H3 ++ [hO 9 Z0]) [] (.agg [.raw, .raw]) (P4 ++ [(B (Z2 == some .lt)) = Z0, (I 0) = (I 0), litA (I 0) = true, Z1 = Z1, litA Z1 = true]) (andP AP4 ⟨(litB c6), rfl, rfl, rfl, rfl, trivial⟩)
  ·let H5 : List Hn := H3 ++ [hO 9 Z1, ⟨12, .cnv (FK (fOf p2)), none⟩, ⟨13, .bin (B (Z3 == some .lt)), none⟩]
   let P6 : List Prop := P4 ++ [(B (Z2 == some .lt)) = Z1, CnvS Tryz.prog 3 142 (I p2) (FK (fOf p2)), BinS Tryz.prog .lss 142 (FK p1) (FK (fOf p2)) (B (Z3 == some .lt))]
   have AP6 : AllP P6 := andP AP4 ⟨(litB c7), (cIF (P := Tryz.prog) ty3 ty142), fLss, trivial⟩
   rcases itS h with ⟨c8, h⟩ | ⟨c9, h⟩
   ·obtain rfl := sj h
    exact gR hP hn (H5 ++ [hO 16 Z0]) [] (.agg [.raw, .raw]) (P6 ++ [(B (!(Z3 == some .lt))) = Z0, (I 0) = (I 0), litA (I 0) = true, Z1 = Z1, litA Z1 = true]) (andP AP6 ⟨(litB c8), rfl, rfl, rfl, rfl, trivial⟩)
   ·obtain ⟨x10, hx10, h⟩ := bnS h
    let Z4 := (fcmp (fOf x10) p1)
    let H7 : List Hn := H5 ++ [hO 16 Z1, ⟨18, .cnv (I x10), none⟩, ⟨19, .cnv (FK (fOf x10)), none⟩, ⟨21, .bin (B (Z4 != some .eq)), none⟩]
    let P8 : List Prop := P6 ++ [(B (!(Z3 == some .lt))) = Z1, CnvS Tryz.prog 142 3 (FK p1) (I x10), CnvS Tryz.prog 3 142 (I x10) (FK (fOf x10)), BinS Tryz.prog .neq 142 (FK (fOf x10)) (FK p1) (B (Z4 != some .eq))]
    have AP8 : AllP P8 := andP AP6 ⟨(litB c9), (cFI (P := Tryz.prog) ty142 ty3 hx10), (cIF (P := Tryz.prog) ty3 ty142), fNeq, trivial⟩
    rcases itS h with ⟨c11, h⟩ | ⟨c12, h⟩
    ·obtain rfl := sj h
     exact gR hP hn (H7 ++ [hT 23]) [] (.agg [.raw, .raw]) (P8 ++ [(Z4 != some .eq) = true, (I 0) = (I 0), litA (I 0) = true, Z1 = Z1, litA Z1 = true]) (andP AP8 ⟨c11, rfl, rfl, rfl, rfl, trivial⟩)
    ·obtain ⟨x13, hx13, h⟩ := bnS h
     obtain rfl := sj h
     exact gR hP hn (H7 ++ [hF 23, ⟨25, .cnv (I x13), none⟩]) [] (.agg [.raw, .raw]) (P8 ++ [(Z4 != some .eq) = false, CnvS Tryz.prog 142 3 (FK p1) (I x13), (I x13) = (I x13), litA (I x13) = true, Z0 = Z0, litA Z0 = true]) (andP AP8 ⟨c12, (cFI (P := Tryz.prog) ty142 ty3 hx13), rfl, rfl, rfl, rfl, trivial⟩)
noncomputable def body178 : Code := match Tryz.f178.body with | some c => c | none => .skip
noncomputable def spec_l3Joins (p1 : GState) (p2 : GThread) : Option Int :=
 if ((p2.Stack.length : Int) == 0) = true then
  some (-1)
 else
  Option.bind (rd p2.Stack (w64 ((p2.Stack.length : Int) - 1))) fun x5 =>
  Option.bind (spec_ToIndex x5 (p1.Threads.length : Int)) fun r6 =>
  if (!r6.2) = true then
   some (-1)
  else
   some r6.1
theorem spec_l3Joins_m {p1 : GState} {p2 : GThread} {r : Int} (h : spec_l3Joins p1 p2 = some r) : Meets Tryz.prog 178 [(AV.agg ((r57 p1))), (AV.agg ((r179 p2)))] (I r) := by
 refine gM Tryz.func178 29 body178 fun E hP hn hx => ?_
 unfold spec_l3Joins at h
 let Z0 := (p2.Stack.length : Int); let Z1 := (((p2.Stack.map o142).length : Nat) : Int); let Z2 := (I (-1)); let Z3 := (I (p1.Threads.length : Int))
 let H1 : List Hn := [hW 0 1001, hW 1 1002, hO 5 (I Z0)]
 let P2 : List Prop := [AV.lit (.int .i64 Z1) = (I Z0)]
 have AP2 : AllP P2 := ⟨(lenM o142), trivial⟩
 rcases itS h with ⟨c3, h⟩ | ⟨c4, h⟩
 ·obtain rfl := sj h
  exact gR hP hn (H1 ++ [hT 7]) [] .raw (P2 ++ [(Z0 == 0) = true, Z2 = Z2, litA Z2 = true]) (andP AP2 ⟨c3, rfl, rfl, trivial⟩)
 ·obtain ⟨x5, hx5, h⟩ := bnS h
  obtain ⟨r6, hr6, h⟩ := bnS h
  let Z4 := (AV.tup [(I r6.1), (B r6.2)])
  let H3 : List Hn := H1 ++ [hF 7, hO 12 (I Z0), ⟨14, .row (o142 x5), none⟩, hO 18 Z3, ⟨19, .callV [] Z4, none⟩]
  let P4 : List Prop := P2 ++ [(Z0 == 0) = false, AV.lit (.int .i64 Z1) = (I Z0), (0 : Int) ≤ (w64 (Z0 - 1)), (p2.Stack.map o142)[(Int.toNat (w64 (Z0 - 1)))]? = some (o142 x5), AV.lit (.int .i64 (((p1.Threads.map r179).length : Nat) : Int)) = Z3, Meets Tryz.prog 205 [(FK x5), Z3] Z4, litA Z4 = true]
  have AP4 : AllP P4 := andP AP2 ⟨c4, (lenM o142), (rd0 hx5), (rdM o142 hx5), (lenM r179), (spec_ToIndex_m hr6), rfl, trivial⟩
  rcases itS h with ⟨c7, h⟩ | ⟨c8, h⟩
  ·obtain rfl := sj h
   exact gR hP hn (H3 ++ [hT 27]) [] .raw (P4 ++ [(!r6.2) = true, Z2 = Z2, litA Z2 = true]) (andP AP4 ⟨c7, rfl, rfl, trivial⟩)
  ·obtain rfl := sj h
   exact gR hP hn (H3 ++ [hF 27]) [] .raw (P4 ++ [(!r6.2) = false, (I r6.1) = (I r6.1), litA (I r6.1) = true]) (andP AP4 ⟨c8, rfl, rfl, trivial⟩)
noncomputable def body132 : Code := match Tryz.f132.body with | some c => c | none => .skip
noncomputable def spec_l3Next (p1 : GProg) (p2 : GThread) : Option (GOp × Bool) :=
 Option.bind (rd p1.Routines p2.Routine) fun x3 =>
 if (p2.Pc == (x3.length : Int)) = true then
  some ((GOp.mk 0 0 0 0), false)
 else
  Option.bind (rd x3 p2.Pc) fun x6 =>
  some (x6, true)
theorem spec_l3Next_m {p1 : GProg} {p2 : GThread} {r : (GOp × Bool)} (h : spec_l3Next p1 p2 = some r) : Meets Tryz.prog 132 [(AV.agg ((r34 p1))), (AV.agg ((r179 p2)))] (AV.tup [(AV.agg (o144 r.1)), (B r.2)]) := by
 refine gM Tryz.func132 24 body132 fun E hP hn hx => ?_
 unfold spec_l3Next at h
 obtain ⟨x3, hx3, h⟩ := bnS h
 let Z0 := (I (x3.length : Int)); let Z1 := (p2.Pc == (x3.length : Int)); let Z2 := (AV.agg [(I 0), (I 0), (I 0), (FK 0)])
 let H1 : List Hn := [hW 0 1001, hW 1 1002, hW 2 1003, ⟨8, .row (r141 x3), none⟩, hO 14 Z0]
 let P2 : List Prop := [(0 : Int) ≤ p2.Routine, (p1.Routines.map r141)[(Int.toNat p2.Routine)]? = some (r141 x3), AV.lit (.int .i64 (((x3.map o144).length : Nat) : Int)) = Z0]
 have AP2 : AllP P2 := ⟨(rd0 hx3), (rdM r141 hx3), (lenM o144), trivial⟩
 rcases itS h with ⟨c4, h⟩ | ⟨c5, h⟩
 ·obtain rfl := sj h
  exact gR hP hn (H1 ++ [hT 16]) [] (.agg [.raw, .raw]) (P2 ++ [Z1 = true, Z2 = Z2, litA Z2 = true, (B false) = (B false), litA (B false) = true]) (andP AP2 ⟨c4, rfl, rfl, rfl, rfl, trivial⟩)
 ·obtain ⟨x6, hx6, h⟩ := bnS h
  obtain rfl := sj h
  exact (let Z3 := (AV.agg ((o144 x6))); gR hP hn (H1 ++ [hF 16, ⟨20, .row (o144 x6), none⟩]) [] (.agg [.raw, .raw]) (P2 ++ [Z1 = false, (0 : Int) ≤ p2.Pc, (x3.map o144)[(Int.toNat p2.Pc)]? = some (o144 x6), Z3 = Z3, litA Z3 = true, (B true) = (B true), litA (B true) = true]) (andP AP2 ⟨c5, (rd0 hx6), (rdM o144 hx6), rfl, rfl, rfl, rfl, trivial⟩))
noncomputable def body131 : Code := match Tryz.f131.body with | some c => c | none => .skip
noncomputable def spec_l3Blocks_j0  (p2 : GState) (p3 : GThread) (r7 : (GOp × Bool))  : Option Int :=
 if (r7.1.Code == 12) = true then
  Option.bind (rd p2.Owner r7.1.A) fun x13 =>
  some x13
 else
  if (r7.1.Code == 15) = true then
   Option.bind (spec_l3Joins p2 p3) fun r16 =>
   if (decide (r16 ≥ 0)) = true then
    Option.bind (rd p2.Threads r16) fun x18 =>
    if (x18.State != 2) = true then
     some r16
    else
     some (-1)
   else
    some (-1)
  else
   some (-1)
theorem spec_l3Blocks_j0_m {E : Env} (hP : E.P = Tryz.prog) (hn : E.n = 59) (hx : FX E []) (p2 : GState) (p3 : GThread) (r7 : (GOp × Bool))   (r : Int) (h : spec_l3Blocks_j0 p2 p3 r7  = some r) : WAt E body131 (FQ (RetE Θ Tryz.f131.results.toList [] [] (I r) E)) [true, true, true, false, true, true] ⟨[(4, (AV.ptr 1 0 0)), (5, (AV.ptr 2 0 0)), (7, (AV.ptr 3 0 0))], [(1, some ⟨57, 4, [((r57 p2))]⟩), (2, some ⟨179, 6, [((r179 p3))]⟩), (3, some ⟨144, 4, [((o144 r7.1))]⟩)], [1, 2, 3, JJ]⟩ := by
 unfold spec_l3Blocks_j0 at h
 let Z0 := (r7.1.Code == 12); let Z2 := (I (-1))
 rcases itS h with ⟨c12, h⟩ | ⟨c14, h⟩
 ·obtain ⟨x13, hx13, h⟩ := bnS h
  obtain rfl := sj h
  exact gR hP hn [hT 4, ⟨9, .row (o3 x13), none⟩] [] .raw [Z0 = true, (0 : Int) ≤ r7.1.A, (p2.Owner.map o3)[(Int.toNat r7.1.A)]? = some (o3 x13), (I x13) = (I x13), litA (I x13) = true] ⟨c12, (rd0 hx13), (rdM o3 hx13), rfl, rfl, trivial⟩
 ·rcases itS h with ⟨c15, h⟩ | ⟨c22, h⟩
  ·obtain ⟨r16, hr16, h⟩ := bnS h
   let Z1 := (B (decide (r16 ≥ 0)))
   let H1 : List Hn := [hF 4, hT 7, ⟨10, .callV [[], []] (I r16), none⟩]
   let P2 : List Prop := [Z0 = false, (r7.1.Code == 15) = true, Meets Tryz.prog 178 [(AV.agg ((r57 p2))), (AV.agg ((r179 p3)))] (I r16), litA (I r16) = true]
   have AP2 : AllP P2 := ⟨c14, c15, (spec_l3Joins_m hr16), rfl, trivial⟩
   rcases itS h with ⟨c17, h⟩ | ⟨c21, h⟩
   ·obtain ⟨x18, hx18, h⟩ := bnS h
    let P3 : List Prop := P2 ++ [Z1 = (B true), (0 : Int) ≤ r16, (p2.Threads.map r179)[(Int.toNat r16)]? = some (r179 x18)]
    have AP3 : AllP P3 := andP AP2 ⟨(litB c17), (rd0 hx18), (rdM r179 hx18), trivial⟩
    rcases itS h with ⟨c19, h⟩ | ⟨c20, h⟩
    ·obtain rfl := sj h
     exact gR hP hn (H1 ++ [hO 14 (B true), ⟨18, .row (r179 x18), none⟩, hT 23]) [] .raw (P3 ++ [(x18.State != 2) = true, (I r16) = (I r16), litA (I r16) = true]) (andP AP3 ⟨c19, rfl, rfl, trivial⟩)
    ·obtain rfl := sj h
     exact gR hP hn (H1 ++ [hO 14 (B true), ⟨18, .row (r179 x18), none⟩, hF 23]) [] .raw (P3 ++ [(x18.State != 2) = false, Z2 = Z2, litA Z2 = true]) (andP AP3 ⟨c20, rfl, rfl, trivial⟩)
   ·obtain rfl := sj h
    exact gR hP hn (H1 ++ [hO 14 (B false)]) [] .raw (P2 ++ [Z1 = (B false), Z2 = Z2, litA Z2 = true]) (andP AP2 ⟨(litB c21), rfl, rfl, trivial⟩)
  ·obtain rfl := sj h
   exact gR hP hn [hF 4, hF 7] [] .raw [Z0 = false, (r7.1.Code == 15) = false, Z2 = Z2, litA Z2 = true] ⟨c14, c22, rfl, rfl, trivial⟩
noncomputable def spec_l3Blocks (p1 : GProg) (p2 : GState) (p3 : GThread) : Option Int :=
 if (p3.State == 4) = true then
  Option.bind (rd p2.Owner p3.Lock) fun x5 =>
  some x5
 else
  Option.bind (spec_l3Next p1 p3) fun r7 =>
  if (p3.State != 1) = true then
   some (-1)
  else
   if (!r7.2) = true then
    some (-1)
   else
    spec_l3Blocks_j0 p2 p3 r7
theorem spec_l3Blocks_m {p1 : GProg} {p2 : GState} {p3 : GThread} {r : Int} (h : spec_l3Blocks p1 p2 p3 = some r) : Meets Tryz.prog 131 [(AV.agg ((r34 p1))), (AV.agg ((r57 p2))), (AV.agg ((r179 p3)))] (I r) := by
 refine gM Tryz.func131 59 body131 fun E hP hn hx => ?_
 unfold spec_l3Blocks at h
 let Z1 := (B (p3.State != 1)); let Z2 := (I (-1))
 let H1 : List Hn := [hW 0 1001, hW 1 1002, hW 2 1003]
 rcases itS h with ⟨c4, h⟩ | ⟨c6, h⟩
 ·obtain ⟨x5, hx5, h⟩ := bnS h
  obtain rfl := sj h
  exact gR hP hn (H1 ++ [hT 7, ⟨12, .row (o3 x5), none⟩]) [] .raw [(p3.State == 4) = true, (0 : Int) ≤ p3.Lock, (p2.Owner.map o3)[(Int.toNat p3.Lock)]? = some (o3 x5), (I x5) = (I x5), litA (I x5) = true] ⟨c4, (rd0 hx5), (rdM o3 hx5), rfl, rfl, trivial⟩
 ·obtain ⟨r7, hr7, h⟩ := bnS h
  let Z0 := (AV.tup [(AV.agg (o144 r7.1)), (B r7.2)])
  let H2 : List Hn := H1 ++ [hF 7, ⟨10, .callV [[], []] Z0, none⟩, hW 14 1004]
  let P3 : List Prop := [(p3.State == 4) = false, Meets Tryz.prog 132 [(AV.agg ((r34 p1))), (AV.agg ((r179 p3)))] Z0, litA Z0 = true]
  have AP3 : AllP P3 := ⟨c6, (spec_l3Next_m hr7), rfl, trivial⟩
  rcases itS h with ⟨c8, h⟩ | ⟨c9, h⟩
  ·obtain rfl := sj h
   exact gR hP hn (H2 ++ [hO 20 (B true)]) [] .raw (P3 ++ [Z1 = (B true), Z2 = Z2, litA Z2 = true]) (andP AP3 ⟨(litB c8), rfl, rfl, trivial⟩)
  ·rcases itS h with ⟨c10, h⟩ | ⟨c11, h⟩
   ·obtain rfl := sj h
    exact gR hP hn (H2 ++ [hO 20 (B false), hT 24]) [] .raw (P3 ++ [Z1 = (B false), (!r7.2) = true, Z2 = Z2, litA Z2 = true]) (andP AP3 ⟨(litB c9), c10, rfl, rfl, trivial⟩)
   ·exact gT hP hn hx (H2 ++ [hO 20 (B false), hF 24]) [(1002, 1), (1003, 2), (1004, 3)] [4, 5, 7] [] (P3 ++ [Z1 = (B false), (!r7.2) = false, RenOK [(1002, 1), (1003, 2), (1004, 3)] [((r57 p2))], RenOK [(1002, 1), (1003, 2), (1004, 3)] [((r179 p3))], RenOK [(1002, 1), (1003, 2), (1004, 3)] [((o144 r7.1))]]) (andP AP3 ⟨(litB c9), c11, (rok (treeB t57 p2)), (rok (treeB t179 p3)), (rok rfl), trivial⟩) (spec_l3Blocks_j0_m hP hn hx p2 p3 r7  _ h)
noncomputable def body69 : Code := match Tryz.f69.body with | some c => c | none => .skip
noncomputable def spec_l3Enabled_l0  (p2 : GState) : Nat → GProg → GState → (List Int) → Int → Option (List Int)
 | 0, _, _, _, _ => none
 | n + 1, a3, a4, a5, v6 =>
 if (decide (v6 < (p2.Threads.length : Int))) = true then
  Option.bind (rd p2.Threads v6) fun x8 =>
  if (a4.Fault == 0) = true then
   if (x8.State == 1) = true then
    Option.bind (spec_l3Blocks a3 a4 x8) fun r11 =>
    if (decide (r11 < 0)) = true then
     Option.bind (app a5 [v6]) fun l13 =>
     spec_l3Enabled_l0 p2 n a3 a4 l13 (w64 (v6 + 1))
    else
     spec_l3Enabled_l0 p2 n a3 a4 a5 (w64 (v6 + 1))
   else
    if (x8.State == 4) = true then
     Option.bind (spec_l3Blocks a3 a4 x8) fun r17 =>
     if (decide (r17 < 0)) = true then
      Option.bind (app a5 [v6]) fun l19 =>
      spec_l3Enabled_l0 p2 n a3 a4 l19 (w64 (v6 + 1))
     else
      spec_l3Enabled_l0 p2 n a3 a4 a5 (w64 (v6 + 1))
    else
     spec_l3Enabled_l0 p2 n a3 a4 a5 (w64 (v6 + 1))
  else
   spec_l3Enabled_l0 p2 n a3 a4 a5 (w64 (v6 + 1))
 else
  some a5
theorem spec_l3Enabled_l0_m {E : Env} (hP : E.P = Tryz.prog) (hn : E.n = 42) (hx : FX E []) (p2 : GState)  : ∀ (n : Nat) (a3 : GProg) (a4 : GState) (a5 : (List Int)) (v6 : Int) (r : (List Int)), spec_l3Enabled_l0 p2 n a3 a4 a5 v6 = some r → WAt E body69 (FQ (RetE Θ Tryz.f69.results.toList [] [] (AV.own 3 1 (r.map o3)) E)) [true, true, false, true, false] ⟨[(2, (AV.ptr 1 0 0)), (3, (AV.ptr 2 0 0)), (5, (AV.sl 3 0 (List.length (a5.map o3)))), (9, (AV.ro 6 (p2.Threads.map r179))), (10, (I (p2.Threads.length : Int))), (11, (I v6))], [(1, some ⟨34, 4, [((r34 a3))]⟩), (2, some ⟨57, 4, [((r57 a4))]⟩), (3, some ⟨3, 1, (a5.map o3)⟩)], [1, 2, 3, JJ]⟩ := by
 intro n
 induction n with
 | zero => intro a3 a4 a5 v6 r h; simp only [spec_l3Enabled_l0] at h; cases h
 | succ n ih =>
  intro a3 a4 a5 v6 r h
  simp only [spec_l3Enabled_l0] at h
  let Z0 := (decide (v6 < (p2.Threads.length : Int))); let Z1 := (B true); let Z3 := ((r34 a3)); let Z4 := ((r57 a4)); let Z7 := (a5.map o3); let Z8 := (List.length Z7); let Z9 := ((([v6].map o3).drop 0).take (List.length ([v6].map o3))); let Z10 := (B false)
  rcases itS h with ⟨c7, h⟩ | ⟨c23, h⟩
  ·obtain ⟨x8, hx8, h⟩ := bnS h
   let Z2 := (B (x8.State == 1)); let Z5 := [(AV.agg Z3), (AV.agg Z4), (AV.agg ((r179 x8)))]
   let H1 : List Hn := [hT 1, ⟨3, .row (r179 x8), none⟩, hW 5 1001]
   let P2 : List Prop := [Z0 = true, (0 : Int) ≤ v6, (p2.Threads.map r179)[(Int.toNat v6)]? = some (r179 x8)]
   have AP2 : AllP P2 := ⟨c7, (rd0 hx8), (rdM r179 hx8), trivial⟩
   rcases itS h with ⟨c9, h⟩ | ⟨c22, h⟩
   ·let P3 : List Prop := P2 ++ [(B (a4.Fault == 0)) = Z1]
    have AP3 : AllP P3 := andP AP2 ⟨(litB c9), trivial⟩
    rcases itS h with ⟨c10, h⟩ | ⟨c15, h⟩
    ·obtain ⟨r11, hr11, h⟩ := bnS h
     let H4 : List Hn := H1 ++ [hO 11 Z1, hO 15 Z1, ⟨25, .callV [[], [], []] (I r11), none⟩]
     let P5 : List Prop := P3 ++ [Z2 = Z1, Meets Tryz.prog 131 Z5 (I r11), litA (I r11) = true]
     have AP5 : AllP P5 := andP AP3 ⟨(litB c10), (spec_l3Blocks_m hr11), rfl, trivial⟩
     rcases itS h with ⟨c12, h⟩ | ⟨c14, h⟩
     ·obtain ⟨l13, hl13, h⟩ := bnS h
      exact (let Z6 := (l13.map o3); gT hP hn hx (H4 ++ [hT 28, hW 31 1002, ⟨32, .app 1003 Z6, none⟩]) [(1, 1), (2, 2), (1003, 3)] [2, 3, 5, 9, 10, 11] [] (P5 ++ [(decide (r11 < 0)) = true, Z7.take Z8 ++ Z9 = Z6, Z9.all (fun r => r.all AV.plain) = true, (List.length Z6) * 8 ≤ 140737488355328, (List.length Z6) ≤ 140737488355328, RenOK [(1, 1), (2, 2), (1003, 3)] [Z3], RenOK [(1, 1), (2, 2), (1003, 3)] [Z4], RenOK [(1, 1), (2, 2), (1003, 3)] Z6]) (andP AP5 ⟨c12, (appTD o3 hl13), (plD pa3), (appB o3 hl13 (by decide)), (appC o3 hl13), (rok (treeB t34 a3)), (rok (treeB t57 a4)), (rok (treeM t3)), trivial⟩) (ih a3 a4 l13 (w64 (v6 + 1)) _ h))
     ·exact gT hP hn hx (H4 ++ [hF 28]) [(1, 1), (2, 2), (3, 3)] [2, 3, 5, 9, 10, 11] [] (P5 ++ [(decide (r11 < 0)) = false, RenOK [(1, 1), (2, 2), (3, 3)] [Z3], RenOK [(1, 1), (2, 2), (3, 3)] [Z4], RenOK [(1, 1), (2, 2), (3, 3)] Z7]) (andP AP5 ⟨c14, (rok (treeB t34 a3)), (rok (treeB t57 a4)), (rok (treeM t3)), trivial⟩) (ih a3 a4 a5 (w64 (v6 + 1)) _ h)
    ·rcases itS h with ⟨c16, h⟩ | ⟨c21, h⟩
     ·obtain ⟨r17, hr17, h⟩ := bnS h
      let H6 : List Hn := H1 ++ [hO 11 Z1, hO 15 Z10, hO 21 Z1, ⟨25, .callV [[], [], []] (I r17), none⟩]
      let P7 : List Prop := P3 ++ [Z2 = Z10, (B (x8.State == 4)) = Z1, Meets Tryz.prog 131 Z5 (I r17), litA (I r17) = true]
      have AP7 : AllP P7 := andP AP3 ⟨(litB c15), (litB c16), (spec_l3Blocks_m hr17), rfl, trivial⟩
      rcases itS h with ⟨c18, h⟩ | ⟨c20, h⟩
      ·obtain ⟨l19, hl19, h⟩ := bnS h
       exact (let Z11 := (l19.map o3); gT hP hn hx (H6 ++ [hT 28, hW 31 1004, ⟨32, .app 1005 Z11, none⟩]) [(1, 1), (2, 2), (1005, 3)] [2, 3, 5, 9, 10, 11] [] (P7 ++ [(decide (r17 < 0)) = true, Z7.take Z8 ++ Z9 = Z11, Z9.all (fun r => r.all AV.plain) = true, (List.length Z11) * 8 ≤ 140737488355328, (List.length Z11) ≤ 140737488355328, RenOK [(1, 1), (2, 2), (1005, 3)] [Z3], RenOK [(1, 1), (2, 2), (1005, 3)] [Z4], RenOK [(1, 1), (2, 2), (1005, 3)] Z11]) (andP AP7 ⟨c18, (appTD o3 hl19), (plD pa3), (appB o3 hl19 (by decide)), (appC o3 hl19), (rok (treeB t34 a3)), (rok (treeB t57 a4)), (rok (treeM t3)), trivial⟩) (ih a3 a4 l19 (w64 (v6 + 1)) _ h))
      ·exact gT hP hn hx (H6 ++ [hF 28]) [(1, 1), (2, 2), (3, 3)] [2, 3, 5, 9, 10, 11] [] (P7 ++ [(decide (r17 < 0)) = false, RenOK [(1, 1), (2, 2), (3, 3)] [Z3], RenOK [(1, 1), (2, 2), (3, 3)] [Z4], RenOK [(1, 1), (2, 2), (3, 3)] Z7]) (andP AP7 ⟨c20, (rok (treeB t34 a3)), (rok (treeB t57 a4)), (rok (treeM t3)), trivial⟩) (ih a3 a4 a5 (w64 (v6 + 1)) _ h)
     ·exact gT hP hn hx (H1 ++ [hO 11 Z1, hO 15 Z10, hO 21 Z10]) [(1, 1), (2, 2), (3, 3)] [2, 3, 5, 9, 10, 11] [] (P3 ++ [Z2 = Z10, (B (x8.State == 4)) = Z10, RenOK [(1, 1), (2, 2), (3, 3)] [Z3], RenOK [(1, 1), (2, 2), (3, 3)] [Z4], RenOK [(1, 1), (2, 2), (3, 3)] Z7]) (andP AP3 ⟨(litB c15), (litB c21), (rok (treeB t34 a3)), (rok (treeB t57 a4)), (rok (treeM t3)), trivial⟩) (ih a3 a4 a5 (w64 (v6 + 1)) _ h)
   ·exact gT hP hn hx (H1 ++ [hO 11 Z10]) [(1, 1), (2, 2), (3, 3)] [2, 3, 5, 9, 10, 11] [] (P2 ++ [(B (a4.Fault == 0)) = Z10, RenOK [(1, 1), (2, 2), (3, 3)] [Z3], RenOK [(1, 1), (2, 2), (3, 3)] [Z4], RenOK [(1, 1), (2, 2), (3, 3)] Z7]) (andP AP2 ⟨(litB c22), (rok (treeB t34 a3)), (rok (treeB t57 a4)), (rok (treeM t3)), trivial⟩) (ih a3 a4 a5 (w64 (v6 + 1)) _ h)
  ·obtain rfl := sj h
   exact gR hP hn [hF 1] [] .own [Z0 = false, treeLL (Z7.take Z8) = true, Z7.take Z8 = Z7, noRoLL Z7 = true] ⟨c23, (treeT t3), takeM, (noRoM n3), trivial⟩
noncomputable def spec_l3Enabled (p1 : GProg) (p2 : GState) : Option (List Int) :=
 spec_l3Enabled_l0 p2 FU p1 p2 [] 0
theorem spec_l3Enabled_m {p1 : GProg} {p2 : GState} {r : (List Int)} (h : spec_l3Enabled p1 p2 = some r) : Meets Tryz.prog 69 [(AV.agg ((r34 p1))), (AV.agg ((r57 p2)))] (AV.own 3 1 (r.map o3)) := by
 refine gM Tryz.func69 42 body69 fun E hP hn hx => ?_
 unfold spec_l3Enabled at h
 exact (let Z0 := (I (p2.Threads.length : Int)); gT hP hn hx [hW 0 1001, hW 1 1002, hO 6 Z0, ⟨8, .nil 5 1003 3 1, none⟩] [(1001, 1), (1002, 2), (1003, 3)] [2, 3, 5, 9, 10, 11] [] [AV.lit (.int .i64 (((p2.Threads.map r179).length : Nat) : Int)) = Z0, RenOK [(1001, 1), (1002, 2), (1003, 3)] [((r34 p1))], RenOK [(1001, 1), (1002, 2), (1003, 3)] [((r57 p2))], RenOK [(1001, 1), (1002, 2), (1003, 3)] ([].map o3)] ⟨(lenM r179), (rok (treeB t34 p1)), (rok (treeB t57 p2)), (rok (treeM t3)), trivial⟩ (spec_l3Enabled_l0_m hP hn hx p2 FU p1 p2 [] 0 _ h))
noncomputable def body179 : Code := match Tryz.f179.body with | some c => c | none => .skip
noncomputable def spec_l3Takes_j1  (p1 : Int) (v7 : Bool) : Option (Int × Int) :=
 if v7 = true then
  some (1, 0)
 else
  Option.bind (spec_l1In p1 4 9) fun r10 =>
  if r10 = true then
   some (2, 1)
  else
   some (0, 0)
theorem spec_l3Takes_j1_m {E : Env} (hP : E.P = Tryz.prog) (hn : E.n = 15) (hx : FX E []) (p1 : Int)  (v7 : Bool) (r : (Int × Int)) (h : spec_l3Takes_j1 p1 v7 = some r) : WAt E body179 (FQ (RetE Θ Tryz.f179.results.toList [] [] (AV.tup [(I r.1), (I r.2)]) E)) [true, false, true, false, true, true, true] ⟨[(0, (I p1)), (9, (B v7))], [], [JJ]⟩ := by
 unfold spec_l3Takes_j1 at h
 rcases itS h with ⟨c8, h⟩ | ⟨c9, h⟩
 ·obtain rfl := sj h
  exact gR hP hn [hT 0] [] (.agg [.raw, .raw]) [v7 = true, (I 1) = (I 1), litA (I 1) = true, (I 0) = (I 0), litA (I 0) = true] ⟨c8, rfl, rfl, rfl, rfl, trivial⟩
 ·obtain ⟨r10, hr10, h⟩ := bnS h
  let P1 : List Prop := [v7 = false, Meets Tryz.prog 44 [(I p1), (I 4), (I 9)] (B r10), litA (B r10) = true]
  have AP1 : AllP P1 := ⟨c9, (spec_l1In_m hr10), rfl, trivial⟩
  rcases itS h with ⟨c11, h⟩ | ⟨c12, h⟩
  ·obtain rfl := sj h
   exact gR hP hn [hF 0, ⟨2, .callV [] (B r10), none⟩, hT 3] [] (.agg [.raw, .raw]) (P1 ++ [r10 = true, (I 2) = (I 2), litA (I 2) = true, (I 1) = (I 1), litA (I 1) = true]) (andP AP1 ⟨c11, rfl, rfl, rfl, rfl, trivial⟩)
  ·obtain rfl := sj h
   exact gR hP hn [hF 0, ⟨2, .callV [] (B r10), none⟩, hF 3] [] (.agg [.raw, .raw]) (P1 ++ [r10 = false, (I 0) = (I 0), litA (I 0) = true, (I 0) = (I 0), litA (I 0) = true]) (andP AP1 ⟨c12, rfl, rfl, rfl, rfl, trivial⟩)
noncomputable def spec_l3Takes_j0  (p1 : Int) (v3 : Bool) : Option (Int × Int) :=
 if v3 = true then
  some (0, 1)
 else
  if (p1 == 3) = true then
   spec_l3Takes_j1 p1 (p1 == 3)
  else
   if (p1 == 11) = true then
    spec_l3Takes_j1 p1 (p1 == 11)
   else
    spec_l3Takes_j1 p1 (p1 == 15)
theorem spec_l3Takes_j0_m {E : Env} (hP : E.P = Tryz.prog) (hn : E.n = 15) (hx : FX E []) (p1 : Int)  (v3 : Bool) (r : (Int × Int)) (h : spec_l3Takes_j0 p1 v3 = some r) : WAt E body179 (FQ (RetE Θ Tryz.f179.results.toList [] [] (AV.tup [(I r.1), (I r.2)]) E)) [true, false, true, false, true] ⟨[(0, (I p1)), (4, (I p1)), (5, (B v3))], [], [JJ]⟩ := by
 unfold spec_l3Takes_j0 at h
 rcases itS h with ⟨c4, h⟩ | ⟨c5, h⟩
 ·obtain rfl := sj h
  exact gR hP hn [hT 0] [] (.agg [.raw, .raw]) [v3 = true, (I 0) = (I 0), litA (I 0) = true, (I 1) = (I 1), litA (I 1) = true] ⟨c4, rfl, rfl, rfl, rfl, trivial⟩
 ·rcases itS h with ⟨c6, h⟩ | ⟨c13, h⟩
  ·exact gT hP hn hx [hF 0, hT 3] [] [0, 9] [] [v3 = false, (p1 == 3) = true] ⟨c5, c6, trivial⟩ (spec_l3Takes_j1_m hP hn hx p1 (p1 == 3) _ h)
  ·rcases itS h with ⟨c14, h⟩ | ⟨c15, h⟩
   ·exact gT hP hn hx [hF 0, hF 3, hT 6] [] [0, 9] [] [v3 = false, (p1 == 3) = false, (p1 == 11) = true] ⟨c5, c13, c14, trivial⟩ (spec_l3Takes_j1_m hP hn hx p1 (p1 == 11) _ h)
   ·exact gT hP hn hx [hF 0, hF 3, hF 6] [] [0, 9] [] [v3 = false, (p1 == 3) = false, (p1 == 11) = false] ⟨c5, c13, c15, trivial⟩ (spec_l3Takes_j1_m hP hn hx p1 (p1 == 15) _ h)
noncomputable def spec_l3Takes (p1 : Int) : Option (Int × Int) :=
 if (p1 == 1) = true then
  spec_l3Takes_j0 p1 (p1 == 1)
 else
  if (p1 == 2) = true then
   spec_l3Takes_j0 p1 (p1 == 2)
  else
   spec_l3Takes_j0 p1 (p1 == 14)
theorem spec_l3Takes_m {p1 : Int} {r : (Int × Int)} (h : spec_l3Takes p1 = some r) : Meets Tryz.prog 179 [(I p1)] (AV.tup [(I r.1), (I r.2)]) := by
 refine gM Tryz.func179 15 body179 fun E hP hn hx => ?_
 unfold spec_l3Takes at h
 rcases itS h with ⟨c2, h⟩ | ⟨c16, h⟩
 ·exact gT hP hn hx [hT 5] [] [0, 4, 5] [] [(p1 == 1) = true] ⟨c2, trivial⟩ (spec_l3Takes_j0_m hP hn hx p1 (p1 == 1) _ h)
 ·rcases itS h with ⟨c17, h⟩ | ⟨c18, h⟩
  ·exact gT hP hn hx [hF 5, hT 8] [] [0, 4, 5] [] [(p1 == 1) = false, (p1 == 2) = true] ⟨c16, c17, trivial⟩ (spec_l3Takes_j0_m hP hn hx p1 (p1 == 2) _ h)
  ·exact gT hP hn hx [hF 5, hF 8] [] [0, 4, 5] [] [(p1 == 1) = false, (p1 == 2) = false] ⟨c16, c18, trivial⟩ (spec_l3Takes_j0_m hP hn hx p1 (p1 == 14) _ h)
noncomputable def body134 : Code := match Tryz.f134.body with | some c => c | none => .skip
noncomputable def spec_l3Code_j3  (p1 : GState) (p3 : GOp)  : Option Int :=
 if (p3.Code == 14) = true then
  if ((p1.Threads.length : Int) == 5) = true then
   some 4
  else
   some 0
 else
  some 0
theorem spec_l3Code_j3_m {E : Env} (hP : E.P = Tryz.prog) (hn : E.n = 84) (hx : FX E []) (p1 : GState) (p3 : GOp)   (r : Int) (h : spec_l3Code_j3 p1 p3  = some r) : WAt E body134 (FQ (RetE Θ Tryz.f134.results.toList [] [] (I r) E)) [true, true, true, false, false, true, true, true, true, true, true] ⟨[(3, (AV.ptr 1 0 0)), (5, (AV.ptr 2 0 0))], [(1, some ⟨57, 4, [((r57 p1))]⟩), (2, some ⟨144, 4, [((o144 p3))]⟩)], [1, 2, JJ]⟩ := by
 unfold spec_l3Code_j3 at h
 let Z0 := (p1.Threads.length : Int)
 rcases itS h with ⟨c21, h⟩ | ⟨c24, h⟩
 ·let P1 : List Prop := [(B (p3.Code == 14)) = (B true), AV.lit (.int .i64 (((p1.Threads.map r179).length : Nat) : Int)) = (I Z0)]
  have AP1 : AllP P1 := ⟨(litB c21), (lenM r179), trivial⟩
  rcases itS h with ⟨c22, h⟩ | ⟨c23, h⟩
  ·obtain rfl := sj h
   exact gR hP hn [hO 3 (B true), hO 6 (I Z0), hT 10] [] .raw (P1 ++ [(Z0 == 5) = true, (I 4) = (I 4), litA (I 4) = true]) (andP AP1 ⟨c22, rfl, rfl, trivial⟩)
  ·obtain rfl := sj h
   exact gR hP hn [hO 3 (B true), hO 6 (I Z0), hF 10] [] .raw (P1 ++ [(Z0 == 5) = false, (I 0) = (I 0), litA (I 0) = true]) (andP AP1 ⟨c23, rfl, rfl, trivial⟩)
 ·obtain rfl := sj h
  exact gR hP hn [hO 3 (B false)] [] .raw [(B (p3.Code == 14)) = (B false), (I 0) = (I 0), litA (I 0) = true] ⟨(litB c24), rfl, rfl, trivial⟩
noncomputable def spec_l3Code_j2  (p1 : GState) (p3 : GOp) (x4 : GThread) (v14 : Bool) : Option Int :=
 if v14 = true then
  some 2
 else
  if (p3.Code == 15) = true then
   Option.bind (spec_l3Joins p1 x4) fun r18 =>
   if (decide (r18 < 0)) = true then
    some 3
   else
    spec_l3Code_j3 p1 p3
  else
   spec_l3Code_j3 p1 p3
theorem spec_l3Code_j2_m {E : Env} (hP : E.P = Tryz.prog) (hn : E.n = 84) (hx : FX E []) (p1 : GState) (p3 : GOp) (x4 : GThread)  (v14 : Bool) (r : Int) (h : spec_l3Code_j2 p1 p3 x4 v14 = some r) : WAt E body134 (FQ (RetE Θ Tryz.f134.results.toList [] [] (I r) E)) [true, true, true, false, false, true, true, true] ⟨[(3, (AV.ptr 1 0 0)), (5, (AV.ptr 2 0 0)), (7, (AV.ptr 3 0 0)), (37, (B v14))], [(1, some ⟨57, 4, [((r57 p1))]⟩), (2, some ⟨144, 4, [((o144 p3))]⟩), (3, some ⟨179, 6, [((r179 x4))]⟩)], [1, 2, 3, JJ]⟩ := by
 unfold spec_l3Code_j2 at h
 rcases itS h with ⟨c15, h⟩ | ⟨c16, h⟩
 ·obtain rfl := sj h
  exact gR hP hn [hT 0] [] .raw [v14 = true, (I 2) = (I 2), litA (I 2) = true] ⟨c15, rfl, rfl, trivial⟩
 ·rcases itS h with ⟨c17, h⟩ | ⟨c25, h⟩
  ·obtain ⟨r18, hr18, h⟩ := bnS h
   let P1 : List Prop := [v14 = false, (B (p3.Code == 15)) = (B true), Meets Tryz.prog 178 [(AV.agg ((r57 p1))), (AV.agg ((r179 x4)))] (I r18), litA (I r18) = true]
   have AP1 : AllP P1 := ⟨c16, (litB c17), (spec_l3Joins_m hr18), rfl, trivial⟩
   rcases itS h with ⟨c19, h⟩ | ⟨c20, h⟩
   ·obtain rfl := sj h
    exact gR hP hn [hF 0, hO 4 (B true), ⟨7, .callV [[], []] (I r18), none⟩, hT 11] [] .raw (P1 ++ [(decide (r18 < 0)) = true, (I 3) = (I 3), litA (I 3) = true]) (andP AP1 ⟨c19, rfl, rfl, trivial⟩)
   ·exact gT hP hn hx [hF 0, hO 4 (B true), ⟨7, .callV [[], []] (I r18), none⟩, hF 11] [(1, 1), (2, 2)] [3, 5] [] (P1 ++ [(decide (r18 < 0)) = false, RenOK [(1, 1), (2, 2)] [((r57 p1))], RenOK [(1, 1), (2, 2)] [((o144 p3))]]) (andP AP1 ⟨c20, (rok (treeB t57 p1)), (rok rfl), trivial⟩) (spec_l3Code_j3_m hP hn hx p1 p3  _ h)
  ·exact gT hP hn hx [hF 0, hO 4 (B false)] [(1, 1), (2, 2)] [3, 5] [] [v14 = false, (B (p3.Code == 15)) = (B false), RenOK [(1, 1), (2, 2)] [((r57 p1))], RenOK [(1, 1), (2, 2)] [((o144 p3))]] ⟨c16, (litB c25), (rok (treeB t57 p1)), (rok rfl), trivial⟩ (spec_l3Code_j3_m hP hn hx p1 p3  _ h)
noncomputable def spec_l3Code_j1  (p1 : GState) (p3 : GOp) (x4 : GThread) (v13 : Bool) : Option Int :=
 spec_l3Code_j2 p1 p3 x4 v13
theorem spec_l3Code_j1_m {E : Env} (hP : E.P = Tryz.prog) (hn : E.n = 84) (hx : FX E []) (p1 : GState) (p3 : GOp) (x4 : GThread)  (v13 : Bool) (r : Int) (h : spec_l3Code_j1 p1 p3 x4 v13 = some r) : WAt E body134 (FQ (RetE Θ Tryz.f134.results.toList [] [] (I r) E)) [true, true, true, false, false, true, true, false, true, false] ⟨[(3, (AV.ptr 1 0 0)), (5, (AV.ptr 2 0 0)), (7, (AV.ptr 3 0 0)), (37, (B v13))], [(1, some ⟨57, 4, [((r57 p1))]⟩), (2, some ⟨144, 4, [((o144 p3))]⟩), (3, some ⟨179, 6, [((r179 x4))]⟩)], [1, 2, 3, JJ]⟩ := by
 unfold spec_l3Code_j1 at h
 exact gT hP hn hx [] [(1, 1), (2, 2), (3, 3)] [3, 5, 7, 37] [] [RenOK [(1, 1), (2, 2), (3, 3)] [((r57 p1))], RenOK [(1, 1), (2, 2), (3, 3)] [((o144 p3))], RenOK [(1, 1), (2, 2), (3, 3)] [((r179 x4))]] ⟨(rok (treeB t57 p1)), (rok rfl), (rok (treeB t179 x4)), trivial⟩ (spec_l3Code_j2_m hP hn hx p1 p3 x4 v13 _ h)
noncomputable def spec_l3Code_j4  (p1 : GState) (p2 : Int) (p3 : GOp) (x4 : GThread)  : Option Int :=
 if (p3.Code == 16) = true then
  Option.bind (rd p1.Owner p3.B) fun x28 =>
  spec_l3Code_j2 p1 p3 x4 (x28 != p2)
 else
  spec_l3Code_j2 p1 p3 x4 false
theorem spec_l3Code_j4_m {E : Env} (hP : E.P = Tryz.prog) (hn : E.n = 84) (hx : FX E []) (p1 : GState) (p2 : Int) (p3 : GOp) (x4 : GThread)   (r : Int) (h : spec_l3Code_j4 p1 p2 p3 x4  = some r) : WAt E body134 (FQ (RetE Θ Tryz.f134.results.toList [] [] (I r) E)) [true, true, true, false, false, true, true, false, true, true] ⟨[(1, (I p2)), (3, (AV.ptr 1 0 0)), (5, (AV.ptr 2 0 0)), (7, (AV.ptr 3 0 0))], [(1, some ⟨57, 4, [((r57 p1))]⟩), (2, some ⟨144, 4, [((o144 p3))]⟩), (3, some ⟨179, 6, [((r179 x4))]⟩)], [1, 2, 3, JJ]⟩ := by
 unfold spec_l3Code_j4 at h
 rcases itS h with ⟨c27, h⟩ | ⟨c29, h⟩
 ·obtain ⟨x28, hx28, h⟩ := bnS h
  exact gT hP hn hx [hO 3 (B true), ⟨8, .row (o3 x28), none⟩] [(1, 1), (2, 2), (3, 3)] [3, 5, 7, 37] [] [(B (p3.Code == 16)) = (B true), (0 : Int) ≤ p3.B, (p1.Owner.map o3)[(Int.toNat p3.B)]? = some (o3 x28), RenOK [(1, 1), (2, 2), (3, 3)] [((r57 p1))], RenOK [(1, 1), (2, 2), (3, 3)] [((o144 p3))], RenOK [(1, 1), (2, 2), (3, 3)] [((r179 x4))]] ⟨(litB c27), (rd0 hx28), (rdM o3 hx28), (rok (treeB t57 p1)), (rok rfl), (rok (treeB t179 x4)), trivial⟩ (spec_l3Code_j2_m hP hn hx p1 p3 x4 (x28 != p2) _ h)
 ·exact gT hP hn hx [hO 3 (B false)] [(1, 1), (2, 2), (3, 3)] [3, 5, 7, 37] [] [(B (p3.Code == 16)) = (B false), RenOK [(1, 1), (2, 2), (3, 3)] [((r57 p1))], RenOK [(1, 1), (2, 2), (3, 3)] [((o144 p3))], RenOK [(1, 1), (2, 2), (3, 3)] [((r179 x4))]] ⟨(litB c29), (rok (treeB t57 p1)), (rok rfl), (rok (treeB t179 x4)), trivial⟩ (spec_l3Code_j2_m hP hn hx p1 p3 x4 false _ h)
noncomputable def spec_l3Code_j0  (p1 : GState) (p2 : Int) (p3 : GOp) (x4 : GThread)  : Option Int :=
 if (p3.Code == 13) = true then
  Option.bind (rd p1.Owner p3.A) fun x11 =>
  if (x11 != p2) = true then
   spec_l3Code_j1 p1 p3 x4 (x11 != p2)
  else
   spec_l3Code_j4 p1 p2 p3 x4
 else
  spec_l3Code_j4 p1 p2 p3 x4
theorem spec_l3Code_j0_m {E : Env} (hP : E.P = Tryz.prog) (hn : E.n = 84) (hx : FX E []) (p1 : GState) (p2 : Int) (p3 : GOp) (x4 : GThread)   (r : Int) (h : spec_l3Code_j0 p1 p2 p3 x4  = some r) : WAt E body134 (FQ (RetE Θ Tryz.f134.results.toList [] [] (I r) E)) [true, true, true, false, false, true, true] ⟨[(1, (I p2)), (3, (AV.ptr 1 0 0)), (5, (AV.ptr 2 0 0)), (7, (AV.ptr 3 0 0))], [(1, some ⟨57, 4, [((r57 p1))]⟩), (2, some ⟨144, 4, [((o144 p3))]⟩), (3, some ⟨179, 6, [((r179 x4))]⟩)], [1, 2, 3, JJ]⟩ := by
 unfold spec_l3Code_j0 at h
 rcases itS h with ⟨c10, h⟩ | ⟨c30, h⟩
 ·obtain ⟨x11, hx11, h⟩ := bnS h
  let P1 : List Prop := [(B (p3.Code == 13)) = (B true), (0 : Int) ≤ p3.A, (p1.Owner.map o3)[(Int.toNat p3.A)]? = some (o3 x11)]
  have AP1 : AllP P1 := ⟨(litB c10), (rd0 hx11), (rdM o3 hx11), trivial⟩
  rcases itS h with ⟨c12, h⟩ | ⟨c26, h⟩
  ·exact gT hP hn hx [hO 3 (B true), ⟨8, .row (o3 x11), none⟩, hT 14] [(1, 1), (2, 2), (3, 3)] [3, 5, 7, 37] [] (P1 ++ [(x11 != p2) = true, RenOK [(1, 1), (2, 2), (3, 3)] [((r57 p1))], RenOK [(1, 1), (2, 2), (3, 3)] [((o144 p3))], RenOK [(1, 1), (2, 2), (3, 3)] [((r179 x4))]]) (andP AP1 ⟨c12, (rok (treeB t57 p1)), (rok rfl), (rok (treeB t179 x4)), trivial⟩) (spec_l3Code_j1_m hP hn hx p1 p3 x4 (x11 != p2) _ h)
  ·exact gT hP hn hx [hO 3 (B true), ⟨8, .row (o3 x11), none⟩, hF 14] [(1, 1), (2, 2), (3, 3)] [1, 3, 5, 7] [] (P1 ++ [(x11 != p2) = false, RenOK [(1, 1), (2, 2), (3, 3)] [((r57 p1))], RenOK [(1, 1), (2, 2), (3, 3)] [((o144 p3))], RenOK [(1, 1), (2, 2), (3, 3)] [((r179 x4))]]) (andP AP1 ⟨c26, (rok (treeB t57 p1)), (rok rfl), (rok (treeB t179 x4)), trivial⟩) (spec_l3Code_j4_m hP hn hx p1 p2 p3 x4  _ h)
 ·exact gT hP hn hx [hO 3 (B false)] [(1, 1), (2, 2), (3, 3)] [1, 3, 5, 7] [] [(B (p3.Code == 13)) = (B false), RenOK [(1, 1), (2, 2), (3, 3)] [((r57 p1))], RenOK [(1, 1), (2, 2), (3, 3)] [((o144 p3))], RenOK [(1, 1), (2, 2), (3, 3)] [((r179 x4))]] ⟨(litB c30), (rok (treeB t57 p1)), (rok rfl), (rok (treeB t179 x4)), trivial⟩ (spec_l3Code_j4_m hP hn hx p1 p2 p3 x4  _ h)
noncomputable def spec_l3Code (p1 : GState) (p2 : Int) (p3 : GOp) : Option Int :=
 Option.bind (rd p1.Threads p2) fun x4 =>
 Option.bind (spec_l3Takes p3.Code) fun r5 =>
 if (decide ((x4.Stack.length : Int) < r5.1)) = true then
  some 1
 else
  if (decide ((w64 ((w64 ((x4.Stack.length : Int) - r5.1)) + r5.2)) > 8)) = true then
   some 1
  else
   spec_l3Code_j0 p1 p2 p3 x4
theorem spec_l3Code_m {p1 : GState} {p2 : Int} {p3 : GOp} {r : Int} (h : spec_l3Code p1 p2 p3 = some r) : Meets Tryz.prog 134 [(AV.agg ((r57 p1))), (I p2), (AV.agg ((o144 p3)))] (I r) := by
 refine gM Tryz.func134 84 body134 fun E hP hn hx => ?_
 unfold spec_l3Code at h
 obtain ⟨x4, hx4, h⟩ := bnS h
 obtain ⟨r5, hr5, h⟩ := bnS h
 let Z0 := (AV.tup [(I r5.1), (I r5.2)]); let Z1 := (x4.Stack.length : Int); let Z2 := (((x4.Stack.map o142).length : Nat) : Int); let Z3 := (B (decide (Z1 < r5.1))); let Z4 := (decide ((w64 ((w64 (Z1 - r5.1)) + r5.2)) > 8))
 let H1 : List Hn := [hW 0 1001, hW 1 1002, ⟨6, .row (r179 x4), none⟩, hW 8 1003, ⟨12, .callV [] Z0, none⟩, hO 20 (I Z1)]
 let P2 : List Prop := [(0 : Int) ≤ p2, (p1.Threads.map r179)[(Int.toNat p2)]? = some (r179 x4), Meets Tryz.prog 179 [(I p3.Code)] Z0, litA Z0 = true, AV.lit (.int .i64 Z2) = (I Z1)]
 have AP2 : AllP P2 := ⟨(rd0 hx4), (rdM r179 hx4), (spec_l3Takes_m hr5), rfl, (lenM o142), trivial⟩
 rcases itS h with ⟨c6, h⟩ | ⟨c7, h⟩
 ·obtain rfl := sj h
  exact gR hP hn (H1 ++ [hO 23 (B true)]) [] .raw (P2 ++ [Z3 = (B true), (I 1) = (I 1), litA (I 1) = true]) (andP AP2 ⟨(litB c6), rfl, rfl, trivial⟩)
 ·let P3 : List Prop := P2 ++ [Z3 = (B false), AV.lit (.int .i64 Z2) = (I Z1)]
  have AP3 : AllP P3 := andP AP2 ⟨(litB c7), (lenM o142), trivial⟩
  rcases itS h with ⟨c8, h⟩ | ⟨c9, h⟩
  ·obtain rfl := sj h
   exact gR hP hn (H1 ++ [hO 23 (B false), hO 26 (I Z1), hT 34]) [] .raw (P3 ++ [Z4 = true, (I 1) = (I 1), litA (I 1) = true]) (andP AP3 ⟨c8, rfl, rfl, trivial⟩)
  ·exact gT hP hn hx (H1 ++ [hO 23 (B false), hO 26 (I Z1), hF 34]) [(1001, 1), (1002, 2), (1003, 3)] [1, 3, 5, 7] [] (P3 ++ [Z4 = false, RenOK [(1001, 1), (1002, 2), (1003, 3)] [((r57 p1))], RenOK [(1001, 1), (1002, 2), (1003, 3)] [((o144 p3))], RenOK [(1001, 1), (1002, 2), (1003, 3)] [((r179 x4))]]) (andP AP3 ⟨c9, (rok (treeB t57 p1)), (rok rfl), (rok (treeB t179 x4)), trivial⟩) (spec_l3Code_j0_m hP hn hx p1 p2 p3 x4  _ h)
noncomputable def body168 : Code := match Tryz.f168.body with | some c => c | none => .skip
noncomputable def spec_l3NewThread (p1 : Int) : Option GThread :=
 some (GThread.mk p1 0 1 (-1) (-1) [])
theorem spec_l3NewThread_m {p1 : Int} {r : GThread} (h : spec_l3NewThread p1 = some r) : Meets Tryz.prog 168 [(I p1)] (AV.agg (o179 r)) := by
 refine gM Tryz.func168 5 body168 fun E hP hn hx => ?_
 unfold spec_l3NewThread at h
 obtain rfl := sj h
 exact (let Z0 := (I (-1)); gR hP hn [hW 0 1001] [] (.agg [.raw, .raw, .raw, .raw, .raw, .own]) [(I p1) = (I p1), litA (I p1) = true, (I 0) = (I 0), litA (I 0) = true, (I 1) = (I 1), litA (I 1) = true, Z0 = Z0, litA Z0 = true, Z0 = Z0, litA Z0 = true] ⟨rfl, rfl, rfl, rfl, rfl, rfl, rfl, rfl, rfl, rfl, trivial⟩)
noncomputable def body181 : Code := match Tryz.f181.body with | some c => c | none => .skip
noncomputable def spec_l3Reckon_j0   (v13 : Bool) : Option Nat :=
 if v13 = true then
  some 4607182418800017408
 else
  some 0
theorem spec_l3Reckon_j0_m {E : Env} (hP : E.P = Tryz.prog) (hn : E.n = 38) (hx : FX E [])   (v13 : Bool) (r : Nat) (h : spec_l3Reckon_j0  v13 = some r) : WAt E body181 (FQ (RetE Θ Tryz.f181.results.toList [] [] (FK r) E)) [true, true, true] ⟨[(7, (B v13))], [], [JJ]⟩ := by
 unfold spec_l3Reckon_j0 at h
 rcases itS h with ⟨c14, h⟩ | ⟨c15, h⟩
 ·obtain rfl := sj h
  exact gR hP hn [hT 1] [] .raw [v13 = true, (FK 4607182418800017408) = (FK 4607182418800017408), litA (FK 4607182418800017408) = true] ⟨c14, rfl, rfl, trivial⟩
 ·obtain rfl := sj h
  exact gR hP hn [hF 1] [] .raw [v13 = false, (FK 0) = (FK 0), litA (FK 0) = true] ⟨c15, rfl, rfl, trivial⟩
noncomputable def spec_l3Reckon (p1 : Int) (p2 : Nat) (p3 : Nat) : Option Nat :=
 if (p1 == 4) = true then
  some (fad p2 p3)
 else
  if (p1 == 5) = true then
   some (fsb p2 p3)
  else
   if (p1 == 6) = true then
    some (fml p2 p3)
   else
    if (p1 == 7) = true then
     some (fdv p2 p3)
    else
     if (p1 == 8) = true then
      spec_l3Reckon_j0 ((fcmp p2 p3) == some .lt)
     else
      Option.bind (spec_l1SameNum p2 p3) fun r17 =>
      spec_l3Reckon_j0 r17
theorem spec_l3Reckon_m {p1 : Int} {p2 : Nat} {p3 : Nat} {r : Nat} (h : spec_l3Reckon p1 p2 p3 = some r) : Meets Tryz.prog 181 [(I p1), (FK p2), (FK p3)] (FK r) := by
 refine gM Tryz.func181 38 body181 fun E hP hn hx => ?_
 unfold spec_l3Reckon at h
 let Z0 := (fad p2 p3); let Z1 := (fsb p2 p3); let Z2 := (fml p2 p3); let Z3 := (fdv p2 p3)
 rcases itS h with ⟨c4, h⟩ | ⟨c5, h⟩
 ·obtain rfl := sj h
  exact gR hP hn [hT 5, ⟨8, .bin (FK Z0), none⟩] [] .raw [(p1 == 4) = true, BinS Tryz.prog .add 142 (FK p2) (FK p3) (FK Z0), (FK Z0) = (FK Z0), litA (FK Z0) = true] ⟨c4, fAdd, rfl, rfl, trivial⟩
 ·rcases itS h with ⟨c6, h⟩ | ⟨c7, h⟩
  ·obtain rfl := sj h
   exact gR hP hn [hF 5, hT 8, ⟨11, .bin (FK Z1), none⟩] [] .raw [(p1 == 4) = false, (p1 == 5) = true, BinS Tryz.prog .sub 142 (FK p2) (FK p3) (FK Z1), (FK Z1) = (FK Z1), litA (FK Z1) = true] ⟨c5, c6, fSub, rfl, rfl, trivial⟩
  ·let P1 : List Prop := [(p1 == 4) = false, (p1 == 5) = false]
   have AP1 : AllP P1 := ⟨c5, c7, trivial⟩
   rcases itS h with ⟨c8, h⟩ | ⟨c9, h⟩
   ·obtain rfl := sj h
    exact gR hP hn [hF 5, hF 8, hT 11, ⟨14, .bin (FK Z2), none⟩] [] .raw (P1 ++ [(p1 == 6) = true, BinS Tryz.prog .mul 142 (FK p2) (FK p3) (FK Z2), (FK Z2) = (FK Z2), litA (FK Z2) = true]) (andP AP1 ⟨c8, fMul, rfl, rfl, trivial⟩)
   ·rcases itS h with ⟨c10, h⟩ | ⟨c11, h⟩
    ·obtain rfl := sj h
     exact gR hP hn [hF 5, hF 8, hF 11, hT 14, ⟨17, .bin (FK Z3), none⟩] [] .raw (P1 ++ [(p1 == 6) = false, (p1 == 7) = true, BinS Tryz.prog .quo 142 (FK p2) (FK p3) (FK Z3), (FK Z3) = (FK Z3), litA (FK Z3) = true]) (andP AP1 ⟨c9, c10, fQuo, rfl, rfl, trivial⟩)
    ·rcases itS h with ⟨c12, h⟩ | ⟨c16, h⟩
     ·exact gT hP hn hx [hF 5, hF 8, hF 11, hF 14, hT 17, ⟨20, .bin (B ((fcmp p2 p3) == some .lt)), none⟩] [] [7] [] (P1 ++ [(p1 == 6) = false, (p1 == 7) = false, (p1 == 8) = true, BinS Tryz.prog .lss 142 (FK p2) (FK p3) (B ((fcmp p2 p3) == some .lt))]) (andP AP1 ⟨c9, c11, c12, fLss, trivial⟩) (spec_l3Reckon_j0_m hP hn hx ((fcmp p2 p3) == some .lt) _ h)
     ·obtain ⟨r17, hr17, h⟩ := bnS h
      exact gT hP hn hx [hF 5, hF 8, hF 11, hF 14, hF 17, ⟨20, .callV [] (B r17), none⟩] [] [7] [] (P1 ++ [(p1 == 6) = false, (p1 == 7) = false, (p1 == 8) = false, Meets Tryz.prog 191 [(FK p2), (FK p3)] (B r17), litA (B r17) = true]) (andP AP1 ⟨c9, c11, c16, (spec_l1SameNum_m hr17), rfl, trivial⟩) (spec_l3Reckon_j0_m hP hn hx r17 _ h)
end Go.Proofs.YtjcaompblpglcaaGreat
