/- The types of this seat, as plain data and in memory; no condition. -/

import Derived.Test.YtjcaompblpglcaaProg
import Derived.Test.YtjcaompblpglcaaBN
set_option linter.unusedVariables false
namespace Go.Proofs.Ytjcaompblpglcaa
open Go Go.T
def Θ : Tys := [(3, ⟨1, 8, .int .i64, [.int .i64 0]⟩),
 (24, ⟨1, 24, .slice 3, [.slice none 0 0]⟩),
 (4, ⟨1, 1, .bool, [.bool false]⟩),
 (5, ⟨1, 1, .int .u8, [.int .u8 0]⟩),
 (9, ⟨1, 16, .string, [.string ⟨#[]⟩]⟩),
 (39, ⟨5, 40, .struct #[⟨"Thread", 3, 0, false, "", "", 0⟩, ⟨"Kind", 3, 1, false, "", "", 8⟩, ⟨"Obj", 3, 2, false, "", "", 16⟩, ⟨"Lock", 3, 3, false, "", "", 24⟩, ⟨"Pc", 3, 4, false, "", "", 32⟩], [.int .i64 0, .int .i64 0, .int .i64 0, .int .i64 0, .int .i64 0]⟩),
 (35, ⟨1, 24, .slice 24, [.slice none 0 0]⟩),
 (27, ⟨1, 24, .slice 39, [.slice none 0 0]⟩),
 (22, ⟨1, 24, .slice 44, [.slice none 0 0]⟩),
 (44, ⟨5, 40, .struct #[⟨"Thread", 3, 0, false, "", "", 0⟩, ⟨"Kind", 3, 1, false, "", "", 8⟩, ⟨"Obj", 3, 2, false, "", "", 16⟩, ⟨"Lock", 3, 3, false, "", "", 24⟩, ⟨"Pc", 3, 4, false, "", "", 32⟩], [.int .i64 0, .int .i64 0, .int .i64 0, .int .i64 0, .int .i64 0]⟩),
 (57, ⟨4, 32, .struct #[⟨"Had", 3, 0, false, "", "", 0⟩, ⟨"Taken", 3, 1, false, "", "", 8⟩, ⟨"Thread", 3, 2, false, "", "", 16⟩, ⟨"At", 3, 3, false, "", "", 24⟩], [.int .i64 0, .int .i64 0, .int .i64 0, .int .i64 0]⟩),
 (54, ⟨1, 24, .slice 57, [.slice none 0 0]⟩),
 (95, ⟨1, 8, .int .u64, [.int .u64 0]⟩),
 (73, ⟨1, 8, .int .u64, [.int .u64 0]⟩),
 (74, ⟨100, 100, .array 100 4, List.replicate 100 (.bool false)⟩),
 (89, ⟨1, 8, .int .u64, [.int .u64 0]⟩),
 (87, ⟨1, 4, .int .u32, [.int .u32 0]⟩)]
theorem ty3 : Qmn Try.prog 3 = some ⟨1, 8, .int .i64, [.int .i64 0]⟩ := by kernel_rfl
theorem ty24 : Qmn Try.prog 24 = some ⟨1, 24, .slice 3, [.slice none 0 0]⟩ := by kernel_rfl
theorem ty4 : Qmn Try.prog 4 = some ⟨1, 1, .bool, [.bool false]⟩ := by kernel_rfl
theorem ty5 : Qmn Try.prog 5 = some ⟨1, 1, .int .u8, [.int .u8 0]⟩ := by kernel_rfl
theorem ty9 : Qmn Try.prog 9 = some ⟨1, 16, .string, [.string ⟨#[]⟩]⟩ := by kernel_rfl
theorem ty39 : Qmn Try.prog 39 = some ⟨5, 40, .struct #[⟨"Thread", 3, 0, false, "", "", 0⟩, ⟨"Kind", 3, 1, false, "", "", 8⟩, ⟨"Obj", 3, 2, false, "", "", 16⟩, ⟨"Lock", 3, 3, false, "", "", 24⟩, ⟨"Pc", 3, 4, false, "", "", 32⟩], [.int .i64 0, .int .i64 0, .int .i64 0, .int .i64 0, .int .i64 0]⟩ := by kernel_rfl
theorem ty35 : Qmn Try.prog 35 = some ⟨1, 24, .slice 24, [.slice none 0 0]⟩ := by kernel_rfl
theorem ty27 : Qmn Try.prog 27 = some ⟨1, 24, .slice 39, [.slice none 0 0]⟩ := by kernel_rfl
theorem ty22 : Qmn Try.prog 22 = some ⟨1, 24, .slice 44, [.slice none 0 0]⟩ := by kernel_rfl
theorem ty44 : Qmn Try.prog 44 = some ⟨5, 40, .struct #[⟨"Thread", 3, 0, false, "", "", 0⟩, ⟨"Kind", 3, 1, false, "", "", 8⟩, ⟨"Obj", 3, 2, false, "", "", 16⟩, ⟨"Lock", 3, 3, false, "", "", 24⟩, ⟨"Pc", 3, 4, false, "", "", 32⟩], [.int .i64 0, .int .i64 0, .int .i64 0, .int .i64 0, .int .i64 0]⟩ := by kernel_rfl
theorem ty57 : Qmn Try.prog 57 = some ⟨4, 32, .struct #[⟨"Had", 3, 0, false, "", "", 0⟩, ⟨"Taken", 3, 1, false, "", "", 8⟩, ⟨"Thread", 3, 2, false, "", "", 16⟩, ⟨"At", 3, 3, false, "", "", 24⟩], [.int .i64 0, .int .i64 0, .int .i64 0, .int .i64 0]⟩ := by kernel_rfl
theorem ty54 : Qmn Try.prog 54 = some ⟨1, 24, .slice 57, [.slice none 0 0]⟩ := by kernel_rfl
theorem ty95 : Qmn Try.prog 95 = some ⟨1, 8, .int .u64, [.int .u64 0]⟩ := by kernel_rfl
theorem ty73 : Qmn Try.prog 73 = some ⟨1, 8, .int .u64, [.int .u64 0]⟩ := by kernel_rfl
theorem ty74 : Qmn Try.prog 74 = some ⟨100, 100, .array 100 4, List.replicate 100 (.bool false)⟩ := by kernel_rfl
theorem ty89 : Qmn Try.prog 89 = some ⟨1, 8, .int .u64, [.int .u64 0]⟩ := by kernel_rfl
theorem ty87 : Qmn Try.prog 87 = some ⟨1, 4, .int .u32, [.int .u32 0]⟩ := by kernel_rfl
theorem Qzv : TOK Try.prog Θ := ⟨ty3, ty24, ty4, ty5, ty9, ty39, ty35, ty27, ty22, ty44, ty57, ty54, ty95, ty73, ty74, ty89, ty87, trivial⟩
theorem Qzo : Try.prog.follows .mixedOrders = true := by kernel_rfl
structure Qa0 where
 Thread : Int
 Kind : Int
 Obj : Int
 Lock : Int
 Pc : Int
 deriving DecidableEq
structure Qaj where
 Had : Int
 Taken : Int
 Thread : Int
 At : Int
 deriving DecidableEq
def Quv (x : Qa0) : Prop := ((Lit.int .i64 x.Thread).wf = true) ∧ ((Lit.int .i64 x.Kind).wf = true) ∧ ((Lit.int .i64 x.Obj).wf = true) ∧ ((Lit.int .i64 x.Lock).wf = true) ∧ ((Lit.int .i64 x.Pc).wf = true)
def o3 (x : Int) : List AV := [I x]
def k3 (x : Int) : AV := I x
theorem t3 : ∀ x, Qdq (o3 x) = true := (fun _ => rfl)
theorem z3 : ∀ x, Ql6 (o3 x) = o3 x := (fun _ => rfl)
theorem n3 : ∀ x, Qdn (o3 x) = true := (fun _ => rfl)
theorem pa3 : ∀ x, (o3 x).all AV.plain = true := (fun _ => rfl)
def o44 (x : Qa0) : List AV := [I x.Thread, I x.Kind, I x.Obj, I x.Lock, I x.Pc]
def r22 (x : (List Qa0)) : List AV := [AV.ro 5 (x.map o44)]
def k4 (x : Bool) : AV := B x
def o39 (x : Qa0) : List AV := [I x.Thread, I x.Kind, I x.Obj, I x.Lock, I x.Pc]
theorem t39 : ∀ x, Qdq (o39 x) = true := (fun _ => rfl)
theorem z39 : ∀ x, Ql6 (o39 x) = o39 x := (fun _ => rfl)
theorem n39 : ∀ x, Qdn (o39 x) = true := (fun _ => rfl)
def o24 (x : (List Int)) : List AV := [AV.own 3 1 (x.map o3)]
def r24 (x : (List Int)) : List AV := [AV.ro 1 (x.map o3)]
theorem t24 : ∀ x, Qdq (o24 x) = true := fun _ => rfl
theorem z24 : ∀ x, Ql6 (o24 x) = r24 x := fun x => by simp only [o24, r24, Ql6, frz, Xak z3]
theorem n24 : ∀ x, Qdn (o24 x) = true := fun x => by simp only [o24, Qdn, Qek, Qbd n3, Bool.and_self]
def o57 (x : Qaj) : List AV := [I x.Had, I x.Taken, I x.Thread, I x.At]
theorem t57 : ∀ x, Qdq (o57 x) = true := (fun _ => rfl)
theorem n57 : ∀ x, Qdn (o57 x) = true := (fun _ => rfl)
theorem pa57 : ∀ x, (o57 x).all AV.plain = true := (fun _ => rfl)
def o35 (x : (List (List Int))) : List AV := [AV.own 24 1 (x.map o24)]
def r35 (x : (List (List Int))) : List AV := [AV.ro 1 (x.map r24)]
theorem t35 : ∀ x, Qdq (o35 x) = true := fun _ => rfl
theorem z35 : ∀ x, Ql6 (o35 x) = r35 x := fun x => by simp only [o35, r35, Ql6, frz, Xak z24]
def o74 (x : (Vector Bool 100)) : List AV := (x.toList.map k4)
theorem t74 : ∀ x, Qdq (o74 x) = true := fun x => Xbl k4 (fun _ => rfl)
theorem pa74 : ∀ x, (o74 x).all AV.plain = true := fun x => Xav k4 (fun _ => rfl)
def o5 (x : Int) : List AV := [IK .u8 x]
theorem n5 : ∀ x, Qdn (o5 x) = true := (fun _ => rfl)
theorem Qav : ∀ {p q : List Prop}, Qb5 p → Qb5 q → Qb5 (p ++ q)
 | [], _, _, h => h
 | _ :: _, _, h, k => ⟨h.1, Qav h.2 k⟩
theorem gR {E : Env} (hP : E.P = Try.prog) {n : Nat} (hn : E.n = n) {body : Code} {rv : List ResultVar} {ks : List Bool} {rs : List Qao} {pt : List Bool} {s : St} {res : AV} (hs : List Hn) (rh : List H) (ph : PH) (ps : List Prop) (hp : Qb5 ps) (h : Qyc Θ Try.prog n body rv ks rs pt s hs rh ph res = some ps := by kernel_rfl) : WAt E body (FQ (Qe2 Θ rv ks rs res E)) pt s :=
 go_ret (by rw [hP]; exact Qzv) (by rw [hP]; exact Qzo) hP hn h hp
theorem gT {E : Env} (hP : E.P = Try.prog) {n : Nat} (hn : E.n = n) {body : Code} {fr : List Nat} (hfx : ∀ p, p ∈ E.fx → p.1 ∈ fr) {R : St → Prop} {pt tgt : List Bool} {s s' : St} (hs : List Hn) (π : List (Nat × Nat)) (ts kp : List Nat) (ps : List Prop) (hp : Qb5 ps) (hk : WAt E body (FQ R) tgt s') (h : Xbf Θ Try.prog n body fr pt tgt s hs π ts kp = some (s', ps) := by kernel_rfl) : WAt E body (FQ R) pt s :=
 go_to (by rw [hP]; exact Qzv) (by rw [hP]; exact Qzo) hfx hP hn h hp hk
def FX (E : Env) (l : List Nat) : Prop := ∀ p, p ∈ E.fx → p.1 ∈ l
theorem gM {f : FuncId} {fn : Func} (hf : Try.prog.funcs[f]? = some fn) (n : Nat) (c : Code) {args : List AV} {res : AV} (h : ∀ E : Env, E.P = Try.prog → E.n = n → FX E [] → WAt E c (FQ (Qe2 Θ fn.results.toList [] [] res E)) [] (Qtm args)) (hq : args.length ≤ fn.ntmps := by exact Nat.le_of_ble_eq_true rfl) (hname : (fn.name == "runtime.NumGoroutine") = false := by exact rfl) (hb : fn.body = some c := by kernel_rfl) (hn : fn.ntmps = n := by exact rfl) : Qaa Try.prog f args res :=
 Qx8 Qzv hf hname hb hq fun E a b c => h E a (b.trans hn) c
theorem lnq {a b : Nat} (h : a = b := by first | exact lnSet _ | exact Xd8 _ | exact apLn _ (by assumption) | simp +zetaDelta only [List.length_map, List.length_set, List.length_cons, List.length_nil]) : a = b := h
theorem leB {a b : Nat} (h : Nat.ble a b = true := by exact rfl) : a ≤ b := Nat.le_of_ble_eq_true h
theorem Xb1 {α β : Type} {l : List α} {i : Int} (f : α → β) {y : α} {ys : β} (h : ys = f y := by kernel_rfl) : (l.map f).set i.toNat ys = (l.set i.toNat y).map f := setMr f h
theorem Qum {α β : Type} {l : List α} {i : Int} (f : α → β) {x y : α} {ys : β} (h : ys = f y := by kernel_rfl) : ((l.set i.toNat x).map f).set i.toNat ys = (l.set i.toNat y).map f := setSS f h
theorem sj {α : Type} {a b : α} (h : some a = some b) : a = b := Option.some.inj h
def hh (k : Nat) (h : H) : Hn := ⟨k, h, none⟩
def hT (k : Nat) : Hn := ⟨k, .br true, none⟩
def hF (k : Nat) : Hn := ⟨k, .br false, none⟩
def hW (k i : Nat) : Hn := ⟨k, .new i, none⟩
def hO (k : Nat) (x : AV) : Hn := ⟨k, .no, some x⟩
end Go.Proofs.Ytjcaompblpglcaa
