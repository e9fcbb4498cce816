/- Lemmas for FnExactAddPairs; no condition. -/

import Derived.Test.YtihgcgccajikpaaTC
import Derived.Laws.Cells
import Derived.Laws.Slices
set_option linter.unusedVariables false
namespace Go.T
open Go Go.RowKit

/-- what is used of a type -/
structure TI where
  sz : Nat
  bytes : Nat
  und : TypeDesc
  zero : List Value
def tiOf (P : Program) (t : Nat) : Option TI :=
  match P.info? t, P.underlying t with
  | some i, some d => match i.zero with
    | some z => some ⟨i.size, i.bytes, d, z.cells.toList⟩
    | none => none
  | _, _ => none
abbrev Tys := List (Nat × TI)
def TOK (P : Program) : Tys → Prop
  | [] => True
  | (t, ti) :: r => tiOf P t = some ti ∧ TOK P r
theorem TOK.get {P : Program} : ∀ {Θ : Tys}, TOK P Θ → ∀ {t : Nat} {ti : TI}, Θ.lookup t = some ti → tiOf P t = some ti
  | [], _, t, ti, h => by simp at h
  | (t', ti') :: r, ⟨h1, h2⟩, t, ti, h => by
    by_cases e : t = t'
    · subst e; rw [lookup_cons_same] at h; cases h; exact h1
    · rw [lookup_cons_ne e] at h; exact TOK.get h2 h
theorem tiOf_und {P : Program} {t : Nat} {ti : TI} (h : tiOf P t = some ti) : P.underlying t = some ti.und := by
  unfold tiOf at h
  split at h
  · split at h
    · cases h; assumption
    · cases h
  · cases h
theorem tiOf_info {P : Program} {t : Nat} {ti : TI} (h : tiOf P t = some ti) : ∃ i z, P.info? t = some i ∧ i.size = ti.sz ∧ i.bytes = ti.bytes ∧ i.zero = some z ∧ z.cells.toList = ti.zero := by
  unfold tiOf at h
  split at h
  · split at h
    · cases h
      exact ⟨_, _, by assumption, rfl, rfl, by assumption, rfl⟩
    · cases h
  · cases h

def aggD : TypeDesc → Bool
  | .struct _ => true
  | .array _ _ => true
  | _ => false

def opnd (s : St) : Operand → AV
  | .tmp t => s.get t
  | .const v => .lit v
  | .func f => .fn f []
  | .global _ => .dead

theorem opnd_rep {E : Env} {s : St} {a : Act} {w : World} {χ : Nat → Option Nat} {hd : Nat → Value} (h : Rel0 E s a w χ hd) : ∀ x : Operand, repR w (free χ w) (· ∈ s.us) (tab s hd) (opnd s x) (a.eval x) []
  | .tmp t => h.slots t
  | .const v => repR_lit v
  | .func f => by simp only [opnd, repR, repRL]; exact ⟨[], rfl, rfl, trivial⟩
  | .global g => repR_dead _

/- ------------------------------------------------ numbers, bools, strings -/
def evBin (op : BinOp) (x y : Value) : Option Value :=
  match op, x, y with
  | .add, .int k a, .int k' b => if k = k' then some (.int k (k.wrap (a + b))) else none
  | .sub, .int k a, .int k' b => if k = k' then some (.int k (k.wrap (a - b))) else none
  | .mul, .int k a, .int k' b => if k = k' then some (.int k (k.wrap (a * b))) else none
  | .quo, .int k a, .int k' b => if k = k' then (if b = 0 then none else some (.int k (k.wrap (a.tdiv b)))) else none
  | .rem, .int k a, .int k' b => if k = k' then (if b = 0 then none else some (.int k (a.tmod b))) else none
  | .eql, .int k a, .int k' b => if k = k' then some (.bool (a == b)) else none
  | .neq, .int k a, .int k' b => if k = k' then some (.bool (a != b)) else none
  | .lss, .int k a, .int k' b => if k = k' then some (.bool (decide (a < b))) else none
  | .leq, .int k a, .int k' b => if k = k' then some (.bool (decide (a ≤ b))) else none
  | .gtr, .int k a, .int k' b => if k = k' then some (.bool (decide (a > b))) else none
  | .geq, .int k a, .int k' b => if k = k' then some (.bool (decide (a ≥ b))) else none
  | .shl, .int k a, .int _ b => if b < 0 then none else some (.int k (k.wrap (a * 2 ^ (min b.toNat k.bits))))
  | .shr, .int k a, .int _ b => if b < 0 then none else some (.int k (a.fdiv (2 ^ (min b.toNat k.bits))))
  | .and, .int k a, .int k' b => if k = k' then some (.int k (k.wrap (BitVec.ofInt k.bits a &&& BitVec.ofInt k.bits b).toNat)) else none
  | .or, .int k a, .int k' b => if k = k' then some (.int k (k.wrap (BitVec.ofInt k.bits a ||| BitVec.ofInt k.bits b).toNat)) else none
  | .xor, .int k a, .int k' b => if k = k' then some (.int k (k.wrap (BitVec.ofInt k.bits a ^^^ BitVec.ofInt k.bits b).toNat)) else none
  | .andNot, .int k a, .int k' b => if k = k' then some (.int k (k.wrap (BitVec.ofInt k.bits a &&& ~~~BitVec.ofInt k.bits b).toNat)) else none
  | .eql, .string a, .string b => some (.bool (a.toList == b.toList))
  | .neq, .string a, .string b => some (.bool (!(a.toList == b.toList)))
  | .add, .string a, .string b => if ((a.size + b.size : Nat) : Int) > IntKind.i64.max then none else some (.string (a ++ b))
  | _, _, _ => none

theorem evBin_sound {P : Program} {w : World} {op : BinOp} {x y v : Value} {X Y : Operand} {t : TypeId} (h : evBin op x y = some v) :
    (do eqGuard op t X Y x y; binOp op t x y : Sem Value).run P w = .ok v w := by
  unfold evBin at h
  split at h <;> first | (cases h; done) | skip
  all_goals (try split at h)
  all_goals (try split at h)
  all_goals first | (cases h; done) | skip
  all_goals (cases h; try subst_vars)
  all_goals simp_all [eqGuard, binOp, Op.intArith, Op.intCmp, Op.intDiv, Op.intBits, Op.shift, Op.stringOp]
  all_goals (intros; omega)

def evUn (op : UnOp) (x : Value) : Option Value :=
  match op, x with
  | .not, .bool b => some (.bool !b)
  | .neg, .int k n => some (.int k (k.wrap (0 - n)))
  | _, _ => none
theorem evUn_sound {P : Program} {w : World} {op : UnOp} {x v : Value} (h : evUn op x = some v) : (Op.unary op x).run P w = .ok v w := by
  unfold evUn at h
  split at h <;> cases h <;> simp [Op.unary, Op.intArith]

theorem evBin_nf {op : BinOp} {x y v : Value} (h : evBin op x y = some v) : nf x = true ∧ nf y = true := by
  unfold evBin at h
  split at h <;> first | (cases h; done) | exact ⟨rfl, rfl⟩
theorem evUn_nf {op : UnOp} {x v : Value} (h : evUn op x = some v) : nf x = true := by
  unfold evUn at h
  split at h <;> first | (cases h; done) | rfl
end Go.T
