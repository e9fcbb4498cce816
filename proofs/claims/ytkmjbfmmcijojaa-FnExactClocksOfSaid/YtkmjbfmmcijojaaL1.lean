/- Plain facts for FnExactClocksOf; no condition. -/

import Derived.Test.YtkmjbfmmcijojaaGB
import Derived.Test.YtkmjbfmmcijojaaPB
set_option linter.unusedVariables false
namespace Go.Proofs.Ytkmjbfmmcijojaa
open Go Go.T

theorem eqEvent_refl (x : GEvent) : laws_eqEvent x x = some true := by simp [laws_eqEvent]
theorem eqEvent_l0 {p : List GEvent} (hp : p.length < 1099511627776) : ∀ (n k : Nat), k ≤ p.length → p.length < n + k → laws_eqEventS_l0 p p n k = some true
  | 0, k, h1, h2 => by omega
  | n + 1, k, h1, h2 => by
    rw [laws_eqEventS_l0]
    by_cases hk : k < p.length
    · simp only [PS, hk, rd_at hk, w64_s (k := k) (by omega), eqEvent_l0 hp n (k + 1) hk (by omega), eqEvent_refl]
    · simp [hk]
theorem eqEventS_refl {p : List GEvent} (hp : p.length < 1099511627776) : laws_eqEventS p p = some true := by
  simp [laws_eqEventS]; exact eqEvent_l0 hp FU 0 (by omega) (by have := FU_gt hp; omega)

theorem toEvent_id (x : GEvent) : laws_toEvent x = some x := rfl
theorem toEvent_l0 {p : List GEvent} (hp : p.length < 1099511627776) : ∀ (n k : Nat) (a : List GEvent), k ≤ p.length → p.length < n + k → a.length = p.length → a.take k = p.take k → laws_toEventS_l0 p n a k = some p
  | 0, k, a, h1, h2, h3, h4 => by omega
  | n + 1, k, a, h1, h2, h3, h4 => by
    rw [laws_toEventS_l0]
    by_cases hk : k < p.length
    · have hk' : k < a.length := by omega
      have := toEvent_l0 hp n (k + 1) (a.set k p[k]) hk (by omega) (by simp [h3]) (by
        rw [List.take_add_one, List.take_add_one, List.take_set_of_le (Nat.le_refl k), h4]; simp [hk, hk'])
      simp only [PS, hk, rd_at hk, rd_at hk', toEvent_id, w64_s (k := k) (by omega), this]
    · have : k = p.length := by omega
      subst this
      rw [List.take_length, ← h3, List.take_length] at h4
      simp [h4]
theorem toEventS_id {p : List GEvent} (hp : p.length < 1099511627776) : laws_toEventS p = some p := by
  simp [laws_toEventS, mk_ok hp]
  exact toEvent_l0 hp FU 0 _ (by omega) (by have := FU_gt hp; omega) (by simp) (by simp)

theorem szEventS_ok {p : List GEvent} (hp : p.length ≤ 9223372036854775807) : laws_szEventS p 1048576 = some (if p.length ≤ 1048576 then 1048576 - (p.length : Int) else -1) := by
  rw [laws_szEventS, w64_id (by omega)]
  by_cases h : p.length ≤ 1048576
  · simp [h]; omega
  · simp [h]; omega
end Go.Proofs.Ytkmjbfmmcijojaa
