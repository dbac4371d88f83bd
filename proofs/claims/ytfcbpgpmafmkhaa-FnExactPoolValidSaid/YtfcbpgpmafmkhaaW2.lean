/- Guards. -/
import Derived.Test.YtfcbpgpmafmkhaaW1
import Derived.Test.YtfcbpgpmafmkhaaApp
namespace Go.Proofs.Ytfcbpgpmafmkhaa
open Go.RowKit

def varsB (vs : List Int) : Bool := allN vs.length (fun j => inB (nth vs j) 0 99) && decide (vs.length = 4)

def okG (xs : List Guard) : Prop := xs.length ≤ 1048576 ∧ ∀ j, j < xs.length → (nth xs j).name.size ≤ maxLen

theorem guard_ways (xs : List Guard) (k : Nat) : nameB (nth xs k).name = false ∨ (nameB (nth xs k).name = true ∧ (inB (nth xs k).var 0 3 = false ∨ (inB (nth xs k).var 0 3 = true ∧ (inB (nth xs k).least 0 99 = false ∨ (inB (nth xs k).least 0 99 = true ∧ k ≤ 0) ∨ (inB (nth xs k).least 0 99 = true ∧ 0 < k))))) := by
  cases nameB (nth xs k).name <;> cases inB (nth xs k).var 0 3 <;> cases inB (nth xs k).least 0 99 <;> simp <;> omega

theorem guardsB_bad {xs : List Guard} {k : Nat} (hk : k < xs.length) (h : guardB xs k = false) : guardsB xs = false := by
  unfold guardsB; rw [allN_false hk h, Bool.false_and]
theorem guardsB_end {xs : List Guard} {n : Nat} (hl : xs.length = n) (h : ∀ j, j < n → guardB xs j = true) : guardsB xs = decide ((n : Int) ≤ 8) := by
  subst hl; unfold guardsB; rw [allN_true h, Bool.true_and]

theorem guard_waysI (xs : List Guard) (k : Nat) : nameB (nth xs k).name = false ∨ (nameB (nth xs k).name = true ∧ (
    decide ((nth xs k).var < 0) = true ∨ (decide ((nth xs k).var < 0) = false ∧ (
    decide (4 ≤ (nth xs k).var) = true ∨ (decide (4 ≤ (nth xs k).var) = false ∧ (
    inB (nth xs k).least 0 99 = false ∨ (inB (nth xs k).least 0 99 = true ∧ k = 0) ∨ (inB (nth xs k).least 0 99 = true ∧ 0 < k))))))) := by
  cases nameB (nth xs k).name <;> cases decide ((nth xs k).var < 0) <;> cases decide (4 ≤ (nth xs k).var) <;> cases inB (nth xs k).least 0 99 <;> simp <;> omega

end Go.Proofs.Ytfcbpgpmafmkhaa
