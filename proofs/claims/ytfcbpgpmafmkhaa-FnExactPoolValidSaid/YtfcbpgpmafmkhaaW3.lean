/- GuardsClosed. -/
import Derived.Test.YtfcbpgpmafmkhaaW2
namespace Go.Proofs.Ytfcbpgpmafmkhaa
open Go.RowKit

def closB (vs : List Int) (g : Guard) : Bool := decide (nth vs g.var.toNat < g.least)
def closTo (gs : List Guard) (vs : List Int) (k : Nat) : List Str := ((gs.take k).filter (closB vs)).map (·.name)
def closL (gs : List Guard) (vs : List Int) : List Str := if guardsB gs && varsB vs then closTo gs vs gs.length else []

theorem closTo_yes {gs : List Guard} {vs : List Int} {k : Nat} (hk : k < gs.length) (h : closB vs (nth gs k) = true) : closTo gs vs (k + 1) = closTo gs vs k ++ [(nth gs k).name] := by
  unfold closTo; rw [take_nth hk, List.filter_append, List.map_append]; simp [h]
theorem closTo_no {gs : List Guard} {vs : List Int} {k : Nat} (hk : k < gs.length) (h : closB vs (nth gs k) = false) : closTo gs vs (k + 1) = closTo gs vs k := by
  unfold closTo; rw [take_nth hk, List.filter_append, List.map_append]; simp [h]
theorem closTo_len (gs : List Guard) (vs : List Int) (k : Nat) : (closTo gs vs k).length ≤ k := by
  unfold closTo; rw [List.length_map]
  exact Nat.le_trans (List.length_filter_le _ _) (List.length_take_le _ _)
theorem closL_yes {gs : List Guard} {vs : List Int} (h : guardsB gs = true) (h' : varsB vs = true) : closL gs vs = closTo gs vs gs.length := by unfold closL; rw [h, h']; rfl
theorem closL_no {gs : List Guard} {vs : List Int} (h : guardsB gs = false ∨ varsB vs = false) : closL gs vs = [] := by
  unfold closL; rcases h with h | h <;> rw [h] <;> simp

/-- What valid arguments say of the guard at k. -/
theorem guard_in {gs : List Guard} {vs : List Int} {k : Nat} (h : guardsB gs = true) (h' : varsB vs = true) (hk : k < gs.length) : 0 ≤ (nth gs k).var ∧ (nth gs k).var ≤ 3 ∧ vs.length = 4 ∧ gs.length ≤ 8 := by
  unfold guardsB at h; unfold varsB at h'
  simp only [Bool.and_eq_true, decide_eq_true_eq] at h h'
  have h1 := allN_iff.1 h.1 k hk
  simp only [guardB, inB, Bool.and_eq_true, decide_eq_true_eq] at h1
  omega

end Go.Proofs.Ytfcbpgpmafmkhaa
