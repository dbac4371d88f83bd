/- What the exact laws need beside the functions: guards. -/
import Derived.Test.YtfcbpgpmafmkhaaE1
namespace Go.Proofs.Ytfcbpgpmafmkhaa
open Go.RowKit

def szI (sz left : Int) : Int := if sz ≤ left then left - sz else -1
theorem szI_yes {sz left : Int} (h : sz ≤ left) : szI sz left = left - sz := by unfold szI; rw [if_pos h]
theorem szI_no {sz left : Int} (h : ¬ sz ≤ left) : szI sz left = -1 := by unfold szI; rw [if_neg h]

def SzQ (left : Int) (ok : Prop) (w : World) (e : Ending) (w' : World) : Prop := ∃ r : Int, e = .returned (.int .i64 r) ∧ -1 ≤ r ∧ (0 ≤ r → r ≤ left ∧ ok) ∧ Below w.heap.size w w'

theorem RGuard.hset {w : World} {lo hi b off n j : Nat} {gs : List Guard} (h : RH guardE w lo hi (some ⟨b, off, none⟩) n gs) (hj : j < n) (x : Guard) :
    RH guardE (((w.setCell ⟨b, off + j * 3, none⟩ (.string x.name)).setCell ⟨b, off + j * 3 + 1, none⟩ (.int .i64 x.var)).setCell ⟨b, off + j * 3 + 2, none⟩ (.int .i64 x.least)) lo hi (some ⟨b, off, none⟩) n (gs.set j x) := by
  refine ⟨by rw [List.length_set]; exact h.1, fun hn => ?_⟩
  obtain ⟨b', off', e, h1, h2, hc⟩ := h.2 hn
  injection e with e; injection e with e1 e2
  subst e1; subst e2
  refine ⟨b, off, rfl, h1, h2, fun k hk => ?_⟩
  obtain ⟨c1, c2, c3⟩ := hc k hk
  rw [nth_set (by rw [h.1]; exact hj)]
  by_cases hkj : k = j
  · subst hkj
    rw [if_pos rfl]
    exact ⟨(c1.set_same.set_other (.inr (by show off + k * 3 ≠ _; omega))).set_other (.inr (by show off + k * 3 ≠ _; omega)),
      ((c2.set_other (.inr (by show off + k * 3 + 1 ≠ _; omega))).set_same).set_other (.inr (by show off + k * 3 + 1 ≠ _; omega)),
      ((c3.set_other (.inr (by show off + k * 3 + 2 ≠ _; omega))).set_other (.inr (by show off + k * 3 + 2 ≠ _; omega))).set_same⟩
  · rw [if_neg hkj]
    exact ⟨((c1.set_other (.inr (by show off + k * 3 ≠ _; omega))).set_other (.inr (by show off + k * 3 ≠ _; omega))).set_other (.inr (by show off + k * 3 ≠ _; omega)),
      ((c2.set_other (.inr (by show off + k * 3 + 1 ≠ _; omega))).set_other (.inr (by show off + k * 3 + 1 ≠ _; omega))).set_other (.inr (by show off + k * 3 + 1 ≠ _; omega)),
      ((c3.set_other (.inr (by show off + k * 3 + 2 ≠ _; omega))).set_other (.inr (by show off + k * 3 + 2 ≠ _; omega))).set_other (.inr (by show off + k * 3 + 2 ≠ _; omega))⟩

theorem RGuard.set_ {w : World} {lo b off n j : Nat} {gs : List Guard} (h : RGuard w lo (some ⟨b, off, none⟩) n gs) (hj : j < n) (x : Guard) :
    RGuard (((w.setCell ⟨b, off + j * 3, none⟩ (.string x.name)).setCell ⟨b, off + j * 3 + 1, none⟩ (.int .i64 x.var)).setCell ⟨b, off + j * 3 + 2, none⟩ (.int .i64 x.least)) lo (some ⟨b, off, none⟩) n (gs.set j x) := (RGuard.hset h.low hj x).up (by simp)

end Go.Proofs.Ytfcbpgpmafmkhaa
