/- FnExactGuardsClosed: the walk. -/
import Derived.Test.YtfcbpgpmafmkhaaE2
import Derived.Test.YtfcbpgpmafmkhaaW3
namespace Go.Proofs.Ytfcbpgpmafmkhaa
open Go.RowKit

theorem eqStringS_same (A B : Option Addr) (n m c d : Nat) (xs : List Str) (lo lo' : Nat) (w : World) (hr : RStr w lo A n xs) (hn : n ≤ 1048576) (hr' : RStr w lo' B m xs) :
    Calls Try.prog 110 #[.slice A n c, .slice B m d] w fun e w' => e = .returned (.bool true) ∧ ∃ k, w' = w.drewN k := by
  have HX := Lib.hid hr; clear hr
  have HY := Lib.hid hr'; clear hr'
  have hnm : m = n := by rw [← HX.out.1, ← HY.out.1]
  subst hnm
  go_enter Try.func110, Try.ntmps110
  go_wp2_with fail
  go_loopw [5] (fun i wr => ∃ k q : Nat, k ≤ m ∧ i = .int .i64 k ∧ wr = w.drewN q) (fun i _ => m - (intOf i).toNat)
  case atStart => exact ⟨0, 0, Nat.zero_le _, rfl, rfl⟩
  case round =>
    obtain ⟨k, q, hk, rfl, rfl⟩ := hrel
    by_cases hlt : k < m
    · obtain ⟨b, off, rfl, _, hc⟩ := RStr.at_ HX.out hlt
      obtain ⟨c1, _⟩ := hc k hlt
      clear hc
      obtain ⟨b', off', rfl, _, hc⟩ := RStr.at_ HY.out hlt
      obtain ⟨c2, _⟩ := hc k hlt
      clear hc
      go_wp2_with fail
      go_quiet (fail)
      go_wp2_with fail
      go_roundw
      case rel => exact ⟨k + 1, _, by omega, by go_num, rfl⟩
      case measure => simp [intOf]; omega
    · go_wp2_with fail
      go_ret
      exact ⟨rfl, _, rfl⟩

theorem closL_len (gs : List Guard) (vs : List Int) : (closL gs vs).length ≤ gs.length := by
  unfold closL
  split
  · exact closTo_len _ _ _
  · simp

end Go.Proofs.Ytfcbpgpmafmkhaa
