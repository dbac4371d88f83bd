/- Steps: which are valid. -/
import Derived.Test.YtfcbpgpmafmkhaaW1
import Derived.Test.YtfcbpgpmafmkhaaPure1
namespace Go.Proofs.Ytfcbpgpmafmkhaa
open Go.RowKit

theorem asc_ways (xs : List Str) (k : Nat) : nameB (nth xs k) = false ∨ (nameB (nth xs k) = true ∧ (k = 0 ∨ (0 < k ∧ (strLt (nth xs (k - 1)) (nth xs k) = false ∨ strLt (nth xs (k - 1)) (nth xs k) = true)))) := by
  cases nameB (nth xs k) <;> cases strLt (nth xs (k - 1)) (nth xs k) <;> simp <;> omega
theorem ascB_bad {xs : List Str} {k : Nat} (hk : k < xs.length) (h : ascAt xs k = false) : ascB xs = false := allN_false hk h

set_option maxRecDepth 100000 in
theorem namesAscend_any (A : Option Addr) (n c : Nat) (xs : List Str) (lo : Nat) (w : World) (hr : RStr w lo A n xs) (hok : okS xs) :
    Calls Try.prog 87 #[.slice A n c] w fun e w' => e = .returned (.bool (ascB xs)) ∧ w = w' := by
  have hn : n ≤ 1048576 := by have := hok.1; rw [hr.1] at this; exact this
  have HO := Lib.hid hok; clear hok
  have HR := Lib.hid hr; clear hr
  go_enter Try.func87, Try.ntmps87
  go_wp2_with fail
  go_loop [7] (fun i => ∃ k : Nat, k ≤ n ∧ i = .int .i64 k ∧ ∀ j, j < k → ascAt xs j = true) (fun i => n - (intOf i).toNat)
  case atStart => exact ⟨0, Nat.zero_le _, rfl, fa_zero⟩
  case round =>
    obtain ⟨k, hk, rfl, hp⟩ := hrel
    have HP := Lib.hid hp; clear hp
    by_cases hlt : k < n
    · obtain ⟨b, off, rfl, _, hc⟩ := RStr.at_ HR.out hlt
      obtain ⟨c1, _⟩ := hc k hlt
      have HL := Lib.hid (show k < xs.length by rw [HR.out.1]; exact hlt)
      have hsz := HO.out.2 k HL.out
      rcases asc_ways xs k with h1 | ⟨h1, h2 | ⟨h2, h3 | h3⟩⟩
      · clear hc
        have HG : Hid (ascAt xs k = false) := by simp [Hid, ascAt, h1]
        go_wp2_with (go_at_call 62; refine (nameI_any _ _ hsz).mono ?_; rintro e w' ⟨rfl, rfl⟩)
        go_ret
        exact ⟨ret_b (ascB_bad HL.out HG.out).symm, rfl⟩
      · clear hc
        have HG : Hid (ascAt xs k = true) := by
          have e0 : decide (k = 0) = true := by simpa using h2
          unfold Hid ascAt; rw [h1, e0]; rfl
        have h6 : decide ((0 : Int) < (k : Int)) = false := by simp; omega
        have h7 : decide (0 < k) = false := by simp; omega
        clear h2
        go_wp2_with (go_at_call 62; refine (nameI_any _ _ hsz).mono ?_; rintro e w' ⟨rfl, rfl⟩)
        go_round
        case rel => exact ⟨k + 1, by omega, by go_num, fa_succ HP.out HG.out⟩
        case measure => simp [intOf]; omega
      · obtain ⟨d1, _⟩ := hc (k - 1) (by omega)
        clear hc
        have h6 : decide ((0 : Int) < (k : Int)) = true := by simp; omega
        have h8 : (Op.bytesLess (ByteArray.toList (nth xs k)) (ByteArray.toList (nth xs (k - 1))) || ByteArray.toList (nth xs k) == ByteArray.toList (nth xs (k - 1))) = true := by rw [str_le, h3]; rfl
        have HG : Hid (ascAt xs k = false) := by simp [Hid, ascAt, h3]; omega
        go_wp2_with (go_at_call 62; refine (nameI_any _ _ hsz).mono ?_; rintro e w' ⟨rfl, rfl⟩)
        go_ret
        exact ⟨ret_b (ascB_bad HL.out HG.out).symm, rfl⟩
      · obtain ⟨d1, _⟩ := hc (k - 1) (by omega)
        clear hc
        have h6 : decide ((0 : Int) < (k : Int)) = true := by simp; omega
        have h8 : (Op.bytesLess (ByteArray.toList (nth xs k)) (ByteArray.toList (nth xs (k - 1))) || ByteArray.toList (nth xs k) == ByteArray.toList (nth xs (k - 1))) = false := by rw [str_le, h3]; rfl
        have HG : Hid (ascAt xs k = true) := by simp [Hid, ascAt, h1, h3]
        go_wp2_with (go_at_call 62; refine (nameI_any _ _ hsz).mono ?_; rintro e w' ⟨rfl, rfl⟩)
        go_round
        case rel => exact ⟨k + 1, by omega, by go_num, fa_succ HP.out HG.out⟩
        case measure => simp [intOf]; omega
    · go_wp2_with fail
      go_ret
      exact ⟨ret_b (allN_true (fun j hj => HP.out j (by have := HR.out.1; omega))).symm, rfl⟩

theorem step_waysI (s : Step) : nameB s.name = false ∨ (nameB s.name = true ∧ (4 < s.after.length ∨ (s.after.length ≤ 4 ∧ (ascB s.after = false ∨ (ascB s.after = true ∧ (hasB s.after s.name = true ∨ hasB s.after s.name = false)))))) := by
  cases nameB s.name <;> cases ascB s.after <;> cases hasB s.after s.name <;> simp <;> omega

set_option maxRecDepth 100000 in
theorem stepI_any (A : Option Addr) (n c : Nat) (s : Step) (lo : Nat) (w : World) (hr : RStr w lo A n s.after) (hok : okStep s) :
    Calls Try.prog 88 #[.agg #[.string s.name, .slice A n c, .bool s.undo]] w fun e w' => e = .returned (.bool (stepB s)) ∧ Below w.heap.size w w' := by
  have hsz := hok.1
  have hn : n ≤ 1048576 := by have := hok.2.1; rw [hr.1] at this; exact this
  have HO := Lib.hid hok; clear hok
  have HR := Lib.hid hr; clear hr
  have HS := Lib.hid (step_waysI s)
  have HB := Lib.hid (fun o => (Below.refl w.heap.size w).alloc (Nat.le_refl _) o)
  rcases HS.out with h1 | ⟨h1, h2 | ⟨h2, h3 | ⟨h3, h4 | h4⟩⟩⟩
  all_goals have HG := Lib.hid (show stepB s = (ascB s.after && nameB s.name && !hasB s.after s.name && decide (s.after.length ≤ 4)) from rfl)
  all_goals rw [HR.out.1] at HG
  · go_enter Try.func88, Try.ntmps88
    go_wp2_with (go_at_call 62; refine (nameI_any _ _ hsz).mono ?_; rintro e w' ⟨rfl, rfl⟩)
    go_ret
    exact ⟨ret_b (by rw [HG.out, h1]; simp), HB.out _⟩
  · rw [HR.out.1] at h2
    go_enter Try.func88, Try.ntmps88
    go_wp2_with (go_at_call 62; refine (nameI_any _ _ hsz).mono ?_; rintro e w' ⟨rfl, rfl⟩)
    go_ret
    exact ⟨ret_b (by rw [HG.out, show decide (n ≤ 4) = false by simp; omega]; simp), HB.out _⟩
  · rw [HR.out.1] at h2
    go_enter Try.func88, Try.ntmps88
    go_wp2_with (first | (go_at_call 62; refine (nameI_any _ _ hsz).mono ?_; rintro e w' ⟨rfl, rfl⟩) | (go_at_call 87; refine (namesAscend_any _ _ _ s.after _ _ (HR.out.alloc _) HO.out.2).mono ?_; rintro e w' ⟨rfl, rfl⟩))
    go_ret
    exact ⟨ret_b (by rw [HG.out, h3]; simp), HB.out _⟩
  · rw [HR.out.1] at h2
    go_enter Try.func88, Try.ntmps88
    go_wp2_with (first | (go_at_call 62; refine (nameI_any _ _ hsz).mono ?_; rintro e w' ⟨rfl, rfl⟩) | (go_at_call 87; refine (namesAscend_any _ _ _ s.after _ _ (HR.out.alloc _) HO.out.2).mono ?_; rintro e w' ⟨rfl, rfl⟩) | (go_at_call 97; refine (contains_any _ _ _ s.after _ _ _ (HR.out.alloc _) hn).mono ?_; rintro e w' ⟨rfl, rfl⟩))
    go_ret
    exact ⟨ret_b (by rw [HG.out, h4]; simp), HB.out _⟩
  · rw [HR.out.1] at h2
    go_enter Try.func88, Try.ntmps88
    go_wp2_with (first | (go_at_call 62; refine (nameI_any _ _ hsz).mono ?_; rintro e w' ⟨rfl, rfl⟩) | (go_at_call 87; refine (namesAscend_any _ _ _ s.after _ _ (HR.out.alloc _) HO.out.2).mono ?_; rintro e w' ⟨rfl, rfl⟩) | (go_at_call 97; refine (contains_any _ _ _ s.after _ _ _ (HR.out.alloc _) hn).mono ?_; rintro e w' ⟨rfl, rfl⟩))
    go_ret
    exact ⟨ret_b (by rw [HG.out, h1, h3, h4, show decide (n ≤ 4) = true by simp; omega]; rfl), HB.out _⟩

set_option maxRecDepth 100000 in
set_option maxHeartbeats 400000 in
theorem stepS_any (A : Option Addr) (n c : Nat) (s : Step) (lo : Nat) (w : World) (hr : RStr w lo A n s.after) (hok : okStep s) :
    Calls Try.prog 81 #[.agg #[.string s.name, .slice A n c, .bool s.undo]] w fun e w' => e = .returned (.bool (stepB s)) ∧ Below w.heap.size w w' := by
  have hszn := hok.1
  have hn : n ≤ 1048576 := by have := hok.2.1; rw [hr.1] at this; exact this
  have HO := Lib.hid hok.2; clear hok
  have HR := Lib.hid hr; clear hr
  have HB := Lib.hid (fun m => below_drewN ((Below.refl w.heap.size w).alloc (Nat.le_refl _) (.cells #[.string s.name, .slice A n c, .bool s.undo] 50)) m)
  go_enter Try.func81, Try.ntmps81
  go_wp2_with fail
  go_loopw [3] (fun i wr => ∃ k m : Nat, k ≤ n ∧ i = .int .i64 k ∧ wr = (w.alloc (.cells #[.string s.name, .slice A n c, .bool s.undo] 50)).drewN m ∧ ∀ j, j < k → ascAt s.after j = true) (fun i _ => n - (intOf i).toNat)
  case atStart => exact ⟨0, 0, Nat.zero_le _, rfl, rfl, fa_zero⟩
  case round =>
    obtain ⟨k, m, hk, rfl, rfl, hp⟩ := hrel
    have HP := Lib.hid hp; clear hp
    have HRM := Lib.hid ((HR.out.alloc (.cells #[.string s.name, .slice A n c, .bool s.undo] 50)).drewN m)
    by_cases hlt : k < n
    · obtain ⟨b, off, rfl, ⟨_, hbl⟩, hc⟩ := RStr.at_ HR.out hlt
      obtain ⟨c1, _⟩ := hc k hlt
      have HL := Lib.hid (show k < s.after.length by rw [HR.out.1]; exact hlt)
      have hsz := HO.out.2 k HL.out
      rcases asc_ways s.after k with h1 | ⟨h1, h2 | ⟨h2, h3 | h3⟩⟩
      · clear hc
        have HG : Hid (ascAt s.after k = false) := by simp [Hid, ascAt, h1]
        go_wp2_with fail
        go_quiet ((go_at_call 64; exact q_same2 (nameS_any _ _ hsz)))
        go_wp2_with fail
        go_ret
        exact ⟨ret_b (by unfold stepB; rw [ascB_bad HL.out HG.out]; rfl), by rw [World.drewN_drewN]; exact HB.out _⟩
      · clear hc
        have HG : Hid (ascAt s.after k = true) := by
          have e0 : decide (k = 0) = true := by simpa using h2
          unfold Hid ascAt; rw [h1, e0]; rfl
        have h6 : decide ((0 : Int) < (k : Int)) = false := by simp; omega
        have h7 : decide (0 < k) = false := by simp; omega
        clear h2
        go_wp2_with fail
        go_quiet ((go_at_call 64; exact q_same2 (nameS_any _ _ hsz)))
        go_wp2_with fail
        go_roundw
        case rel => exact ⟨k + 1, _, by omega, by go_num, rfl, fa_succ HP.out HG.out⟩
        case measure => simp [intOf]; omega
      · obtain ⟨d1, _⟩ := hc (k - 1) (by omega)
        clear hc
        have h6 : decide ((0 : Int) < (k : Int)) = true := by simp; omega
        have h8 : Op.bytesLess (ByteArray.toList (nth s.after (k - 1))) (ByteArray.toList (nth s.after k)) = false := h3
        have HG : Hid (ascAt s.after k = false) := by simp [Hid, ascAt, h3]; omega
        go_wp2_with fail
        go_quiet ((go_at_call 64; exact q_same2 (nameS_any _ _ hsz)))
        go_wp2_with fail
        go_ret
        exact ⟨ret_b (by unfold stepB; rw [ascB_bad HL.out HG.out]; rfl), by rw [World.drewN_drewN]; exact HB.out _⟩
      · obtain ⟨d1, _⟩ := hc (k - 1) (by omega)
        clear hc
        have h6 : decide ((0 : Int) < (k : Int)) = true := by simp; omega
        have h8 : Op.bytesLess (ByteArray.toList (nth s.after (k - 1))) (ByteArray.toList (nth s.after k)) = true := h3
        have HG : Hid (ascAt s.after k = true) := by simp [Hid, ascAt, h1, h3]
        go_wp2_with fail
        go_quiet ((go_at_call 64; exact q_same2 (nameS_any _ _ hsz)))
        go_wp2_with fail
        go_roundw
        case rel => exact ⟨k + 1, _, by omega, by go_num, rfl, fa_succ HP.out HG.out⟩
        case measure => simp [intOf]; omega
    · have HA := Lib.hid (show ascB s.after = true from allN_true (fun j hj => HP.out j (by have := HR.out.1; omega)))
      have HG := Lib.hid (show stepB s = (ascB s.after && nameB s.name && !hasB s.after s.name && decide (s.after.length ≤ 4)) from rfl)
      rw [HR.out.1, HA.out, Bool.true_and] at HG
      cases h1 : nameB s.name
      · go_wp2_with (go_at_call 64; refine (nameS_any _ _ hszn).mono ?_; rintro e w' ⟨rfl, rfl⟩)
        go_ret
        exact ⟨ret_b (by rw [HG.out, h1]; rfl), HB.out _⟩
      cases h2 : hasB s.after s.name
      · have h3 := idx_neg h2
        go_wp2_with (first | (go_at_call 64; refine (nameS_any _ _ hszn).mono ?_; rintro e w' ⟨rfl, rfl⟩) | (go_at_call 69; refine (l1At_any _ _ _ s.after _ _ _ HRM.out hn).mono ?_; rintro e w' ⟨rfl, rfl⟩))
        go_ret
        exact ⟨ret_b (by rw [HG.out, h1, h2]; simp; omega), HB.out _⟩
      · have h3 := idx_pos h2
        go_wp2_with (first | (go_at_call 64; refine (nameS_any _ _ hszn).mono ?_; rintro e w' ⟨rfl, rfl⟩) | (go_at_call 69; refine (l1At_any _ _ _ s.after _ _ _ HRM.out hn).mono ?_; rintro e w' ⟨rfl, rfl⟩))
        go_ret
        exact ⟨ret_b (by rw [HG.out, h1, h2]; rfl), HB.out _⟩
end Go.Proofs.Ytfcbpgpmafmkhaa
