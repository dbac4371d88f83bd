/- Guards. -/
import Derived.Test.YtnlibaoegfdoeaaW1
import Derived.Test.YtnlibaoegfdoeaaApp
namespace Go.Proofs.Ytnlibaoegfdoeaa
open Go.RowKit

def varsB (vs : List Int) : Bool := allN vs.length (fun j => inB (nth vs j) 0 99) && decide (vs.length = 4)

theorem varsS_any (A : Option Addr) (n c : Nat) (vs : List Int) (lo : Nat) (w : World) (hr : RInt w lo A n vs) (hn : n ≤ 1048576) :
    Calls Try.prog 20 #[.slice A n c] w fun e w' => e = .returned (.bool (varsB vs)) ∧ w = w' := by
  have HR := Lib.hid hr; clear hr
  go_enter Try.func20, Try.ntmps20
  go_wp2
  go_loop [3] (fun i => ∃ k : Nat, k ≤ n ∧ i = .int .i64 k ∧ ∀ j, j < k → inB (nth vs j) 0 99 = true) (fun i => n - (intOf i).toNat)
  case atStart => exact ⟨0, Nat.zero_le _, rfl, fa_zero⟩
  case round =>
    obtain ⟨k, hk, rfl, hp⟩ := hrel
    have HP := Lib.hid hp; clear hp
    by_cases hlt : k < n
    · obtain ⟨b, off, rfl, _, hc⟩ := HR.out.at_ hlt
      obtain ⟨c1, _⟩ := hc k hlt
      clear hc
      by_cases he : inB (nth vs k) 0 99 = true
      · go_wp2_with (go_at_call 54; refine (l6In_any _ _ _ _).mono ?_; rintro e w' ⟨rfl, rfl⟩)
        go_round
        case rel => exact ⟨k + 1, by omega, by go_num, fa_succ HP.out he⟩
        case measure => simp [intOf]; omega
      · have he := (bf he)
        go_wp2_with (go_at_call 54; refine (l6In_any _ _ _ _).mono ?_; rintro e w' ⟨rfl, rfl⟩)
        go_ret
        exact ⟨ret_b (by unfold varsB; rw [allN_false (j := k) (HR.out.1 ▸ hlt) he, Bool.false_and]), rfl⟩
    · go_wp2_with fail
      go_ret
      exact ⟨ret_b (by unfold varsB; rw [allN_true (fun j hj => HP.out j (by have := HR.out.1; omega)), Bool.true_and, HR.out.1, eq4 n]), rfl⟩

theorem varsI_any (A : Option Addr) (n c : Nat) (vs : List Int) (lo : Nat) (w : World) (hr : RInt w lo A n vs) (hn : n ≤ 1048576) :
    Calls Try.prog 52 #[.slice A n c] w fun e w' => e = .returned (.bool (varsB vs)) ∧ w = w' := by
  have HR := Lib.hid hr; clear hr
  go_enter Try.func52, Try.ntmps52
  go_wp2
  go_loop [7] (fun i => ∃ k : Nat, k ≤ n ∧ i = .int .i64 k ∧ ∀ j, j < k → inB (nth vs j) 0 99 = true) (fun i => n - (intOf i).toNat)
  case atStart => exact ⟨0, Nat.zero_le _, rfl, fa_zero⟩
  case round =>
    obtain ⟨k, hk, rfl, hp⟩ := hrel
    have HP := Lib.hid hp; clear hp
    by_cases hlt : k < n
    · obtain ⟨b, off, rfl, _, hc⟩ := HR.out.at_ hlt
      obtain ⟨c1, _⟩ := hc k hlt
      clear hc
      by_cases he : inB (nth vs k) 0 99 = true
      · go_wp2_with (go_at_call 79; refine (isVar_any _ _).mono ?_; rintro e w' ⟨rfl, rfl⟩)
        go_round
        case rel => exact ⟨k + 1, by omega, by go_num, fa_succ HP.out he⟩
        case measure => simp [intOf]; omega
      · have he := (bf he)
        go_wp2_with (go_at_call 79; refine (isVar_any _ _).mono ?_; rintro e w' ⟨rfl, rfl⟩)
        go_ret
        exact ⟨ret_b (by unfold varsB; rw [allN_false (j := k) (HR.out.1 ▸ hlt) he, Bool.false_and]), rfl⟩
    · go_wp2_with fail
      go_ret
      exact ⟨ret_b (by unfold varsB; rw [allN_true (fun j hj => HP.out j (by have := HR.out.1; omega)), Bool.true_and, HR.out.1, eq4 n]), rfl⟩

def okG (xs : List Guard) : Prop := xs.length ≤ 1048576 ∧ ∀ j, j < xs.length → (nth xs j).name.size ≤ maxLen

theorem guard_ways (xs : List Guard) (k : Nat) : nameB (nth xs k).name = false ∨ (nameB (nth xs k).name = true ∧ (inB (nth xs k).var 0 3 = false ∨ (inB (nth xs k).var 0 3 = true ∧ (inB (nth xs k).least 0 99 = false ∨ (inB (nth xs k).least 0 99 = true ∧ k ≤ 0) ∨ (inB (nth xs k).least 0 99 = true ∧ 0 < k))))) := by
  cases nameB (nth xs k).name <;> cases inB (nth xs k).var 0 3 <;> cases inB (nth xs k).least 0 99 <;> simp <;> omega

theorem guardsB_bad {xs : List Guard} {k : Nat} (hk : k < xs.length) (h : guardB xs k = false) : guardsB xs = false := by
  unfold guardsB; rw [allN_false hk h, Bool.false_and]
theorem guardsB_end {xs : List Guard} {n : Nat} (hl : xs.length = n) (h : ∀ j, j < n → guardB xs j = true) : guardsB xs = decide ((n : Int) ≤ 8) := by
  subst hl; unfold guardsB; rw [allN_true h, Bool.true_and]

theorem guardsS_any (A : Option Addr) (n c : Nat) (xs : List Guard) (lo : Nat) (w : World) (hr : RGuard w lo A n xs) (hok : okG xs) :
    Calls Try.prog 19 #[.slice A n c] w fun e w' => e = .returned (.bool (guardsB xs)) ∧ ∃ m, w' = w.drewN m := by
  have hn : n ≤ 1048576 := by have := hok.1; rw [hr.1] at this; exact this
  have HO := Lib.hid hok; clear hok
  have HR := Lib.hid hr; clear hr
  go_enter Try.func19, Try.ntmps19
  go_wp2_with fail
  go_loopw [3] (fun i wr => ∃ k m : Nat, k ≤ n ∧ i = .int .i64 k ∧ (wr = w.drewN m) ∧ ∀ j, j < k → guardB xs j = true) (fun i wr => n - (intOf i).toNat)
  case atStart => exact ⟨0, 0, Nat.zero_le _, rfl, rfl, fa_zero⟩
  case round =>
    obtain ⟨k, m, hk, rfl, rfl, hp⟩ := hrel
    have HP := Lib.hid hp; clear hp
    by_cases hlt : k < n
    · obtain ⟨b, off, rfl, _, hc⟩ := HR.out.at_ hlt
      obtain ⟨⟨c1, c2, c3⟩, _⟩ := hc k hlt
      have HL := Lib.hid (show k < xs.length by rw [HR.out.1]; exact hlt)
      have hsz := HO.out.2 k HL.out
      rcases guard_ways xs k with h1 | ⟨h1, h2 | ⟨h2, h3 | ⟨h3, h4⟩ | ⟨h3, h4⟩⟩⟩
      · clear hc
        go_wp2_with fail
        go_quiet ((first | (go_at_call 53; exact q_same2 (nameS_any _ _ hsz)) | (go_at_call 54; exact q_same2 (l6In_any _ _ _ _))))
        go_wp2_with fail
        go_ret
        exact ⟨ret_b (guardsB_bad HL.out (by simp [guardB, h1])).symm, _, World.drewN_drewN _ _ _⟩
      · clear hc
        go_wp2_with fail
        go_quiet ((first | (go_at_call 53; exact q_same2 (nameS_any _ _ hsz)) | (go_at_call 54; exact q_same2 (l6In_any _ _ _ _))))
        go_wp2_with fail
        go_ret
        exact ⟨ret_b (guardsB_bad HL.out (by simp [guardB, h2])).symm, _, World.drewN_drewN _ _ _⟩
      · clear hc
        go_wp2_with fail
        go_quiet ((first | (go_at_call 53; exact q_same2 (nameS_any _ _ hsz)) | (go_at_call 54; exact q_same2 (l6In_any _ _ _ _))))
        go_wp2_with fail
        go_ret
        exact ⟨ret_b (guardsB_bad HL.out (by simp [guardB, h3])).symm, _, World.drewN_drewN _ _ _⟩
      · clear hc
        have h5 : decide ((0 : Int) < (k : Int)) = false := by simp; omega
        have h6 : decide (0 < k) = false := by simp; omega
        have HG : Hid (guardB xs k = true) := by
          have e0 : decide (k = 0) = true := by simp; omega
          unfold Hid guardB; rw [h1, h2, h3, e0]; rfl
        clear h4
        go_wp2_with fail
        go_quiet ((first | (go_at_call 53; exact q_same2 (nameS_any _ _ hsz)) | (go_at_call 54; exact q_same2 (l6In_any _ _ _ _))))
        go_wp2_with fail
        go_roundw
        case rel => exact ⟨k + 1, _, by omega, by go_num, rfl, fa_succ HP.out HG.out⟩
        case measure => simp [intOf]; omega
      · obtain ⟨⟨d1, _, _⟩, _⟩ := hc (k - 1) (by omega)
        clear hc
        have h5 : decide ((0 : Int) < (k : Int)) = true := by simp; omega
        cases h6 : strLt (nth xs (k - 1)).name (nth xs k).name
        · have h7 : Op.bytesLess (ByteArray.toList (nth xs (k - 1)).name) (ByteArray.toList (nth xs k).name) = false := h6
          have HG : Hid (guardB xs k = false) := by simp [Hid, guardB, h6]; omega
          go_wp2_with fail
          go_quiet ((first | (go_at_call 53; exact q_same2 (nameS_any _ _ hsz)) | (go_at_call 54; exact q_same2 (l6In_any _ _ _ _))))
          go_wp2_with fail
          go_ret
          exact ⟨ret_b (guardsB_bad HL.out HG.out).symm, _, World.drewN_drewN _ _ _⟩
        · have h7 : Op.bytesLess (ByteArray.toList (nth xs (k - 1)).name) (ByteArray.toList (nth xs k).name) = true := h6
          have HG : Hid (guardB xs k = true) := by simp [Hid, guardB, h1, h2, h3, h6]
          go_wp2_with fail
          go_quiet ((first | (go_at_call 53; exact q_same2 (nameS_any _ _ hsz)) | (go_at_call 54; exact q_same2 (l6In_any _ _ _ _))))
          go_wp2_with fail
          go_roundw
          case rel => exact ⟨k + 1, _, by omega, by go_num, rfl, fa_succ HP.out HG.out⟩
          case measure => simp [intOf]; omega
    · go_wp2_with fail
      go_ret
      exact ⟨ret_b (guardsB_end HR.out.1 (fun j hj => HP.out j (by omega))).symm, _, rfl⟩

theorem guard_waysI (xs : List Guard) (k : Nat) : nameB (nth xs k).name = false ∨ (nameB (nth xs k).name = true ∧ (
    decide ((nth xs k).var < 0) = true ∨ (decide ((nth xs k).var < 0) = false ∧ (
    decide (4 ≤ (nth xs k).var) = true ∨ (decide (4 ≤ (nth xs k).var) = false ∧ (
    inB (nth xs k).least 0 99 = false ∨ (inB (nth xs k).least 0 99 = true ∧ k = 0) ∨ (inB (nth xs k).least 0 99 = true ∧ 0 < k))))))) := by
  cases nameB (nth xs k).name <;> cases decide ((nth xs k).var < 0) <;> cases decide (4 ≤ (nth xs k).var) <;> cases inB (nth xs k).least 0 99 <;> simp <;> omega

theorem guardsI_any (A : Option Addr) (n c : Nat) (xs : List Guard) (lo : Nat) (w : World) (hr : RGuard w lo A n xs) (hok : okG xs) :
    Calls Try.prog 51 #[.slice A n c] w fun e w' => e = .returned (.bool (guardsB xs)) ∧ Below w.heap.size w w' := by
  have hn : n ≤ 1048576 := by have := hok.1; rw [hr.1] at this; exact this
  have HO := Lib.hid hok; clear hok
  have HR := Lib.hid hr; clear hr
  go_enter Try.func51, Try.ntmps51
  go_wp2_with fail
  go_loopw [7] (fun i wr => ∃ k : Nat, k ≤ n ∧ i = .int .i64 k ∧ Below w.heap.size w wr ∧ ∀ j, j < k → guardB xs j = true) (fun i wr => n - (intOf i).toNat)
  case atStart => exact ⟨0, Nat.zero_le _, rfl, Below.refl _ _, fa_zero⟩
  case round =>
    obtain ⟨k, hk, rfl, hbw, hp⟩ := hrel
    have HP := Lib.hid hp; clear hp
    have HB := Lib.hid hbw; clear hbw
    by_cases hlt : k < n
    · obtain ⟨b, off, rfl, ⟨_, hbr⟩, hc⟩ := RGuard.at_ (HR.out.below HB.out) hlt
      obtain ⟨⟨c1, c2, c3⟩, _⟩ := hc k hlt
      have HL := Lib.hid (show k < xs.length by rw [HR.out.1]; exact hlt)
      have hsz := HO.out.2 k HL.out
      have HA := Lib.hid (fun (o : Obj) (m : Nat) => below_drewN (HB.out.alloc HB.out.size o) m)
      have HA0 := Lib.hid (fun (o : Obj) => (HB.out.alloc HB.out.size o))
      rcases guard_waysI xs k with h1 | ⟨h1, h2 | ⟨h2, h3 | ⟨h3, h4 | ⟨h4, h5⟩ | ⟨h4, h5⟩⟩⟩⟩
      · clear hc
        go_wp2_with fail
        go_quiet ((first | (go_at_call 78; exact q_same2 (nameI_any _ _ hsz)) | (go_at_call 79; exact q_same2 (isVar_any _ _)) | (go_at_call 78; exact q_same (nameI_any _ _ hsz)) | (go_at_call 79; exact q_same (isVar_any _ _))))
        go_wp2_with fail
        go_ret
        exact ⟨ret_b (guardsB_bad HL.out (by simp [guardB, h1])).symm, HA.out _ _⟩
      · clear hc
        go_wp2_with fail
        go_quiet ((first | (go_at_call 78; exact q_same2 (nameI_any _ _ hsz)) | (go_at_call 79; exact q_same2 (isVar_any _ _)) | (go_at_call 78; exact q_same (nameI_any _ _ hsz)) | (go_at_call 79; exact q_same (isVar_any _ _))))
        go_wp2_with fail
        go_ret
        exact ⟨ret_b (guardsB_bad HL.out (by simp at h2; simp [guardB, inB]; omega)).symm, HA.out _ _⟩
      · clear hc
        go_wp2_with fail
        go_quiet ((first | (go_at_call 78; exact q_same2 (nameI_any _ _ hsz)) | (go_at_call 79; exact q_same2 (isVar_any _ _)) | (go_at_call 78; exact q_same (nameI_any _ _ hsz)) | (go_at_call 79; exact q_same (isVar_any _ _))))
        go_wp2_with fail
        go_ret
        exact ⟨ret_b (guardsB_bad HL.out (by simp at h3; simp [guardB, inB]; omega)).symm, HA.out _ _⟩
      · clear hc
        go_wp2_with fail
        go_quiet ((first | (go_at_call 78; exact q_same2 (nameI_any _ _ hsz)) | (go_at_call 79; exact q_same2 (isVar_any _ _)) | (go_at_call 78; exact q_same (nameI_any _ _ hsz)) | (go_at_call 79; exact q_same (isVar_any _ _))))
        go_wp2_with fail
        go_ret
        exact ⟨ret_b (guardsB_bad HL.out (by simp [guardB, h4])).symm, HA.out _ _⟩
      · clear hc
        have h6 : decide ((0 : Int) < (k : Int)) = false := by simp; omega
        have h7 : decide (0 < k) = false := by simp; omega
        have HG : Hid (guardB xs k = true) := by
          have e0 : decide (k = 0) = true := by simp; omega
          have e1 : inB (nth xs k).var 0 3 = true := by simp at h2 h3; simp [inB]; omega
          unfold Hid guardB; rw [h1, e1, h4, e0]; rfl
        clear h5
        go_wp2_with fail
        go_quiet ((first | (go_at_call 78; exact q_same2 (nameI_any _ _ hsz)) | (go_at_call 79; exact q_same2 (isVar_any _ _)) | (go_at_call 78; exact q_same (nameI_any _ _ hsz)) | (go_at_call 79; exact q_same (isVar_any _ _))))
        go_wp2_with fail
        go_roundw
        case rel => exact ⟨k + 1, by omega, by go_num, HA.out _ _, fa_succ HP.out HG.out⟩
        case measure => simp [intOf]; omega
      · obtain ⟨⟨d1, _, _⟩, _⟩ := hc (k - 1) (by omega)
        clear hc
        have h6 : decide ((0 : Int) < (k : Int)) = true := by simp; omega
        have e1 : inB (nth xs k).var 0 3 = true := by simp at h2 h3; simp [inB]; omega
        cases h7 : strLt (nth xs (k - 1)).name (nth xs k).name
        · have h8 : (Op.bytesLess (ByteArray.toList (nth xs k).name) (ByteArray.toList (nth xs (k - 1)).name) || ByteArray.toList (nth xs k).name == ByteArray.toList (nth xs (k - 1)).name) = true := by rw [str_le, h7]; rfl
          have HG : Hid (guardB xs k = false) := by simp [Hid, guardB, h7]; omega
          clear e1
          go_wp2_with fail
          go_quiet ((first | (go_at_call 78; exact q_same2 (nameI_any _ _ hsz)) | (go_at_call 79; exact q_same2 (isVar_any _ _)) | (go_at_call 78; exact q_same (nameI_any _ _ hsz)) | (go_at_call 79; exact q_same (isVar_any _ _))))
          go_wp2_with fail
          go_ret
          exact ⟨ret_b (guardsB_bad HL.out HG.out).symm, HA.out _ _⟩
        · have h8 : (Op.bytesLess (ByteArray.toList (nth xs k).name) (ByteArray.toList (nth xs (k - 1)).name) || ByteArray.toList (nth xs k).name == ByteArray.toList (nth xs (k - 1)).name) = false := by rw [str_le, h7]; rfl
          have HG : Hid (guardB xs k = true) := by simp [Hid, guardB, h1, e1, h4, h7]
          clear e1
          go_wp2_with fail
          go_quiet ((first | (go_at_call 78; exact q_same2 (nameI_any _ _ hsz)) | (go_at_call 79; exact q_same2 (isVar_any _ _)) | (go_at_call 78; exact q_same (nameI_any _ _ hsz)) | (go_at_call 79; exact q_same (isVar_any _ _))))
          go_wp2_with fail
          go_roundw
          case rel => exact ⟨k + 1, by omega, by go_num, HA.out _ _, fa_succ HP.out HG.out⟩
          case measure => simp [intOf]; omega
    · go_wp2_with fail
      go_ret
      exact ⟨ret_b (guardsB_end HR.out.1 (fun j hj => HP.out j (by omega))).symm, HB.out⟩
end Go.Proofs.Ytnlibaoegfdoeaa
