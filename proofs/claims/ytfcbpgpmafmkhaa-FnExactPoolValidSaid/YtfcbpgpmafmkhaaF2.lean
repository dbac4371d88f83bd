/- Flows: the leaves. -/
import Derived.Test.YtfcbpgpmafmkhaaF1
import Derived.Test.YtfcbpgpmafmkhaaApp
namespace Go.Proofs.Ytfcbpgpmafmkhaa
open Go.RowKit

set_option maxRecDepth 100000 in
theorem l2At_any (A : Option Addr) (n c : Nat) (ss : List Step) (s : Str) (lo : Nat) (w : World) (hr : RStep w lo A n ss) (hn : n ≤ 1048576) :
    Calls Try.prog 82 #[.slice A n c, .string s] w fun e w' => e = .returned (.int .i64 (idxI (namesOf ss) s)) ∧ w = w' := by
  have HR := Lib.hid hr; clear hr
  go_enter Try.func82, Try.ntmps82
  go_wp2_with fail
  go_loop [5] (fun i => ∃ k : Nat, k ≤ n ∧ i = .int .i64 k ∧ ∀ j, j < k → (nth ss j).name ≠ s) (fun i => n - (intOf i).toNat)
  case atStart => exact ⟨0, Nat.zero_le _, rfl, fa_zero⟩
  case round =>
    obtain ⟨k, hk, rfl, hp⟩ := hrel
    have HP := Lib.hid hp; clear hp
    by_cases hlt : k < n
    · obtain ⟨b, off, rfl, _, hc⟩ := RStep.at_ HR.out hlt
      obtain ⟨A', n', c', ⟨c1, _⟩, _⟩ := hc k hlt
      clear hc
      by_cases he : (nth ss k).name = s
      · have HE := Lib.hid he; clear he
        have hq := seq_t HE.out
        go_wp2
        go_ret
        exact ⟨ret_i (idxI_at (fun j hj => by rw [namesOf_at (by rw [HR.out.1]; omega)]; exact HP.out j hj) (by rw [namesOf_len, HR.out.1]; exact hlt) (by rw [namesOf_at (by rw [HR.out.1]; exact hlt)]; exact HE.out)).symm, rfl⟩
      · have HE := Lib.hid he; clear he
        have hq := seq_f HE.out
        go_wp2
        go_round
        case rel => exact ⟨k + 1, by omega, by go_num, fa_succ HP.out HE.out⟩
        case measure => simp [intOf]; omega
    · go_wp2
      go_ret
      exact ⟨ret_i (idxI_none (fun j hj => by rw [namesOf_len, HR.out.1] at hj; rw [namesOf_at (by rw [HR.out.1]; exact hj)]; exact HP.out j (by omega))).symm, rfl⟩

theorem rdyB_ways (done : List Str) (s : Step) : (hasB done s.name = true ∧ rdyB done s = false) ∨ (hasB done s.name = false ∧ haveB done s.after = rdyB done s) := by
  unfold rdyB
  cases hasB done s.name <;> simp

theorem str_some {x : Str} (h : 1 ≤ x.size) : x.toList.isEmpty = false := by
  rw [List.isEmpty_eq_false_iff]
  intro e
  have e2 : x.data.toList = [] := by simpa [ByteArray.toList_eq] using e
  have e3 : x.size = 0 := by show x.data.size = 0; rw [← Array.length_toList, e2]; rfl
  omega

def nextS (ss : List Step) (done : List Str) : Str := match rdyL ss done with
  | [] => ⟨#[]⟩
  | x :: _ => x
theorem nextS_nil {ss : List Step} {done : List Str} (h : rdyL ss done = []) : nextS ss done = ⟨#[]⟩ := by unfold nextS; rw [h]
theorem nextS_cons {ss : List Step} {done : List Str} {x : Str} {r : List Str} (h : rdyL ss done = x :: r) : nextS ss done = x := by unfold nextS; rw [h]

set_option maxRecDepth 100000 in
theorem l2Next_any (A B : Option Addr) (n c m d : Nat) (ss : List Step) (done : List Str) (lo lo' : Nat) (w : World) (hr : RStep w lo A n ss) (hok : okSteps ss) (hd : RStr w lo' B m done) (hm : m ≤ 1048576) :
    Calls Try.prog 108 #[.slice A n c, .slice B m d] w fun e w' => e = .returned (.string (nextS ss done)) ∧ w = w' := by
  have hn : n ≤ 1048576 := by have := hok.1; rw [hr.1] at this; exact this
  have HO := Lib.hid hok; clear hok
  have HR := Lib.hid hr; clear hr
  have HD := Lib.hid hd; clear hd
  go_enter Try.func108, Try.ntmps108
  go_wp2_with fail
  go_loop [5] (fun i => ∃ k : Nat, k ≤ n ∧ i = .int .i64 k ∧ ∀ j, j < k → rdyB done (nth ss j) = false) (fun i => n - (intOf i).toNat)
  case atStart => exact ⟨0, Nat.zero_le _, rfl, fa_zero⟩
  case round =>
    obtain ⟨k, hk, rfl, hp⟩ := hrel
    have HP := Lib.hid hp; clear hp
    by_cases hlt : k < n
    · obtain ⟨b, off, rfl, _, hc⟩ := RStep.at_ HR.out hlt
      obtain ⟨A', n', c', ⟨c1, c2, _⟩, ha, _⟩ := hc k hlt
      have HL := Lib.hid (show k < ss.length by rw [HR.out.1]; exact hlt)
      have hn' : n' ≤ 1048576 := by have := (HO.out.2 k HL.out).2.1; rw [ha.1] at this; exact this
      have HA := Lib.hid ha; clear ha
      clear hc
      rcases rdyB_ways done (nth ss k) with ⟨h1, h2⟩ | ⟨h1, h2⟩
      · have h3 := idx_pos h1
        have H2 := Lib.hid h2; clear h2
        go_wp2_with (go_at_call 69; refine (l1At_any _ _ _ done _ _ _ HD.out hm).mono ?_; rintro e w' ⟨rfl, rfl⟩)
        go_round
        case rel => exact ⟨k + 1, by omega, by go_num, fa_succ HP.out H2.out⟩
        case measure => simp [intOf]; omega
      · have h3 := idx_neg h1
        have H2 := Lib.hid h2; clear h2
        cases h4 : haveB done (nth ss k).after
        · have H5 := Lib.hid (H2.out.symm.trans h4)
          go_wp2_with (first | (go_at_call 69; refine (l1At_any _ _ _ done _ _ _ HD.out hm).mono ?_; rintro e w' ⟨rfl, rfl⟩) | (go_at_call 85; refine (l1Have_any _ _ _ _ _ _ done _ _ _ _ HD.out hm HA.out hn').mono ?_; rintro e w' ⟨rfl, rfl⟩))
          go_round
          case rel => exact ⟨k + 1, by omega, by go_num, fa_succ HP.out H5.out⟩
          case measure => simp [intOf]; omega
        · have H5 := Lib.hid (rdyL_first HP.out HL.out (H2.out.symm.trans h4))
          go_wp2_with (first | (go_at_call 69; refine (l1At_any _ _ _ done _ _ _ HD.out hm).mono ?_; rintro e w' ⟨rfl, rfl⟩) | (go_at_call 85; refine (l1Have_any _ _ _ _ _ _ done _ _ _ _ HD.out hm HA.out hn').mono ?_; rintro e w' ⟨rfl, rfl⟩))
          go_ret
          obtain ⟨r, hr⟩ := H5.out
          exact ⟨ret_s (nextS_cons hr).symm, rfl⟩
    · go_wp2_with fail
      go_ret
      exact ⟨ret_s (nextS_nil (rdyL_none (fun j hj => HP.out j (by rw [HR.out.1] at hj; omega)))).symm, rfl⟩

set_option maxRecDepth 100000 in
theorem l2Order_any (A : Option Addr) (n c : Nat) (ss : List Step) (lo : Nat) (w : World) (hr : RStep w lo A n ss) (hok : okSteps ss) (hne : ∀ j, j < n → 1 ≤ (nth ss j).name.size) :
    Calls Try.prog 84 #[.slice A n c] w fun e w' => ∃ A' c', e = .returned (.slice A' (ordL ss).length c') ∧ RStr w' w.heap.size A' (ordL ss).length (ordL ss) ∧ Below w.heap.size w w' := by
  have hn : n ≤ 1048576 := by have := hok.1; rw [hr.1] at this; exact this
  have HO := Lib.hid hok; clear hok
  have HR := Lib.hid hr; clear hr
  have HNE := Lib.hid hne; clear hne
  go_enter Try.func84, Try.ntmps84
  go_wp2_with fail
  go_loopw [3, 4] (fun v i wr => ∃ k m : Nat, k ≤ n ∧ i = .int .i64 k ∧ m = (ordTo ss k).length ∧ Own 9 1 w wr v m ((ordTo ss k).map Value.string)) (fun _ i _ => n - (intOf i).toNat)
  case atStart => exact ⟨0, 0, Nat.zero_le _, rfl, rfl, ⟨World.ownsRow_made _ _ _ (Nat.le_refl _) (by unfold maxLen; omega) rfl, (Below.refl _ _).alloc (Nat.le_refl _) _⟩⟩
  case round =>
    obtain ⟨k, m, hk, rfl, hmk, how⟩ := hrel
    have HM := Lib.hid hmk; clear hmk
    have HW := Lib.hid how; clear how
    obtain ⟨A1, c1, rfl, hrs⟩ := own_str HW.out.row
    have HRS := Lib.hid hrs; clear hrs
    by_cases hlt : k < n
    · have hm1 : m ≤ k := by rw [HM.out]; exact ordTo_len ss k
      have hm2 : m ≤ 1048576 := by omega
      go_wp2_with fail
      refine (l2Next_any _ _ _ _ _ _ ss (ordTo ss k) _ _ _ (HR.out.below HW.out.below) HO.out HRS.out hm2).mono ?_
      rintro e w' ⟨rfl, rfl⟩
      cases hrd : rdyL ss (ordTo ss k) with
      | nil =>
        have HE := Lib.hid (nextS_nil hrd)
        have HT := Lib.hid (show ordTo ss (k + 1) = ordTo ss k from ordStep_nil hrd)
        clear hrd
        rw [HE.out]
        go_wp2_with fail
        go_roundw
        case rel => exact ⟨k + 1, m, by omega, by go_num, by rw [HT.out]; exact HM.out, by rw [HT.out]; exact HW.out⟩
        case measure => simp [intOf]; omega
      | cons x r =>
        have HE := Lib.hid (nextS_cons hrd)
        have HT := Lib.hid (show ordTo ss (k + 1) = ordTo ss k ++ [x] from ordStep_cons hrd)
        have hx : x.toList.isEmpty = false := by
          obtain ⟨s, hs, _, rfl⟩ := rdyL_mem.1 (show x ∈ rdyL ss (ordTo ss k) by rw [hrd]; simp)
          obtain ⟨j, hj, rfl⟩ := nth_of_mem hs
          have := HNE.out j (by rw [← HR.out.1]; exact hj)
          exact str_some this
        clear hrd
        rw [HE.out]
        go_wp2_with (at_builtin; refine app_str w _ m (ordTo ss k) _ x ?c0 rfl (.tmp 18) (.tmp 20) rfl rfl rfl ?c1 (by omega) ?_)
        case c0 => exact HW.out.alloc _
        case c1 => exact heap_new rfl
        intro v' w' how' hg'
        go_wp2_with fail
        go_roundw
        case rel => exact ⟨k + 1, m + 1, by omega, by go_num, by rw [HT.out, List.length_append, ← HM.out]; rfl, by rw [HT.out, List.map_append]; exact how'⟩
        case measure => simp [intOf]; omega
    · have hk2 : k = ss.length := by have := HR.out.1; omega
      go_wp2_with fail
      go_ret
      have e : ordTo ss k = ordL ss := by rw [hk2]; rfl
      have hl : m = (ordL ss).length := by rw [← e]; exact HM.out
      subst hl
      exact ⟨_, _, rfl, by have := HRS.out; rw [e] at this; exact this, HW.out.below⟩
end Go.Proofs.Ytfcbpgpmafmkhaa
