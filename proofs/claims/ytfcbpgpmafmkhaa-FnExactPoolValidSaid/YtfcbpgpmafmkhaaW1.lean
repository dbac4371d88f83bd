/- Names and lists of names: the leaves. -/
import Derived.Test.YtfcbpgpmafmkhaaRows
import Derived.Test.YtfcbpgpmafmkhaaBase
import Derived.BigQuiet
import Derived.Deep.QuietTactic
import Derived.Outline
namespace Go.Proofs.Ytfcbpgpmafmkhaa
open Go.RowKit

theorem l6In_any (n lo hi : Int) (w : World) :
    Calls Try.prog 83 #[.int .i64 n, .int .i64 lo, .int .i64 hi] w fun e w' => e = .returned (.bool (inB n lo hi)) ∧ w = w' := by
  by_cases h : lo ≤ n
  all_goals
    go_enter Try.func83, Try.ntmps83
    go_wp2
    go_ret
    exact ⟨by simp [inB, *] <;> omega, rfl⟩

theorem name_tail (s : Str) (k : Nat) (h : k < s.size) : s.data.toList.take (k + 1) = s.data.toList.take k ++ [s[k]] := by
  rw [List.take_succ_eq_append_getElem (by simpa using h)]; rfl
theorem name_bad (s : Str) (k : Nat) (h : k < s.size) (hb : lowB s[k] = false) : nameB s = false := by
  unfold nameB
  have : s.data.toList.all lowB = false := by
    rw [List.all_eq_false]
    exact ⟨s[k], by exact Array.mem_toList_iff.2 (Array.getElem_mem h), by simp [hb]⟩
  rw [this, Bool.and_false]
theorem name_good (s : Str) (k : Nat) (h : s.size ≤ k) (hb : (s.data.toList.take k).all lowB = true) : nameB s = inB s.size 1 5 := by
  unfold nameB inB
  rw [List.take_of_length_le (by simpa using h)] at hb
  rw [hb, Bool.and_true]

theorem nameS_any (s : Str) (w : World) (hs : s.size ≤ maxLen) : Calls Try.prog 64 #[.string s] w fun e w' => e = .returned (.bool (nameB s)) ∧ w = w' := by
  unfold maxLen at hs
  go_enter Try.func64, Try.ntmps64
  go_wp2
  go_loop [3] (fun i => ∃ k : Nat, k ≤ s.size ∧ i = .int .i64 k ∧ (s.data.toList.take k).all lowB = true) (fun i => s.size - (intOf i).toNat)
  case atStart => exact ⟨0, Nat.zero_le _, rfl, by simp⟩
  case round =>
    obtain ⟨k, hk, rfl, hp⟩ := hrel
    have HP := Lib.hid hp; clear hp
    by_cases hlt : k < s.size
    · have HT := Lib.hid (name_tail s k hlt)
      by_cases h1 : 97 ≤ (s[k].toNat : Int)
      · by_cases h2 : (s[k].toNat : Int) ≤ 122
        · go_wp2
          go_round
          case rel => exact ⟨k + 1, by omega, by go_num, by rw [HT.out, List.all_append, HP.out]; simp [lowB]; omega⟩
          case measure => simp [intOf]; omega
        · go_wp2
          go_ret
          exact ⟨ret_b (name_bad s k hlt (by simp [lowB]; omega)).symm, rfl⟩
      · go_wp2
        go_ret
        exact ⟨ret_b (name_bad s k hlt (by simp [lowB]; omega)).symm, rfl⟩
    · go_wp2_with (go_at_call 83; refine (l6In_any _ _ _ _).mono ?_; rintro e w' ⟨rfl, rfl⟩)
      go_ret
      exact ⟨ret_b (name_good s k (by omega) HP.out).symm, rfl⟩

theorem nameI_any (s : Str) (w : World) (hs : s.size ≤ maxLen) : Calls Try.prog 62 #[.string s] w fun e w' => e = .returned (.bool (nameB s)) ∧ w = w' := by
  unfold maxLen at hs
  by_cases hz : 1 ≤ (s.size : Int)
  · by_cases hz2 : (s.size : Int) ≤ 5
    · go_enter Try.func62, Try.ntmps62
      go_wp2
      go_loop [14] (fun i => ∃ k : Nat, k ≤ s.size ∧ i = .int .i64 k ∧ (s.data.toList.take k).all lowB = true) (fun i => s.size - (intOf i).toNat)
      case atStart => exact ⟨0, Nat.zero_le _, rfl, by simp⟩
      case round =>
        obtain ⟨k, hk, rfl, hp⟩ := hrel
        have HP := Lib.hid hp; clear hp
        by_cases hlt : k < s.size
        · have HT := Lib.hid (name_tail s k hlt)
          by_cases h1 : 97 ≤ (s[k].toNat : Int)
          · by_cases h2 : (s[k].toNat : Int) ≤ 122
            · go_wp2
              go_round
              case rel => exact ⟨k + 1, by omega, by go_num, by rw [HT.out, List.all_append, HP.out]; simp [lowB]; omega⟩
              case measure => simp [intOf]; omega
            · go_wp2
              go_ret
              exact ⟨ret_b (name_bad s k hlt (by simp [lowB]; omega)).symm, rfl⟩
          · go_wp2
            go_ret
            exact ⟨ret_b (name_bad s k hlt (by simp [lowB]; omega)).symm, rfl⟩
        · go_wp2
          go_ret
          exact ⟨ret_b (by rw [name_good s k (by omega) HP.out]; simp [inB]; omega), rfl⟩
    · go_enter Try.func62, Try.ntmps62
      go_wp2
      go_ret
      exact ⟨by simp [nameB]; omega, rfl⟩
  · go_enter Try.func62, Try.ntmps62
    go_wp2
    go_ret
    exact ⟨by simp [nameB]; omega, rfl⟩

/-! ### Index, Contains, l1At, l1Have, NamesHave -/
theorem index_any (A : Option Addr) (n c : Nat) (xs : List Str) (s : Str) (lo : Nat) (w : World) (hr : RStr w lo A n xs) (hn : n ≤ 1048576) :
    Calls Try.prog 114 #[.slice A n c, .string s] w fun e w' => e = .returned (.int .i64 (idxI xs s)) ∧ w = w' := by
  have HR := Lib.hid hr; clear hr
  go_enter Try.func114, Try.ntmps114
  go_wp2
  go_loop [8] (fun i => ∃ k : Nat, k ≤ n ∧ i = .int .i64 k ∧ ∀ j, j < k → nth xs j ≠ s) (fun i => n - (intOf i).toNat)
  case atStart => exact ⟨0, Nat.zero_le _, rfl, fa_zero⟩
  case round =>
    obtain ⟨k, hk, rfl, hp⟩ := hrel
    have HP := Lib.hid hp; clear hp
    by_cases hlt : k < n
    · obtain ⟨b, off, rfl, _, hc⟩ := HR.out.at_ hlt
      obtain ⟨c1, _⟩ := hc k hlt
      clear hc
      by_cases he : s = nth xs k
      · have HE := Lib.hid he; clear he
        have hq := seq_t HE.out
        go_wp2
        go_ret
        exact ⟨ret_i (idxI_at HP.out (HR.out.1 ▸ hlt) HE.out.symm).symm, rfl⟩
      · have HE := Lib.hid he; clear he
        have hq := seq_f HE.out
        go_wp2
        go_round
        case rel => exact ⟨k + 1, by omega, by go_num, fa_succ HP.out (Ne.symm HE.out)⟩
        case measure => simp [intOf]; omega
    · go_wp2
      go_ret
      exact ⟨ret_i (idxI_none (fun j hj => HP.out j (by have := HR.out.1; omega))).symm, rfl⟩

theorem l1At_any (A : Option Addr) (n c : Nat) (xs : List Str) (s : Str) (lo : Nat) (w : World) (hr : RStr w lo A n xs) (hn : n ≤ 1048576) :
    Calls Try.prog 69 #[.slice A n c, .string s] w fun e w' => e = .returned (.int .i64 (idxI xs s)) ∧ w = w' := by
  have HR := Lib.hid hr; clear hr
  go_enter Try.func69, Try.ntmps69
  go_wp2
  go_loop [5] (fun i => ∃ k : Nat, k ≤ n ∧ i = .int .i64 k ∧ ∀ j, j < k → nth xs j ≠ s) (fun i => n - (intOf i).toNat)
  case atStart => exact ⟨0, Nat.zero_le _, rfl, fa_zero⟩
  case round =>
    obtain ⟨k, hk, rfl, hp⟩ := hrel
    have HP := Lib.hid hp; clear hp
    by_cases hlt : k < n
    · obtain ⟨b, off, rfl, _, hc⟩ := HR.out.at_ hlt
      obtain ⟨c1, _⟩ := hc k hlt
      clear hc
      by_cases he : nth xs k = s
      · have HE := Lib.hid he; clear he
        have hq := seq_t HE.out
        go_wp2
        go_ret
        exact ⟨ret_i (idxI_at HP.out (HR.out.1 ▸ hlt) HE.out).symm, rfl⟩
      · have HE := Lib.hid he; clear he
        have hq := seq_f HE.out
        go_wp2
        go_round
        case rel => exact ⟨k + 1, by omega, by go_num, fa_succ HP.out HE.out⟩
        case measure => simp [intOf]; omega
    · go_wp2
      go_ret
      exact ⟨ret_i (idxI_none (fun j hj => HP.out j (by have := HR.out.1; omega))).symm, rfl⟩

theorem contains_any (A : Option Addr) (n c : Nat) (xs : List Str) (s : Str) (lo : Nat) (w : World) (hr : RStr w lo A n xs) (hn : n ≤ 1048576) :
    Calls Try.prog 97 #[.slice A n c, .string s] w fun e w' => e = .returned (.bool (hasB xs s)) ∧ w = w' := by
  have HR := Lib.hid hr; clear hr
  go_enter Try.func97, Try.ntmps97
  go_wp2_with (go_at_call 114; refine (index_any _ _ _ xs s lo _ HR.out hn).mono ?_; rintro e w' ⟨rfl, rfl⟩)
  go_ret
  exact ⟨ret_b (hasB_idx xs s), rfl⟩

theorem l1Have_any (A B : Option Addr) (n c m d : Nat) (xs ys : List Str) (lo lo' : Nat) (w : World) (hr : RStr w lo A n xs) (hn : n ≤ 1048576) (hr' : RStr w lo' B m ys) (hm : m ≤ 1048576) :
    Calls Try.prog 85 #[.slice A n c, .slice B m d] w fun e w' => e = .returned (.bool (haveB xs ys)) ∧ w = w' := by
  have HX := Lib.hid hr; clear hr
  have HR := Lib.hid hr'; clear hr'
  go_enter Try.func85, Try.ntmps85
  go_wp2
  go_loop [5] (fun i => ∃ k : Nat, k ≤ m ∧ i = .int .i64 k ∧ ∀ j, j < k → hasB xs (nth ys j) = true) (fun i => m - (intOf i).toNat)
  case atStart => exact ⟨0, Nat.zero_le _, rfl, fa_zero⟩
  case round =>
    obtain ⟨k, hk, rfl, hp⟩ := hrel
    have HP := Lib.hid hp; clear hp
    by_cases hlt : k < m
    · obtain ⟨b, off, rfl, _, hc⟩ := HR.out.at_ hlt
      obtain ⟨c1, _⟩ := hc k hlt
      clear hc
      by_cases he : hasB xs (nth ys k) = true
      · have HE := Lib.hid he; clear he
        have hq := idx_pos HE.out
        go_wp2_with (go_at_call 69; refine (l1At_any _ _ _ xs _ lo _ HX.out hn).mono ?_; rintro e w' ⟨rfl, rfl⟩)
        go_round
        case rel => exact ⟨k + 1, by omega, by go_num, fa_succ HP.out HE.out⟩
        case measure => simp [intOf]; omega
      · have HE := Lib.hid (bf he); clear he
        have hq := idx_neg HE.out
        go_wp2_with (go_at_call 69; refine (l1At_any _ _ _ xs _ lo _ HX.out hn).mono ?_; rintro e w' ⟨rfl, rfl⟩)
        go_ret
        exact ⟨ret_b (allN_false (j := k) (HR.out.1 ▸ hlt) HE.out).symm, rfl⟩
    · go_wp2_with fail
      go_ret
      exact ⟨ret_b (allN_true (fun j hj => HP.out j (by have := HR.out.1; omega))).symm, rfl⟩

theorem namesHave_any (A B : Option Addr) (n c m d : Nat) (xs ys : List Str) (lo lo' : Nat) (w : World) (hr : RStr w lo A n xs) (hn : n ≤ 1048576) (hr' : RStr w lo' B m ys) (hm : m ≤ 1048576) :
    Calls Try.prog 89 #[.slice A n c, .slice B m d] w fun e w' => e = .returned (.bool (haveB xs ys)) ∧ w = w' := by
  have HX := Lib.hid hr; clear hr
  have HR := Lib.hid hr'; clear hr'
  go_enter Try.func89, Try.ntmps89
  go_wp2
  go_loop [9] (fun i => ∃ k : Nat, k ≤ m ∧ i = .int .i64 k ∧ ∀ j, j < k → hasB xs (nth ys j) = true) (fun i => m - (intOf i).toNat)
  case atStart => exact ⟨0, Nat.zero_le _, rfl, fa_zero⟩
  case round =>
    obtain ⟨k, hk, rfl, hp⟩ := hrel
    have HP := Lib.hid hp; clear hp
    by_cases hlt : k < m
    · obtain ⟨b, off, rfl, _, hc⟩ := HR.out.at_ hlt
      obtain ⟨c1, _⟩ := hc k hlt
      clear hc
      by_cases he : hasB xs (nth ys k) = true
      · go_wp2_with (go_at_call 97; refine (contains_any _ _ _ xs _ lo _ HX.out hn).mono ?_; rintro e w' ⟨rfl, rfl⟩)
        go_round
        case rel => exact ⟨k + 1, by omega, by go_num, fa_succ HP.out he⟩
        case measure => simp [intOf]; omega
      · have he := (bf he)
        go_wp2_with (go_at_call 97; refine (contains_any _ _ _ xs _ lo _ HX.out hn).mono ?_; rintro e w' ⟨rfl, rfl⟩)
        go_ret
        exact ⟨ret_b (allN_false (j := k) (HR.out.1 ▸ hlt) he).symm, rfl⟩
    · go_wp2_with fail
      go_ret
      exact ⟨ret_b (allN_true (fun j hj => HP.out j (by have := HR.out.1; omega))).symm, rfl⟩

/-! ### Equal lists -/
theorem sameTexts_any (A B : Option Addr) (n c m d : Nat) (xs ys : List Str) (lo lo' : Nat) (w : World) (hr : RStr w lo A n xs) (hn : n ≤ 1048576) (hr' : RStr w lo' B m ys) (hm : m ≤ 1048576) :
    Calls Try.prog 41 #[.slice A n c, .slice B m d] w fun e w' => e = .returned (.bool (eqB xs ys)) ∧ ∃ k, w' = w.drewN k := by
  have HX := Lib.hid hr; clear hr
  have HY := Lib.hid hr'; clear hr'
  by_cases hl : n = m
  · subst hl
    go_enter Try.func41, Try.ntmps41
    go_wp2
    go_loopw [5] (fun i wr => ∃ k q : Nat, k ≤ n ∧ i = .int .i64 k ∧ wr = w.drewN q ∧ ∀ j, j < k → nth xs j = nth ys j) (fun i _ => n - (intOf i).toNat)
    case atStart => exact ⟨0, 0, Nat.zero_le _, rfl, rfl, fa_zero⟩
    case round =>
      obtain ⟨k, q, hk, rfl, rfl, hp⟩ := hrel
      have HP := Lib.hid hp; clear hp
      by_cases hlt : k < n
      · obtain ⟨b, off, rfl, _, hc⟩ := HX.out.at_ hlt
        obtain ⟨c1, _⟩ := hc k hlt
        clear hc
        obtain ⟨b', off', rfl, _, hc⟩ := HY.out.at_ hlt
        obtain ⟨c2, _⟩ := hc k hlt
        clear hc
        by_cases he : nth xs k = nth ys k
        · have HE := Lib.hid he; clear he
          have hq := seq_t HE.out
          go_wp2_with fail
          go_quiet (fail)
          go_wp2_with fail
          go_roundw
          case rel => exact ⟨k + 1, _, by omega, by go_num, rfl, fa_succ HP.out HE.out⟩
          case measure => simp [intOf]; omega
        · have HE := Lib.hid he; clear he
          have hq := seq_f HE.out
          go_wp2_with fail
          go_quiet (fail)
          go_wp2_with fail
          go_ret
          exact ⟨ret_b (eqB_at HE.out).symm, _, World.drewN_drewN _ _ _⟩
      · go_wp2_with fail
        go_ret
        exact ⟨ret_b (eqB_all (HX.out.1.trans HY.out.1.symm) (fun j hj => HP.out j (by have := HX.out.1; omega))).symm, _, rfl⟩
  · have hq : ((n : Int) == (m : Int)) = false := beq_eq_false_iff_ne.2 (by omega)
    go_enter Try.func41, Try.ntmps41
    go_wp2
    go_ret
    exact ⟨ret_b (eqB_len (by rw [HX.out.1, HY.out.1]; exact hl)).symm, 0, rfl⟩
end Go.Proofs.Ytfcbpgpmafmkhaa
