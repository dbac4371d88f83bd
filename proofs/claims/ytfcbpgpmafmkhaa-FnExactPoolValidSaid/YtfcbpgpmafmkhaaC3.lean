/- Pools: sizes of cases. -/
import Derived.Test.YtfcbpgpmafmkhaaC1
import Derived.Test.YtfcbpgpmafmkhaaE4
namespace Go.Proofs.Ytfcbpgpmafmkhaa
open Go.RowKit

def caseSz (s : Case) : Prop := s.name.size ≤ maxLen ∧ s.done.length ≤ maxLen ∧ ∀ j, j < s.done.length → (nth s.done j).size ≤ maxLen
def okCase (s : Case) : Prop := s.name.size ≤ maxLen ∧ s.done.length ≤ 1048576

set_option maxRecDepth 100000 in
theorem szRun_any (A : Option Addr) (n c : Nat) (st : Int) (xs : List Str) (lo : Nat) (left : Int) (w : World) (hr : RStr w lo A n xs) (hn : n ≤ maxLen) (hs : ∀ j, j < n → (nth xs j).size ≤ maxLen) (h0 : 0 ≤ left) (h1 : left ≤ 1048576) :
    Calls Try.prog 103 #[.agg #[.int .i64 st, .slice A n c], .int .i64 left] w (SzQ left (n ≤ 1048576) w) := by
  have HR := Lib.hid hr; clear hr
  have HS := Lib.hid hs; clear hs
  have HN := Lib.hid hn; clear hn
  go_enter Try.func103, Try.ntmps103
  go_wp2_with fail
  refine (szStringS_any _ _ _ xs _ _ _ (HR.out.alloc _) HN.out HS.out (by omega) (by omega)).mono ?_
  rintro e w1 ⟨r, rfl, hr0, hr1, hb⟩
  have HB := Lib.hid (((Below.refl w.heap.size w).alloc (Nat.le_refl _) (.cells #[.int .i64 st, .slice A n c] 86)).trans (hb.mono (by simp)))
  clear hb
  have HR1 := Lib.hid hr1; clear hr1
  by_cases hneg : r < 0
  · go_wp2_with fail
    go_ret
    exact ⟨_, rfl, by omega, fun h => absurd h (by omega), HB.out⟩
  · go_wp2_with fail
    go_ret
    exact ⟨_, rfl, by omega, fun hp => ⟨by have := (HR1.out hp).1; omega, (HR1.out hp).2.1⟩, HB.out⟩

set_option maxRecDepth 100000 in
theorem szCase_any (A : Option Addr) (n c : Nat) (s : Case) (lo : Nat) (left : Int) (w : World) (hr : RStr w lo A n s.done) (hz : caseSz s) (h0 : 0 ≤ left) (h1 : left ≤ 1048576) :
    Calls Try.prog 72 #[.agg #[.string s.name, .int .i64 s.st, .slice A n c], .int .i64 left] w (SzQ left (okCase s) w) := by
  have HR := Lib.hid hr; clear hr
  have HZ := Lib.hid hz
  have hz1 := hz.1
  clear hz
  unfold maxLen at hz1
  have HN := Lib.hid (show n ≤ maxLen by rw [← HR.out.1]; exact HZ.out.2.1)
  have HS := Lib.hid (show ∀ j, j < n → (nth s.done j).size ≤ maxLen from fun j hj => HZ.out.2.2 j (by rw [HR.out.1]; exact hj))
  by_cases h : (s.name.size : Int) ≤ left
  · go_enter Try.func72, Try.ntmps72
    go_wp2_with fail
    refine (szRun_any _ _ _ s.st s.done _ _ _ (HR.out.alloc _) HN.out HS.out (by omega) (by omega)).mono ?_
    rintro e w1 ⟨r, rfl, hr0, hr1, hb⟩
    have HB := Lib.hid (((Below.refl w.heap.size w).alloc (Nat.le_refl _) (.cells #[.string s.name, .int .i64 s.st, .slice A n c] 88)).trans (hb.mono (by simp)))
    clear hb
    have HR1 := Lib.hid hr1; clear hr1
    by_cases hneg : r < 0
    · go_wp2_with fail
      go_ret
      exact ⟨_, rfl, by omega, fun h => absurd h (by omega), HB.out⟩
    · go_wp2_with fail
      go_ret
      exact ⟨_, rfl, by omega, fun hp => ⟨by have := (HR1.out hp).1; omega, HZ.out.1, by rw [HR.out.1]; exact (HR1.out hp).2⟩, HB.out⟩
  · go_enter Try.func72, Try.ntmps72
    go_wp2_with fail
    go_ret
    exact ⟨_, rfl, by omega, fun hp => absurd hp (by omega), (Below.refl _ _).alloc (Nat.le_refl _) _⟩

set_option maxRecDepth 100000 in
theorem szCaseS_any (A : Option Addr) (n c : Nat) (cs : List Case) (lo : Nat) (left : Int) (w : World) (hr : RCase w lo A n cs) (hn : n ≤ maxLen) (hs : ∀ j, j < n → caseSz (nth cs j)) (h0 : 0 ≤ left) (h1 : left ≤ 1048576) :
    Calls Try.prog 36 #[.slice A n c, .int .i64 left] w (SzQ left (okCases cs) w) := by
  have HR := Lib.hid hr; clear hr
  have HS := Lib.hid hs; clear hs
  unfold maxLen at hn
  by_cases hbig : left < (n : Int)
  · go_enter Try.func36, Try.ntmps36
    go_wp2_with fail
    go_ret
    exact ⟨_, rfl, by omega, fun h => absurd h (by omega), Below.refl _ _⟩
  go_enter Try.func36, Try.ntmps36
  go_wp2_with fail
  go_loopw [1, 5] (fun q i wr => ∃ j : Nat, ∃ r : Int, j ≤ n ∧ i = .int .i64 (j : Int) ∧ q = .int .i64 r ∧ 0 ≤ r ∧ r ≤ left ∧ (∀ l, l < j → okCase (nth cs l)) ∧ Below w.heap.size w wr) (fun _ i _ => n - (intOf i).toNat)
  case atStart => exact ⟨0, _, Nat.zero_le _, rfl, rfl, by omega, by omega, fa_zero, Below.refl _ _⟩
  case round =>
    obtain ⟨j, r, hj, rfl, rfl, hr0, hr1, hp, hb⟩ := hrel
    have HP := Lib.hid hp; clear hp
    have HB := Lib.hid hb; clear hb
    by_cases hlt : j < n
    · obtain ⟨b, off, rfl, ⟨hb1, hb2⟩, hc⟩ := RCase.at_ (HR.out.below HB.out) hlt
      obtain ⟨A', n', c', ⟨c1, c2, c3⟩, hra, _⟩ := hc j hlt
      clear hc
      have HRA := Lib.hid hra; clear hra
      have HSZ := Lib.hid (HS.out j hlt)
      go_wp2_with fail
      refine (szCase_any _ _ _ (nth cs j) _ r _ HRA.out HSZ.out hr0 (by omega)).mono ?_
      rintro e w1 ⟨r1, rfl, hr2, hr3, hbw⟩
      have HBW := Lib.hid hbw; clear hbw
      have HR3 := Lib.hid hr3; clear hr3
      by_cases hneg : r1 < 0
      · go_wp2_with fail
        go_ret
        exact ⟨_, rfl, by omega, fun h => absurd h (by omega), HB.out.trans (HBW.out.mono HB.out.size)⟩
      · have hle := (HR3.out (by omega)).1
        go_wp2_with fail
        go_roundw
        case rel => exact ⟨j + 1, _, by omega, by go_num, rfl, by omega, by omega, fa_succ HP.out (HR3.out (by omega)).2, HB.out.trans (HBW.out.mono HB.out.size)⟩
        case measure => simp [intOf]; omega
    · go_wp2_with fail
      go_ret
      exact ⟨_, rfl, by omega, fun _ => ⟨hr1, by rw [HR.out.1]; omega, fun l hl => HP.out l (by rw [HR.out.1] at hl; omega)⟩, HB.out⟩
end Go.Proofs.Ytfcbpgpmafmkhaa
