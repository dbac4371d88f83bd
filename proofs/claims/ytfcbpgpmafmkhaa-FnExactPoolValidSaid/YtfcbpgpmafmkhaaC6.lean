/- Pools: comparing lists of cases. -/
import Derived.Test.YtfcbpgpmafmkhaaC4
namespace Go.Proofs.Ytfcbpgpmafmkhaa
open Go.RowKit

set_option maxRecDepth 100000 in
theorem eqCaseS_same (A B : Option Addr) (n c d : Nat) (xs : List Case) (lo lo' : Nat) (w : World) (hr : RCase w lo A n xs) (hok : okCases xs) (hr' : RCase w lo' B n xs) :
    Calls Try.prog 38 #[.slice A n c, .slice B n d] w fun e w' => e = .returned (.bool true) ∧ Below w.heap.size w w' := by
  have hn : n ≤ 1048576 := by have := hok.1; rw [hr.1] at this; exact this
  have HO := Lib.hid hok; clear hok
  have HX := Lib.hid hr; clear hr
  have HY := Lib.hid hr'; clear hr'
  go_enter Try.func38, Try.ntmps38
  go_wp2_with fail
  go_loopw [5] (fun i wr => ∃ k : Nat, k ≤ n ∧ i = .int .i64 k ∧ Below w.heap.size w wr) (fun i _ => n - (intOf i).toNat)
  case atStart => exact ⟨0, Nat.zero_le _, rfl, Below.refl _ _⟩
  case round =>
    obtain ⟨k, hk, rfl, hb⟩ := hrel
    have HB := Lib.hid hb; clear hb
    by_cases hlt : k < n
    · obtain ⟨b, off, rfl, ⟨_, hb2⟩, hc⟩ := RCase.at_ (HX.out.below HB.out) hlt
      obtain ⟨A1, n1, k1, ⟨c1, c2, c3⟩, hra, _⟩ := hc k hlt
      clear hc
      obtain ⟨b', off', rfl, ⟨_, hb4⟩, hc⟩ := RCase.at_ (HY.out.below HB.out) hlt
      obtain ⟨A2, n2, k2, ⟨d1, d2, d3⟩, hrb, _⟩ := hc k hlt
      clear hc
      have e12 : n2 = n1 := by rw [← hra.1, ← hrb.1]
      subst e12
      have hn1 : n2 ≤ 1048576 := by
        have h1 := (HO.out.2 k (by rw [HX.out.1]; exact hlt)).2
        have h2 := hra.1
        omega
      have HEQ := Lib.hid (fun w' (hb : Below wr.heap.size wr w') => eqCase_same _ _ _ k1 k2 (nth xs k) _ _ w' (hra.below hb) hn1 (hrb.below hb))
      clear hra hrb
      go_wp2_with fail
      go_region_held3 (fun w' => (w'.cell? ⟨b, off + k * 3, none⟩ = some (.string (nth xs k).name) ∧ w'.cell? ⟨b, off + k * 3 + 1, none⟩ = some (.int .i64 (nth xs k).st) ∧ w'.cell? ⟨b, off + k * 3 + 2, none⟩ = some (.slice A1 n2 k1)) ∧
          w'.cell? ⟨b', off' + k * 3, none⟩ = some (.string (nth xs k).name) ∧ w'.cell? ⟨b', off' + k * 3 + 1, none⟩ = some (.int .i64 (nth xs k).st) ∧ w'.cell? ⟨b', off' + k * 3 + 2, none⟩ = some (.slice A2 n2 k2))
        (first | exact ⟨⟨(hbw.cell (p := ⟨b, _, none⟩) hb2).trans c1, (hbw.cell (p := ⟨b, _, none⟩) hb2).trans c2, (hbw.cell (p := ⟨b, _, none⟩) hb2).trans c3⟩, (hbw.cell (p := ⟨b', _, none⟩) hb4).trans d1, (hbw.cell (p := ⟨b', _, none⟩) hb4).trans d2, (hbw.cell (p := ⟨b', _, none⟩) hb4).trans d3⟩ | exact ⟨⟨c1, c2, c3⟩, d1, d2, d3⟩ | go_keep | fail "keep")
        (first | (go_at_call 74; refine (HEQ.out _ (Below.refl _ _).drew).mono ?_; rintro e w1 ⟨rfl, hbw⟩) | fail "no arm")
      go_wp2_with fail
      go_roundw
      case rel => exact ⟨k + 1, by omega, by go_num, HB.out.drew.trans (hbw.mono HB.out.size)⟩
      case measure => simp [intOf]; omega
    · go_wp2_with fail
      go_ret
      exact ⟨rfl, HB.out⟩
end Go.Proofs.Ytfcbpgpmafmkhaa
