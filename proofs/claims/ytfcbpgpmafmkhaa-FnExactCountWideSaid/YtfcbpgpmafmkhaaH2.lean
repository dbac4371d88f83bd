/- Depth and width: both. -/
import Derived.Test.YtfcbpgpmafmkhaaH1
namespace Go.Proofs.Ytfcbpgpmafmkhaa
open Go.RowKit

def depthF (f : Flow) : Int := if flowB f = true then (depthL f.steps : Nat) else -1
def wideF (f : Flow) : Int := if flowB f = true then (wideL f.steps : Nat) else -1

set_option maxRecDepth 100000 in
theorem countDepthI_any (A : Option Addr) (n c : Nat) (f : Flow) (lo : Nat) (w : World) (hr : RStep w lo A n f.steps) (hok : okSteps f.steps) :
    Calls Try.prog 21 #[.agg #[.int .i64 f.ver, .slice A n c]] w fun e w' => e = .returned (.int .i64 (depthF f)) ∧ Below w.heap.size w w' := by
  have HO := Lib.hid hok; clear hok
  have HR := Lib.hid hr; clear hr
  cases h : flowB f
  · have HE := Lib.hid (show depthF f = -1 by unfold depthF; rw [if_neg (by rw [h]; simp)])
    go_enter Try.func21, Try.ntmps21
    go_wp2_with fail
    refine (flowI_any _ _ _ f _ _ (HR.out.alloc _) HO.out).mono ?_
    rintro e w1 ⟨rfl, hb⟩
    rw [h]
    clear h
    go_wp2_with fail
    go_ret
    exact ⟨ret_i HE.out.symm, ((Below.refl _ _).alloc (Nat.le_refl _) _).trans (hb.mono (by simp))⟩
  · have HE := Lib.hid (show depthF f = (depthL f.steps : Nat) by unfold depthF; rw [if_pos h])
    have HF := Lib.hid h
    have HC := Lib.hid ((flowB_iff.1 h).2.2.2)
    go_enter Try.func21, Try.ntmps21
    go_wp2_with fail
    refine (flowI_any _ _ _ f _ _ (HR.out.alloc _) HO.out).mono ?_
    rintro e w1 ⟨rfl, hb⟩
    rw [h]
    clear h
    have HB := Lib.hid (((Below.refl w.heap.size w).alloc (Nat.le_refl _) (.cells #[.int .i64 f.ver, .slice A n c] 29)).trans (hb.mono (by simp)))
    have HX := Lib.hid (show w1.heap[w.heap.size]? = some (.cells #[.int .i64 f.ver, .slice A n c] 29 (0, 0)) from (hb.block _ (by simp)).trans (heap_new rfl))
    clear hb
    have b1 := (blk_cl (k := 0) HX.out rfl).1
    have b2 := (blk_cl (k := 1) HX.out rfl).1
    go_wp2_with fail
    refine (levels_any _ _ _ f _ _ (HR.out.below HB.out) HO.out HF.out).mono ?_
    rintro e w2 ⟨A2, d, c2, rfl, hlv, hrl, hb2⟩
    have HD := Lib.hid (depthL_at HC.out hlv)
    clear hlv hrl b1 b2
    have HB2 := Lib.hid hb2; clear hb2
    go_wp2_with fail
    go_ret
    exact ⟨ret_i (by rw [HE.out, HD.out]), HB.out.trans (HB2.out.mono HB.out.size)⟩

/-- The largest of the first k. -/
def mx (xs : List Nat) : Nat → Nat
  | 0 => 0
  | k + 1 => max (mx xs k) (nth xs k)
theorem mx_wide {ss : List Step} {d : Nat} : ∀ k, k ≤ d → mx (lvLens ss d) k = wideTo ss k
  | 0, _ => rfl
  | k + 1, h => by
    show max (mx (lvLens ss d) k) (nth (lvLens ss d) k) = max (wideTo ss k) (lvLen ss k)
    rw [mx_wide k (by omega), lvLens_at (by omega)]
theorem mx_le {xs : List Nat} {m : Nat} : ∀ k, (∀ j, j < k → nth xs j ≤ m) → mx xs k ≤ m
  | 0, _ => Nat.zero_le _
  | k + 1, h => by
    show max (mx xs k) (nth xs k) ≤ m
    have h1 := mx_le k (fun j hj => h j (by omega))
    have h2 := h k (by omega)
    omega

theorem cmpLen_any (A B : Option Addr) (n c m d : Nat) (w : World) (hn : n ≤ 1048576) (hm : m ≤ 1048576) :
    Calls Try.prog 59 #[.slice A n c, .slice B m d] w fun e w' => e = .returned (.int .i64 ((n : Int) - (m : Int))) ∧ w = w' := by
  have hw : IntKind.i64.wrap ((n : Int) - (m : Int)) = (n : Int) - (m : Int) := IntWalk.i64_in _ (by omega)
  go_enter Try.func59, Try.ntmps59
  go_wp2_with fail
  go_ret
  first | exact ⟨rfl, rfl⟩ | exact ⟨ret_i hw, rfl⟩ | (simp [*]; done)

set_option maxRecDepth 100000 in
theorem maxFunc_any (A : Option Addr) (n c : Nat) (xs : List Nat) (lo : Nat) (w : World) (hr : RLen w lo A n xs) (hn1 : 1 ≤ n) (hn : n ≤ 1048576) (hb : ∀ j, j < n → nth xs j ≤ 1048576) :
    Calls Try.prog 58 #[.slice A n c, .func (.func 59) #[] #[]] w fun e w' => ∃ A' c', e = .returned (.slice A' (mx xs n) c') ∧ w = w' := by
  have HB := Lib.hid hb; clear hb
  obtain ⟨b, off, rfl, _, hc⟩ := RLen.at_ hr (show 0 < n by omega)
  have HC := Lib.hid hc; clear hc hr
  obtain ⟨A0, c0, e0⟩ := HC.out 0 (by omega)
  rw [Nat.add_zero] at e0
  go_enter Try.func58, Try.ntmps58
  go_wp2_with fail
  clear e0
  go_loop [5, 6] (fun v i => ∃ (k : Nat) (A' : Option Addr) (c' : Nat), 1 ≤ k ∧ k ≤ n ∧ i = .int .i64 k ∧ v = .slice A' (mx xs k) c') (fun _ i => n - (intOf i).toNat)
  case atStart => exact ⟨1, A0, c0, Nat.le_refl _, hn1, rfl, by show _ = Value.slice A0 (max 0 (nth xs 0)) c0; rw [Nat.zero_max]⟩
  case round =>
    obtain ⟨k, A', c', hk1, hk, rfl, rfl⟩ := hrel
    by_cases hlt : k < n
    · obtain ⟨A1, c1, e1⟩ := HC.out k hlt
      have hx := HB.out k hlt
      have hm := mx_le (xs := xs) (m := 1048576) k (fun j hj => HB.out j (by omega))
      have HM := Lib.hid (show mx xs (k + 1) = max (mx xs k) (nth xs k) from rfl)
      generalize nth xs k = x at *
      generalize mx xs k = y at *
      by_cases hgt : y < x
      · go_wp2_with (go_at_call 59; refine (cmpLen_any _ _ _ _ _ _ _ hx hm).mono ?_; rintro e w' ⟨rfl, rfl⟩)
        go_round
        case rel => exact ⟨k + 1, A1, c1, by omega, by omega, by go_num, by rw [HM.out, Nat.max_eq_right (by omega)]⟩
        case measure => simp [intOf]; omega
      · go_wp2_with (go_at_call 59; refine (cmpLen_any _ _ _ _ _ _ _ hx hm).mono ?_; rintro e w' ⟨rfl, rfl⟩)
        go_round
        case rel => exact ⟨k + 1, A', c', by omega, by omega, by go_num, by rw [HM.out, Nat.max_eq_left (by omega)]⟩
        case measure => simp [intOf]; omega
    · obtain rfl : k = n := by omega
      go_wp2_with fail
      go_ret
      first | exact ⟨⟨_, _, rfl⟩, rfl⟩ | exact ⟨_, _, rfl, rfl⟩

set_option maxRecDepth 100000 in
theorem countWideI_any (A : Option Addr) (n c : Nat) (f : Flow) (lo : Nat) (w : World) (hr : RStep w lo A n f.steps) (hok : okSteps f.steps) :
    Calls Try.prog 23 #[.agg #[.int .i64 f.ver, .slice A n c]] w fun e w' => e = .returned (.int .i64 (wideF f)) ∧ Below w.heap.size w w' := by
  have HO := Lib.hid hok; clear hok
  have HR := Lib.hid hr; clear hr
  cases h : flowB f
  · have HE := Lib.hid (show wideF f = -1 by unfold wideF; rw [if_neg (by rw [h]; simp)])
    go_enter Try.func23, Try.ntmps23
    go_wp2_with fail
    refine (flowI_any _ _ _ f _ _ (HR.out.alloc _) HO.out).mono ?_
    rintro e w1 ⟨rfl, hb⟩
    rw [h]
    clear h
    go_wp2_with fail
    go_ret
    exact ⟨ret_i HE.out.symm, ((Below.refl _ _).alloc (Nat.le_refl _) _).trans (hb.mono (by simp))⟩
  · have HE := Lib.hid (show wideF f = (wideL f.steps : Nat) by unfold wideF; rw [if_pos h])
    have HF := Lib.hid h
    have HC := Lib.hid ((flowB_iff.1 h).2.2.2)
    have HN := Lib.hid (flow_nodup h)
    have h1n : 1 ≤ n := by have := (flowB_iff.1 h).2.2.1.1; rw [HR.out.1] at this; exact this
    have hn8 : n ≤ 8 := by have := (flowB_iff.1 h).2.2.1.2; rw [HR.out.1] at this; exact this
    have HLn := Lib.hid (show f.steps.length = n from HR.out.1)
    go_enter Try.func23, Try.ntmps23
    go_wp2_with fail
    refine (flowI_any _ _ _ f _ _ (HR.out.alloc _) HO.out).mono ?_
    rintro e w1 ⟨rfl, hb⟩
    rw [h]
    clear h
    have HB := Lib.hid (((Below.refl w.heap.size w).alloc (Nat.le_refl _) (.cells #[.int .i64 f.ver, .slice A n c] 29)).trans (hb.mono (by simp)))
    have HX := Lib.hid (show w1.heap[w.heap.size]? = some (.cells #[.int .i64 f.ver, .slice A n c] 29 (0, 0)) from (hb.block _ (by simp)).trans (heap_new rfl))
    clear hb
    have b1 := (blk_cl (k := 0) HX.out rfl).1
    have b2 := (blk_cl (k := 1) HX.out rfl).1
    go_wp2_with fail
    refine (levels_any _ _ _ f _ _ (HR.out.below HB.out) HO.out HF.out).mono ?_
    rintro e w2 ⟨A2, d, c2, rfl, hlv, hrl, hb2⟩
    have HLV := Lib.hid hlv
    have HD := Lib.hid (depthL_at HC.out hlv)
    have hl := lv_laws HN.out HC.out (by rw [HLn.out]; exact h1n) hlv
    have hd1 := hl.1
    have hd2 : d ≤ n := by rw [← HLn.out]; exact hl.2.1
    have HW := Lib.hid (show mx (lvLens f.steps d) d = wideTo f.steps d from mx_wide d (Nat.le_refl _))
    have HBD := Lib.hid (show ∀ j, j < d → nth (lvLens f.steps d) j ≤ 1048576 from fun j hj => by
      rw [lvLens_at hj]
      have := rdyL_len f.steps (lvDone f.steps j)
      have h3 : lvLen f.steps j = (rdyL f.steps (lvDone f.steps j)).length := rfl
      have h4 := HLn.out
      omega)
    have HRL := Lib.hid hrl
    clear hlv hrl b1 b2 hl
    have HB2 := Lib.hid hb2; clear hb2
    go_wp2_with fail
    refine (maxFunc_any _ _ _ _ _ _ HRL.out hd1 (by omega) HBD.out).mono ?_
    rintro e w3 ⟨A3, c3, rfl, rfl⟩
    go_wp2_with fail
    go_ret
    exact ⟨ret_i (by rw [HE.out, HW.out]; unfold wideL; rw [HD.out]), HB.out.trans (HB2.out.mono HB.out.size)⟩
end Go.Proofs.Ytfcbpgpmafmkhaa
