/- What of a flow is ready: both. -/
import Derived.Test.YtfcbpgpmafmkhaaF5
namespace Go.Proofs.Ytfcbpgpmafmkhaa
open Go.RowKit

def readyF (f : Flow) (done : List Str) : List Str := if flowB f then rdyL f.steps done else []
theorem readyF_yes {f : Flow} {done : List Str} (h : flowB f = true) : readyF f done = rdyL f.steps done := by unfold readyF; rw [h]; rfl
theorem readyF_no {f : Flow} {done : List Str} (h : flowB f = false) : readyF f done = [] := by unfold readyF; rw [h]; rfl

set_option maxRecDepth 100000 in
set_option maxHeartbeats 1000000 in
theorem flowReadyS_any (A B : Option Addr) (n c m d : Nat) (f : Flow) (done : List Str) (lo lo' : Nat) (w : World) (hr : RStep w lo A n f.steps) (hok : okSteps f.steps) (hd : RStr w lo' B m done) (hm : m ≤ 1048576) :
    Calls Try.prog 56 #[.agg #[.int .i64 f.ver, .slice A n c], .slice B m d] w fun e w' => ∃ A' n' c', e = .returned (.slice A' n' c') ∧ RStr w' w.heap.size A' n' (readyF f done) ∧ Below w.heap.size w w' := by
  have hn : n ≤ 1048576 := by have := hok.1; rw [hr.1] at this; exact this
  have HO := Lib.hid hok; clear hok
  have HR := Lib.hid hr; clear hr
  have HD := Lib.hid hd; clear hd
  have HL := Lib.hid (show f.steps.length = n from HR.out.1)
  have HFB := Lib.hid (show ∀ k, flowB f = false → k < n → True from fun _ _ _ => trivial)
  go_enter Try.func56, Try.ntmps56
  go_wp2_with fail
  go_loopw [5, 6] (fun v i wr => ∃ k q : Nat, k ≤ n ∧ i = .int .i64 k ∧ q ≤ k ∧ (flowB f = false → k = 0) ∧ wr.heap[w.heap.size]? = some (.cells #[.int .i64 f.ver, .slice A n c] 29 (0, 0)) ∧ Own 9 1 w wr v q ((rdyTo f.steps done k).map Value.string)) (fun _ i _ => n - (intOf i).toNat)
  case atStart =>
    have hb := (Below.refl w.heap.size w).alloc (Nat.le_refl _) (.cells #[.int .i64 f.ver, .slice A n c] 29)
    exact ⟨0, 0, Nat.zero_le _, rfl, Nat.le_refl _, fun _ => rfl, heap_old (heap_new rfl), by rw [show rdyTo f.steps done 0 = [] from rfl]; have hm0 := World.ownsRow_made (base := w.heap.size) (e := 9) (size := 1) (w.alloc (.cells #[.int .i64 f.ver, .slice A n c] 29)) #[] 0 hb.size (Nat.zero_le _) rfl; rw [show (w.alloc (.cells #[.int .i64 f.ver, .slice A n c] 29)).heap.size = w.heap.size + 1 by simp] at hm0; exact ⟨hm0, hb.alloc hb.size _⟩⟩
  case round =>
    obtain ⟨k, q, hk, rfl, hq, hz, hx, how⟩ := hrel
    have HX := Lib.hid hx; clear hx
    have HZ := Lib.hid hz; clear hz
    have HW := Lib.hid how; clear how
    have b1 := (blk_cl (k := 0) HX.out rfl).1
    have b2 := (blk_cl (k := 1) HX.out rfl).1
    by_cases hlt : k < n
    · go_wp2_with fail
      refine (flowS_any _ _ _ f _ _ (HR.out.below HW.out.below) HO.out).mono ?_
      rintro e w1 ⟨rfl, hb⟩
      have HB := Lib.hid hb; clear hb
      have HX1 := Lib.hid ((HB.out.block _ (heap_lt HX.out)).trans HX.out)
      have HW1 := Lib.hid (HW.out.below_ HB.out)
      have x1 := (blk_cl (k := 0) HX1.out rfl).1
      have x2 := (blk_cl (k := 1) HX1.out rfl).1
      cases h : flowB f
      · have h0 : k = 0 := HZ.out h
        have HE := Lib.hid (readyF_no (done := done) h)
        have HT : Hid (rdyTo f.steps done k = []) := by rw [h0]; rfl
        clear h h0
        go_wp2_with fail
        go_ret
        obtain ⟨A', c', rfl, hrs⟩ := own_str HW1.out.row
        rw [HT.out] at hrs
        exact ⟨_, _, _, rfl, by rw [HE.out]; exact hrs, HW1.out.below⟩
      · have HF := Lib.hid h; clear h
        obtain ⟨b, off, rfl, ⟨_, hbr⟩, hc⟩ := RStep.at_ (HR.out.below HW1.out.below) hlt
        obtain ⟨A', n', c', ⟨c1, c2, c3⟩, ha, _⟩ := hc k hlt
        clear hc
        have HL1 := Lib.hid (show k < f.steps.length by rw [HL.out]; exact hlt)
        have hn' : n' ≤ 1048576 := by have := (HO.out.2 k HL1.out).2.1; rw [ha.1] at this; exact this
        have HA := Lib.hid ha; clear ha
        have HD1 := Lib.hid (HD.out.below HW1.out.below)
        clear b1 b2
        rcases rdyB_ways done (nth f.steps k) with ⟨h1, h2⟩ | ⟨h1, h2⟩
        · have h3 := idx_pos h1
          have HT := Lib.hid (rdyTo_no HL1.out h2); clear h1 h2
          go_wp2_with (go_at_call 69; refine (l1At_any _ _ _ done _ _ _ HD1.out hm).mono ?_; rintro e w' ⟨rfl, rfl⟩)
          go_roundw
          case rel => exact ⟨k + 1, q, by omega, by go_num, by omega, fun h => (by rw [HF.out] at h; cases h), HX1.out, by rw [HT.out]; exact HW1.out⟩
          case measure => simp [intOf]; omega
        · have h3 := idx_neg h1
          have H2 := Lib.hid h2; clear h1 h2
          cases h4 : haveB done (nth f.steps k).after
          · have HT := Lib.hid (rdyTo_no HL1.out (H2.out.symm.trans h4))
            go_wp2_with (first | (go_at_call 69; refine (l1At_any _ _ _ done _ _ _ HD1.out hm).mono ?_; rintro e w' ⟨rfl, rfl⟩) | (go_at_call 85; refine (l1Have_any _ _ _ _ _ _ done _ _ _ _ HD1.out hm HA.out hn').mono ?_; rintro e w' ⟨rfl, rfl⟩))
            go_roundw
            case rel => exact ⟨k + 1, q, by omega, by go_num, by omega, fun h => (by rw [HF.out] at h; cases h), HX1.out, by rw [HT.out]; exact HW1.out⟩
            case measure => simp [intOf]; omega
          · have HT := Lib.hid (rdyTo_yes HL1.out (H2.out.symm.trans h4))
            go_wp2_with (first | (go_at_call 69; refine (l1At_any _ _ _ done _ _ _ HD1.out hm).mono ?_; rintro e w' ⟨rfl, rfl⟩) | (go_at_call 85; refine (l1Have_any _ _ _ _ _ _ done _ _ _ _ HD1.out hm HA.out hn').mono ?_; rintro e w' ⟨rfl, rfl⟩) | (at_builtin; refine app_str w _ q (rdyTo f.steps done k) _ (nth f.steps k).name ?c0 rfl (.tmp 38) (.tmp 45) rfl rfl rfl ?c1 (by omega) ?_))
            case c0 => exact HW1.out.alloc _
            case c1 => exact heap_new rfl
            intro v' w' how' hg'
            have HO4 := Lib.hid how'; clear how'
            have HG4 := Lib.hid hg'; clear hg'
            go_wp2_with fail
            go_roundw
            case rel =>
              refine ⟨k + 1, q + 1, by omega, by go_num, by omega, fun h => (by rw [HF.out] at h; cases h), ?_, by rw [HT.out, List.map_append]; exact HO4.out⟩
              refine grown_blk HG4.out (heap_old HX1.out) ?_
              intro e
              exact row_ne HW1.out.row HX1.out (by decide) e
            case measure => simp [intOf]; omega
    · have hk2 : k = n := by omega
      go_wp2_with fail
      go_ret
      obtain ⟨A', c', rfl, hrs⟩ := own_str HW.out.row
      refine ⟨_, _, _, rfl, ?_, HW.out.below⟩
      rw [rdyTo_all (by rw [HL.out]; omega)] at hrs
      cases h : flowB f
      · have h0 := HZ.out h
        rw [readyF_no h]
        have e : f.steps = [] := List.eq_nil_of_length_eq_zero (by rw [HL.out]; omega)
        rw [e] at hrs
        exact hrs
      · rw [readyF_yes h]; exact hrs
end Go.Proofs.Ytfcbpgpmafmkhaa
