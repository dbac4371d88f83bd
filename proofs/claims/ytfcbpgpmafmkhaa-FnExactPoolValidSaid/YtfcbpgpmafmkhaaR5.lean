/- Runs: RunValid of the program. -/
import Derived.Test.YtfcbpgpmafmkhaaR4
import Derived.Test.YtfcbpgpmafmkhaaF8
namespace Go.Proofs.Ytfcbpgpmafmkhaa
open Go.RowKit

theorem back_left {ss : List Step} {done : List Str} {m : Nat} : (backI ss done m = 1 ↔ leftN ss done m < m) ∧ (backI ss done m = 3 ↔ leftN ss done m = m) := by
  cases m with
  | zero => exact ⟨⟨fun h => absurd h (by show ¬ ((3 : Int) = 1); omega), fun h => absurd h (Nat.not_lt_zero _)⟩, ⟨fun _ => rfl, fun _ => rfl⟩⟩
  | succ k =>
    have h1 := left_last (ss := ss) (done := done) (k := k)
    have h2 := leftN_le ss done (k + 1)
    show ((if (nth ss (plc ss (nth done k))).undo = true then (1 : Int) else 3) = 1 ↔ _) ∧ ((if (nth ss (plc ss (nth done k))).undo = true then (1 : Int) else 3) = 3 ↔ _)
    cases hu : (nth ss (plc ss (nth done k))).undo
    · rw [hu] at h1
      simp at h1 ⊢
      omega
    · rw [hu] at h1
      simp at h1 ⊢
      omega

set_option maxRecDepth 100000 in
set_option maxHeartbeats 2000000 in
theorem runI_any (A B : Option Addr) (n c m d : Nat) (f : Flow) (st : Int) (done : List Str) (lo lo' : Nat) (w : World) (hr : RStep w lo A n f.steps) (hok : okSteps f.steps) (hd : RStr w lo' B m done) (hm : m ≤ 1048576) (hmd : m ≤ d) :
    Calls Try.prog 63 #[.agg #[.int .i64 f.ver, .slice A n c], .agg #[.int .i64 st, .slice B m d]] w fun e w' => e = .returned (.bool (runB f st done)) ∧ Below w.heap.size w w' := by
  have hn : n ≤ 1048576 := by have := hok.1; rw [hr.1] at this; exact this
  have HO := Lib.hid hok; clear hok
  have HX0 := Lib.hid (heap_old (o := .cells #[.int .i64 st, .slice B m d] 44) (heap_new (w := w) (o := .cells #[.int .i64 f.ver, .slice A n c] 29) rfl))
  have HY0 := Lib.hid (heap_new (w := w.alloc (.cells #[.int .i64 f.ver, .slice A n c] 29)) (b := w.heap.size + 1) (o := .cells #[.int .i64 st, .slice B m d] 44) (by simp))
  have HB0 := Lib.hid (((Below.refl w.heap.size w).alloc (Nat.le_refl _) (.cells #[.int .i64 f.ver, .slice A n c] 29)).alloc (by simp) (.cells #[.int .i64 st, .slice B m d] 44))
  have HR := Lib.hid ((hr.alloc (.cells #[.int .i64 f.ver, .slice A n c] 29)).alloc (.cells #[.int .i64 st, .slice B m d] 44)); clear hr
  have HD := Lib.hid ((hd.alloc (.cells #[.int .i64 f.ver, .slice A n c] 29)).alloc (.cells #[.int .i64 st, .slice B m d] 44)); clear hd
  have HLn := Lib.hid (show f.steps.length = n from HR.out.1)
  have HLm := Lib.hid (show done.length = m from HD.out.1)
  go_enter Try.func63, Try.ntmps63
  go_wp2_with fail
  refine (flowI_any _ _ _ f _ _ HR.out HO.out).mono ?_
  rintro e w1 ⟨rfl, hb⟩
  have HX1 := Lib.hid ((hb.block _ (heap_lt HX0.out)).trans HX0.out)
  have HY1 := Lib.hid ((hb.block _ (heap_lt HY0.out)).trans HY0.out)
  have HB1 := Lib.hid (HB0.out.trans (hb.mono HB0.out.size))
  have HR1 := Lib.hid (HR.out.below hb)
  have HD1 := Lib.hid (HD.out.below hb)
  clear hb HX0 HY0 HR HD HB0
  have r1 := (blk_cl (k := 1) HY1.out rfl).1
  cases hf : flowB f
  · have HE : Hid (runB f st done = false) := by show _ = _; unfold runB; rw [hf]; rfl
    clear hf
    go_wp2_with fail
    go_ret
    exact ⟨ret_b HE.out.symm, HB1.out⟩
  have HF := Lib.hid hf
  have HND := Lib.hid (flow_nodup hf); clear hf
  go_wp2_with fail
  clear r1
  go_loopw [13] (fun i wr => ∃ k : Nat, k ≤ m ∧ i = .int .i64 k ∧ Below w1.heap.size w1 wr ∧ ∀ j, j < k → ordAt f.steps done j = true) (fun i _ => m - (intOf i).toNat)
  case atStart => exact ⟨0, Nat.zero_le _, rfl, Below.refl _ _, fa_zero⟩
  case round =>
    obtain ⟨wo, rfl⟩ : ∃ wo : World, wo = wr := ⟨_, rfl⟩
    obtain ⟨k, hk, rfl, hbw0, hp⟩ := hrel
    have HP := Lib.hid hp; clear hp
    have HX := Lib.hid ((hbw0.block _ (heap_lt HX1.out)).trans HX1.out)
    have HY := Lib.hid ((hbw0.block _ (heap_lt HY1.out)).trans HY1.out)
    have HB := Lib.hid (HB1.out.trans (hbw0.mono HB1.out.size))
    have HR := Lib.hid (HR1.out.below hbw0)
    have HD := Lib.hid (HD1.out.below hbw0)
    have HBW := Lib.hid hbw0; clear hbw0
    by_cases hlt : k < m
    · obtain ⟨b, off, rfl, _, hc⟩ := RStr.at_ HD.out hlt
      have x1 := (hc k hlt).1
      clear hc
      have hkl : k < done.length := by rw [HLm.out]; exact hlt
      have HSB : Hid (∀ w', Below wo.heap.size wo w' → (w'.cell? ⟨w.heap.size, 0, none⟩ = some (.int .i64 f.ver) ∧ w'.cell? ⟨w.heap.size, 1, none⟩ = some (.slice A n c) ∧ w'.cell? ⟨w.heap.size + 1, 1, none⟩ = some (.slice (some ⟨b, off, none⟩) m d)) ∧ Below wo.heap.size wo w') := fun w' h => by
        have e1 := (h.block _ (heap_lt HX.out)).trans HX.out
        have e2 := (h.block _ (heap_lt HY.out)).trans HY.out
        exact ⟨⟨(blk_cl (k := 0) e1 rfl).1, (blk_cl (k := 1) e1 rfl).1, (blk_cl (k := 1) e2 rfl).1⟩, h⟩
      have s1 : ¬ ((k : Int) < 0) := by omega
      have s2 : ¬ ((d : Int) < (k : Int)) := by omega
      have s3 : (k : Int) ≤ (d : Int) := by omega
      have s4 : (0 : Int) ≤ (k : Int) := by omega
      cases hh : hasB (rdyL f.steps (done.take k)) (nth done k)
      · have HE : Hid (runB f st done = false) := by
          show _ = _
          unfold runB ordB
          rw [allN_false hkl (by rw [ordAt_rdy HND.out]; exact hh)]
          simp
        have HH := Lib.hid hh; clear hh
        go_wp2_with fail
        go_region_held3 (fun w' => (w'.cell? ⟨w.heap.size, 0, none⟩ = some (.int .i64 f.ver) ∧ w'.cell? ⟨w.heap.size, 1, none⟩ = some (.slice A n c) ∧ w'.cell? ⟨w.heap.size + 1, 1, none⟩ = some (.slice (some ⟨b, off, none⟩) m d)) ∧ Below wo.heap.size wo w')
          (first | exact HSB.out _ hbw | exact HSB.out _ (Below.refl _ _).drew | fail "keep")
          (first
            | (go_at_call 91; refine (ready_any _ _ _ _ _ _ f.ver f.steps (done.take k) _ _ _ (HR.out.below (Below.refl _ _).drew) HO.out ((HD.out.below (Below.refl _ _).drew).take hk) (by omega)).mono ?_; rintro e w6 ⟨A6, n6, c6, rfl, h6, hb6⟩; have hbw : Below wo.heap.size wo w6 := (Below.refl wo.heap.size wo).drew.trans hb6)
            | (go_at_call 97; refine (contains_any _ _ _ (rdyL f.steps (done.take k)) (nth done k) _ _ h6 (by have h8 := h6.1; have h9 := rdyL_len f.steps (done.take k); rw [HLn.out] at h9; omega)).mono ?_; rintro e w7 ⟨rfl, rfl⟩; rw [HH.out])
            | fail "no arm")
        go_wp2_with fail
        go_ret
        exact ⟨ret_b HE.out.symm, HB.out.trans (hbw.mono HB.out.size)⟩
      · have HH := Lib.hid hh; clear hh
        go_wp2_with fail
        go_region_held3 (fun w' => (w'.cell? ⟨w.heap.size, 0, none⟩ = some (.int .i64 f.ver) ∧ w'.cell? ⟨w.heap.size, 1, none⟩ = some (.slice A n c) ∧ w'.cell? ⟨w.heap.size + 1, 1, none⟩ = some (.slice (some ⟨b, off, none⟩) m d)) ∧ Below wo.heap.size wo w')
          (first | exact HSB.out _ hbw | exact HSB.out _ (Below.refl _ _).drew | fail "keep")
          (first
            | (go_at_call 91; refine (ready_any _ _ _ _ _ _ f.ver f.steps (done.take k) _ _ _ (HR.out.below (Below.refl _ _).drew) HO.out ((HD.out.below (Below.refl _ _).drew).take hk) (by omega)).mono ?_; rintro e w6 ⟨A6, n6, c6, rfl, h6, hb6⟩; have hbw : Below wo.heap.size wo w6 := (Below.refl wo.heap.size wo).drew.trans hb6)
            | (go_at_call 97; refine (contains_any _ _ _ (rdyL f.steps (done.take k)) (nth done k) _ _ h6 (by have h8 := h6.1; have h9 := rdyL_len f.steps (done.take k); rw [HLn.out] at h9; omega)).mono ?_; rintro e w7 ⟨rfl, rfl⟩; rw [HH.out])
            | fail "no arm")
        go_wp2_with fail
        go_roundw
        case rel => exact ⟨k + 1, by omega, by go_num, HBW.out.trans (hbw.mono HBW.out.size), fa_succ HP.out (by rw [ordAt_rdy HND.out]; exact HH.out)⟩
        case measure => simp [intOf]; omega
    · obtain rfl : k = m := by omega
      have ho : ordB f.steps done = true := allN_true (fun j hj => HP.out j (by rw [HLm.out] at hj; exact hj))
      have HOR := Lib.hid ho; clear ho
      have hle : k ≤ n := by rw [← HLm.out, ← HLn.out]; exact ord_len HOR.out
      have HE := Lib.hid (show runB f st done = (if st = 0 then decide (k < n) else if st = 2 then decide (k = n) else if st = 1 then decide (k < n) && decide (leftN f.steps done k < k) else if st = 3 then decide (k < n) && decide (leftN f.steps done k = k) else false) by
        unfold runB; rw [HF.out, HOR.out, HLn.out, HLm.out]; rfl)
      have HFO := Lib.hid (fun x : Bl wo => forth_any A B n c k d f.ver x.to)
      have HBA := Lib.hid (fun x : Bl wo => back_any A B n c k d f.ver f.steps done _ _ x.to (HR.out.below x.below) hn (HD.out.below x.below) hm (fun j hj => ord_all HOR.out j (by rw [HLm.out]; exact hj)))
      obtain ⟨hL1, hL2⟩ := back_left (ss := f.steps) (done := done) (m := k)
      have HL1 := Lib.hid hL1; clear hL1
      have HL2 := Lib.hid hL2; clear hL2
      generalize leftN f.steps done k = l at *
      generalize backI f.steps done k = z at *
      have X0 : ∀ x : Bl wo, x.to.cell? ⟨w.heap.size, 0, none⟩ = some (.int .i64 f.ver) := fun x => (blk_cl (k := 0) ((x.below.block _ (heap_lt HX.out)).trans HX.out) rfl).1
      have X1 : ∀ x : Bl wo, x.to.cell? ⟨w.heap.size, 1, none⟩ = some (.slice A n c) := fun x => (blk_cl (k := 1) ((x.below.block _ (heap_lt HX.out)).trans HX.out) rfl).1
      have Y0 : ∀ x : Bl wo, x.to.cell? ⟨w.heap.size + 1, 0, none⟩ = some (.int .i64 st) := fun x => (blk_cl (k := 0) ((x.below.block _ (heap_lt HY.out)).trans HY.out) rfl).1
      have Y1 : ∀ x : Bl wo, x.to.cell? ⟨w.heap.size + 1, 1, none⟩ = some (.slice B k d) := fun x => (blk_cl (k := 1) ((x.below.block _ (heap_lt HY.out)).trans HY.out) rfl).1
      have y0 := (blk_cl (k := 0) HY.out rfl).1
      have bl : ∀ x : Bl wo, Below w.heap.size w x.to := fun x => HB.out.trans (x.below.mono HB.out.size)
      have BL := Lib.hid bl; clear bl
      by_cases h0 : st = 0
      · subst h0
        go_wp2_with fail
        refine region_bl (by kernel_rfl) (by kernel_rfl) ?_
        repeat (go_big_quiet_step ((go_at_call 98; exact q_bl (HFO.out _))))
        refine wpQuiet_nil ?_
        intro _ hw'
        obtain ⟨x, rfl⟩ := hw'
        go_wp2_with fail
        go_ret
        refine ⟨ret_b ?_, BL.out x⟩
        rw [HE.out, if_pos trivial]
        unfold forthI
        by_cases h : k = n
        · simp [h]
        · rw [if_neg h]; simp; omega
      have h0' : (st == 0) = false := by rw [beq_eq_false_iff_ne]; exact h0
      by_cases h2 : st = 2
      · subst h2
        go_wp2_with fail
        refine region_bl (by kernel_rfl) (by kernel_rfl) ?_
        repeat (go_big_quiet_step ((go_at_call 98; exact q_bl (HFO.out _))))
        refine wpQuiet_nil ?_
        intro _ hw'
        obtain ⟨x, rfl⟩ := hw'
        go_wp2_with fail
        go_ret
        refine ⟨ret_b ?_, BL.out x⟩
        rw [HE.out, if_neg (by decide), if_pos trivial]
        unfold forthI
        by_cases h : k = n
        · simp [h]
        · rw [if_neg h]; simp [h]
      have h2' : (st == 2) = false := by rw [beq_eq_false_iff_ne]; exact h2
      by_cases h1 : st = 1
      · subst h1
        by_cases hmn : k < n
        · have e3 : decide ((k : Int) < (n : Int)) = true := by rw [decide_eq_true_iff]; omega
          go_wp2_with fail
          refine region_bl (by kernel_rfl) (by kernel_rfl) ?_
          repeat (go_big_quiet_step ((go_at_call 99; exact q_bl (HBA.out _))))
          refine wpQuiet_nil ?_
          intro _ hw'
          obtain ⟨x, rfl⟩ := hw'
          go_wp2_with fail
          go_ret
          refine ⟨ret_b ?_, BL.out x⟩
          rw [HE.out, if_neg (by decide), if_neg (by decide), if_pos trivial, decide_eq_true hmn, Bool.true_and, Bool.eq_iff_iff, decide_eq_true_iff, beq_iff_eq, ← HL1.out]
          exact eq_comm
        · have e3 : decide ((k : Int) < (n : Int)) = false := by rw [decide_eq_false_iff_not]; omega
          go_wp2_with fail
          refine region_bl (by kernel_rfl) (by kernel_rfl) ?_
          repeat (go_big_quiet_step (fail))
          refine wpQuiet_nil ?_
          intro _ hw'
          obtain ⟨x, rfl⟩ := hw'
          go_wp2_with fail
          go_ret
          exact ⟨ret_b (by rw [HE.out]; simp [hmn]), BL.out x⟩
      have h1' : (st == 1) = false := by rw [beq_eq_false_iff_ne]; exact h1
      by_cases h3 : st = 3
      · subst h3
        by_cases hmn : k < n
        · have e3 : decide ((k : Int) < (n : Int)) = true := by rw [decide_eq_true_iff]; omega
          go_wp2_with fail
          refine region_bl (by kernel_rfl) (by kernel_rfl) ?_
          repeat (go_big_quiet_step ((go_at_call 99; exact q_bl (HBA.out _))))
          refine wpQuiet_nil ?_
          intro _ hw'
          obtain ⟨x, rfl⟩ := hw'
          go_wp2_with fail
          go_ret
          refine ⟨ret_b ?_, BL.out x⟩
          rw [HE.out, if_neg (by decide), if_neg (by decide), if_neg (by decide), if_pos trivial, decide_eq_true hmn, Bool.true_and, Bool.eq_iff_iff, decide_eq_true_iff, beq_iff_eq, ← HL2.out]
          exact eq_comm
        · have e3 : decide ((k : Int) < (n : Int)) = false := by rw [decide_eq_false_iff_not]; omega
          go_wp2_with fail
          refine region_bl (by kernel_rfl) (by kernel_rfl) ?_
          repeat (go_big_quiet_step (fail))
          refine wpQuiet_nil ?_
          intro _ hw'
          obtain ⟨x, rfl⟩ := hw'
          go_wp2_with fail
          go_ret
          exact ⟨ret_b (by rw [HE.out]; simp [hmn]), BL.out x⟩
      have h3' : (st == 3) = false := by rw [beq_eq_false_iff_ne]; exact h3
      go_wp2_with fail
      go_ret
      exact ⟨ret_b (by rw [HE.out, if_neg h0, if_neg h2, if_neg h1, if_neg h3]), HB.out⟩
end Go.Proofs.Ytfcbpgpmafmkhaa
