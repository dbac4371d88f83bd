/- Contracts of functions and plain lemmas, joined. No condition but those that each states. -/
import Derived.BigQuiet
import Derived.Deep.RegionHeld3
import Derived.Test.YthdfefgianokgaaGreatDoorBA
import Derived.Test.YthdfefgianokgaaGreatDoorBB
import Derived.Test.YthdfefgianokgaaGreatDoorBC

/- A flow changed: the program's side. -/
namespace Go.Proofs.YthdfefgianokgaaGreatDoor
open Go.RowKit

theorem chgS_said (k : Int) (s : Step) (ss : List Step) : (chgS k s ss).2 = (decide (1 ≤ k) && (decide (k ≤ 4) && (hasB (namesOf ss) s.name != decide (k = 1)))) := by
  unfold chgS
  cases h : hasB (namesOf ss) s.name
  · simp
    by_cases h1 : k = 1
    · subst h1; simp
    · simp [h1]
  · simp
    by_cases h2 : k = 2
    · subst h2; simp
    by_cases h3 : k = 3
    · subst h3; simp
    by_cases h4 : k = 4
    · subst h4; simp
    simp [h2, h3, h4]
    intros
    omega

set_option maxRecDepth 100000 in
set_option maxHeartbeats 16000000 in
theorem fcI_any (A G : Option Addr) (n c ng cg : Nat) (f : Flow) (k : Int) (s : Step) (lo lo' : Nat) (w : World) (hr : RStep w lo A n f.steps) (hok : okSteps f.steps) (hg : RStr w lo' G ng s.after) (hos : okStep s) :
    Calls Tryz.prog 60 #[.agg #[.int .i64 f.ver, .slice A n c], .agg #[.int .i64 k, .string s.name, .slice G ng cg, .bool s.undo]] w fun e w' => ∃ B m d, e = .returned (.tuple #[.agg #[.int .i64 (chgF f k s).ver, .slice B m d], .bool (chgB f k s)]) ∧ (chgB f k s = true → SRowC w' w.heap.size (.slice B m d) m (chgF f k s).steps) ∧ Below w.heap.size w w' := by
  have HL := Lib.hid hr.1
  have HX := Lib.hid (heap_old (o := .cells #[.int .i64 0, .slice none 0 0] 38) (heap_old (o := .cells #[.int .i64 k, .string s.name, .slice G ng cg, .bool s.undo] 88) (heap_new (w := w) (o := .cells #[.int .i64 f.ver, .slice A n c] 38) rfl)))
  have HY := Lib.hid (heap_old (o := .cells #[.int .i64 0, .slice none 0 0] 38) (heap_new (w := w.alloc (.cells #[.int .i64 f.ver, .slice A n c] 38)) (b := w.heap.size + 1) (o := .cells #[.int .i64 k, .string s.name, .slice G ng cg, .bool s.undo] 88) (by simp)))
  have HZ := Lib.hid (heap_new (w := (w.alloc (.cells #[.int .i64 f.ver, .slice A n c] 38)).alloc (.cells #[.int .i64 k, .string s.name, .slice G ng cg, .bool s.undo] 88)) (b := w.heap.size + 1 + 1) (o := .cells #[.int .i64 0, .slice none 0 0] 38) (by simp))
  have HBW := Lib.hid ((((Below.refl w.heap.size w).alloc (Nat.le_refl _) (.cells #[.int .i64 f.ver, .slice A n c] 38)).alloc (by simp) (.cells #[.int .i64 k, .string s.name, .slice G ng cg, .bool s.undo] 88)).alloc (by simp; omega) (.cells #[.int .i64 0, .slice none 0 0] 38))
  have HRW := Lib.hid (((hr.alloc (.cells #[.int .i64 f.ver, .slice A n c] 38)).alloc (.cells #[.int .i64 k, .string s.name, .slice G ng cg, .bool s.undo] 88)).alloc (.cells #[.int .i64 0, .slice none 0 0] 38)); clear hr
  have HGW := Lib.hid (((hg.alloc (.cells #[.int .i64 f.ver, .slice A n c] 38)).alloc (.cells #[.int .i64 k, .string s.name, .slice G ng cg, .bool s.undo] 88)).alloc (.cells #[.int .i64 0, .slice none 0 0] 38)); clear hg
  have HOK := Lib.hid hok; clear hok
  have HOS := Lib.hid hos; clear hos
  go_enter Tryz.func60, Tryz.ntmps60
  go_upto_region 1 with fail
  generalize ((w.alloc (.cells #[.int .i64 f.ver, .slice A n c] 38)).alloc (.cells #[.int .i64 k, .string s.name, .slice G ng cg, .bool s.undo] 88)).alloc (.cells #[.int .i64 0, .slice none 0 0] 38) = W at *
  have hsW := HBW.out.size
  have hzl := heap_lt HZ.out
  have hyl := heap_lt HY.out
  have hxl := heap_lt HX.out
  have HSB : Hid (∀ w', Below W.heap.size W w' → w'.cell? ⟨w.heap.size, 0, none⟩ = some (.int .i64 f.ver) ∧ w'.cell? ⟨w.heap.size, 1, none⟩ = some (.slice A n c) ∧ w'.cell? ⟨w.heap.size + 1, 0, none⟩ = some (.int .i64 k) ∧ w'.cell? ⟨w.heap.size + 1, 1, none⟩ = some (.string s.name) ∧ w'.cell? ⟨w.heap.size + 1, 2, none⟩ = some (.slice G ng cg) ∧ w'.cell? ⟨w.heap.size + 1, 3, none⟩ = some (.bool s.undo)) := Lib.hid (fun w' h => by
    have e1 := (h.block _ hxl).trans HX.out
    have e2 := (h.block _ hyl).trans HY.out
    exact ⟨(blk_cl (k := 0) e1 rfl).1, (blk_cl (k := 1) e1 rfl).1, (blk_cl (k := 0) e2 rfl).1, (blk_cl (k := 1) e2 rfl).1, (blk_cl (k := 2) e2 rfl).1, (blk_cl (k := 3) e2 rfl).1⟩)
  have hn20 : n ≤ 1048576 := by have := HOK.out.1; rw [HL.out] at this; exact this
  have HFV := Lib.hid (fun x : Bl W => flowI_any A n c f lo x.wd (HRW.out.below x.below) HOK.out)
  have HSV := Lib.hid (fun x : Bl W => stepI_any G ng cg s lo' x.wd (HGW.out.below x.below) HOS.out)
  have HAT := Lib.hid (fun x : Bl W => at_any A n c f.ver f.steps s.name lo x.wd (HRW.out.below x.below) hn20)
  have X0 : ∀ x : Bl W, x.wd.cell? ⟨w.heap.size, 0, none⟩ = some (.int .i64 f.ver) := fun x => (HSB.out _ x.below).1
  have X1 : ∀ x : Bl W, x.wd.cell? ⟨w.heap.size, 1, none⟩ = some (.slice A n c) := fun x => (HSB.out _ x.below).2.1
  have Y0 : ∀ x : Bl W, x.wd.cell? ⟨w.heap.size + 1, 0, none⟩ = some (.int .i64 k) := fun x => (HSB.out _ x.below).2.2.1
  have Y1 : ∀ x : Bl W, x.wd.cell? ⟨w.heap.size + 1, 1, none⟩ = some (.string s.name) := fun x => (HSB.out _ x.below).2.2.2.1
  have Y2 : ∀ x : Bl W, x.wd.cell? ⟨w.heap.size + 1, 2, none⟩ = some (.slice G ng cg) := fun x => (HSB.out _ x.below).2.2.2.2.1
  have Y3 : ∀ x : Bl W, x.wd.cell? ⟨w.heap.size + 1, 3, none⟩ = some (.bool s.undo) := fun x => (HSB.out _ x.below).2.2.2.2.2
  cases hf : flowB f
  · rw [hf] at HFV
    go_wp2_with fail
    refine region_bl (by kernel_rfl) (by kernel_rfl) ?_
    repeat (go_big_quiet_step ((first | (go_at_call 62; exact q_bl (HFV.out _)) | (go_at_call 93; exact q_bl (HSV.out _)) | (go_at_call 94; exact q_bl (HAT.out _)))))
    refine wpQuiet_nil ?_
    intro _ hw'
    obtain ⟨x, rfl⟩ := hw'
    clear X0 X1 Y0 Y1 Y2 Y3
    
    have HP := Lib.hid (show chgB f k s = false from chgB_f hf)
    have HE := Lib.hid (chgF_no HP.out)
    have HZ9 := Lib.hid ((x.below.block _ hzl).trans HZ.out)
    have z0 := (blk_cl (k := 0) HZ9.out rfl).1
    have z0' := (blk_cl (k := 0) HZ9.out rfl).2
    have z1 := (blk_cl (k := 1) HZ9.out rfl).1
    have z1' := (blk_cl (k := 1) HZ9.out rfl).2
    go_wp2_with fail
    have hres := set21 (u := .slice none 0 0) (set20 (u := .int .i64 0) HZ9.out)
    have e0 := (blk_cl (k := 0) hres rfl).1
    have e1 := (blk_cl (k := 1) hres rfl).1
    exact bodyPost_ret (v := .tuple #[.agg #[.int .i64 0, .slice none 0 0], .bool false]) (by simp [results, Tryz.results60, go_sem, e0, e1]) rfl ⟨none, 0, 0, by rw [HE.out, HP.out], fun h => by (rw [HP.out] at h; cases h), ((HBW.out.trans (x.below.mono HBW.out.size)).setCell (p := ⟨w.heap.size + 1 + 1, 0, none⟩) (by show w.heap.size ≤ w.heap.size + 1 + 1; omega) _).setCell (p := ⟨w.heap.size + 1 + 1, 1, none⟩) (by show w.heap.size ≤ w.heap.size + 1 + 1; omega) _⟩
  rw [hf] at HFV
  cases hst : stepB s
  · rw [hst] at HSV
    go_wp2_with fail
    refine region_bl (by kernel_rfl) (by kernel_rfl) ?_
    repeat (go_big_quiet_step ((first | (go_at_call 62; exact q_bl (HFV.out _)) | (go_at_call 93; exact q_bl (HSV.out _)) | (go_at_call 94; exact q_bl (HAT.out _)))))
    refine wpQuiet_nil ?_
    intro _ hw'
    obtain ⟨x, rfl⟩ := hw'
    clear X0 X1 Y0 Y1 Y2 Y3
    
    have HP := Lib.hid (show chgB f k s = false from chgB_s hst)
    have HE := Lib.hid (chgF_no HP.out)
    have HZ9 := Lib.hid ((x.below.block _ hzl).trans HZ.out)
    have z0 := (blk_cl (k := 0) HZ9.out rfl).1
    have z0' := (blk_cl (k := 0) HZ9.out rfl).2
    have z1 := (blk_cl (k := 1) HZ9.out rfl).1
    have z1' := (blk_cl (k := 1) HZ9.out rfl).2
    go_wp2_with fail
    have hres := set21 (u := .slice none 0 0) (set20 (u := .int .i64 0) HZ9.out)
    have e0 := (blk_cl (k := 0) hres rfl).1
    have e1 := (blk_cl (k := 1) hres rfl).1
    exact bodyPost_ret (v := .tuple #[.agg #[.int .i64 0, .slice none 0 0], .bool false]) (by simp [results, Tryz.results60, go_sem, e0, e1]) rfl ⟨none, 0, 0, by rw [HE.out, HP.out], fun h => by (rw [HP.out] at h; cases h), ((HBW.out.trans (x.below.mono HBW.out.size)).setCell (p := ⟨w.heap.size + 1 + 1, 0, none⟩) (by show w.heap.size ≤ w.heap.size + 1 + 1; omega) _).setCell (p := ⟨w.heap.size + 1 + 1, 1, none⟩) (by show w.heap.size ≤ w.heap.size + 1 + 1; omega) _⟩
  rw [hst] at HSV
  by_cases hk1 : k < 1
  · have c1 : decide (k < 1) = true := decide_eq_true hk1
    have HD := Lib.hid hk1; clear hk1
    go_wp2_with fail
    refine region_bl (by kernel_rfl) (by kernel_rfl) ?_
    repeat (go_big_quiet_step ((first | (go_at_call 62; exact q_bl (HFV.out _)) | (go_at_call 93; exact q_bl (HSV.out _)) | (go_at_call 94; exact q_bl (HAT.out _)))))
    refine wpQuiet_nil ?_
    intro _ hw'
    obtain ⟨x, rfl⟩ := hw'
    clear X0 X1 Y0 Y1 Y2 Y3
    
    have HP := Lib.hid (show chgB f k s = false from chgB_k (by rw [chgS_said, decide_eq_false (show ¬ (1 ≤ k) by have := HD.out; omega)]; rfl))
    have HE := Lib.hid (chgF_no HP.out)
    have HZ9 := Lib.hid ((x.below.block _ hzl).trans HZ.out)
    have z0 := (blk_cl (k := 0) HZ9.out rfl).1
    have z0' := (blk_cl (k := 0) HZ9.out rfl).2
    have z1 := (blk_cl (k := 1) HZ9.out rfl).1
    have z1' := (blk_cl (k := 1) HZ9.out rfl).2
    go_wp2_with fail
    have hres := set21 (u := .slice none 0 0) (set20 (u := .int .i64 0) HZ9.out)
    have e0 := (blk_cl (k := 0) hres rfl).1
    have e1 := (blk_cl (k := 1) hres rfl).1
    exact bodyPost_ret (v := .tuple #[.agg #[.int .i64 0, .slice none 0 0], .bool false]) (by simp [results, Tryz.results60, go_sem, e0, e1]) rfl ⟨none, 0, 0, by rw [HE.out, HP.out], fun h => by (rw [HP.out] at h; cases h), ((HBW.out.trans (x.below.mono HBW.out.size)).setCell (p := ⟨w.heap.size + 1 + 1, 0, none⟩) (by show w.heap.size ≤ w.heap.size + 1 + 1; omega) _).setCell (p := ⟨w.heap.size + 1 + 1, 1, none⟩) (by show w.heap.size ≤ w.heap.size + 1 + 1; omega) _⟩
  have c1 : decide (k < 1) = false := decide_eq_false hk1
  by_cases hk4 : 4 < k
  · have c2 : decide (4 < k) = true := decide_eq_true hk4
    have HD := Lib.hid hk4; clear hk4
    go_wp2_with fail
    refine region_bl (by kernel_rfl) (by kernel_rfl) ?_
    repeat (go_big_quiet_step ((first | (go_at_call 62; exact q_bl (HFV.out _)) | (go_at_call 93; exact q_bl (HSV.out _)) | (go_at_call 94; exact q_bl (HAT.out _)))))
    refine wpQuiet_nil ?_
    intro _ hw'
    obtain ⟨x, rfl⟩ := hw'
    clear X0 X1 Y0 Y1 Y2 Y3
    
    have HP := Lib.hid (show chgB f k s = false from chgB_k (by rw [chgS_said, decide_eq_false (show ¬ (k ≤ 4) by have := HD.out; omega)]; simp))
    have HE := Lib.hid (chgF_no HP.out)
    have HZ9 := Lib.hid ((x.below.block _ hzl).trans HZ.out)
    have z0 := (blk_cl (k := 0) HZ9.out rfl).1
    have z0' := (blk_cl (k := 0) HZ9.out rfl).2
    have z1 := (blk_cl (k := 1) HZ9.out rfl).1
    have z1' := (blk_cl (k := 1) HZ9.out rfl).2
    go_wp2_with fail
    have hres := set21 (u := .slice none 0 0) (set20 (u := .int .i64 0) HZ9.out)
    have e0 := (blk_cl (k := 0) hres rfl).1
    have e1 := (blk_cl (k := 1) hres rfl).1
    exact bodyPost_ret (v := .tuple #[.agg #[.int .i64 0, .slice none 0 0], .bool false]) (by simp [results, Tryz.results60, go_sem, e0, e1]) rfl ⟨none, 0, 0, by rw [HE.out, HP.out], fun h => by (rw [HP.out] at h; cases h), ((HBW.out.trans (x.below.mono HBW.out.size)).setCell (p := ⟨w.heap.size + 1 + 1, 0, none⟩) (by show w.heap.size ≤ w.heap.size + 1 + 1; omega) _).setCell (p := ⟨w.heap.size + 1 + 1, 1, none⟩) (by show w.heap.size ≤ w.heap.size + 1 + 1; omega) _⟩
  have c2 : decide (4 < k) = false := decide_eq_false hk4
  have HIX : Hid (decide (0 ≤ idxI (namesOf f.steps) s.name) = hasB (namesOf f.steps) s.name) := Lib.hid (by
    cases h : hasB (namesOf f.steps) s.name
    · refine decide_eq_false fun e => ?_
      have := idx_neg h
      omega
    · obtain ⟨_, h2, _⟩ := plc_ex h
      rw [h2]
      exact decide_eq_true (by omega))
  by_cases hsame : hasB (namesOf f.steps) s.name = decide (k = 1)
  · have c3 : ((decide (0 ≤ idxI (namesOf f.steps) s.name)) == (k == 1)) = true := by
      rw [HIX.out, hsame]
      by_cases e : k = 1 <;> simp [e]
    have HD := Lib.hid hsame; clear hsame
    go_wp2_with fail
    refine region_bl (by kernel_rfl) (by kernel_rfl) ?_
    repeat (go_big_quiet_step ((first | (go_at_call 62; exact q_bl (HFV.out _)) | (go_at_call 93; exact q_bl (HSV.out _)) | (go_at_call 94; exact q_bl (HAT.out _)))))
    refine wpQuiet_nil ?_
    intro _ hw'
    obtain ⟨x, rfl⟩ := hw'
    clear X0 X1 Y0 Y1 Y2 Y3
    
    have HP := Lib.hid (show chgB f k s = false from chgB_k (by rw [chgS_said, HD.out]; simp))
    have HE := Lib.hid (chgF_no HP.out)
    have HZ9 := Lib.hid ((x.below.block _ hzl).trans HZ.out)
    have z0 := (blk_cl (k := 0) HZ9.out rfl).1
    have z0' := (blk_cl (k := 0) HZ9.out rfl).2
    have z1 := (blk_cl (k := 1) HZ9.out rfl).1
    have z1' := (blk_cl (k := 1) HZ9.out rfl).2
    go_wp2_with fail
    have hres := set21 (u := .slice none 0 0) (set20 (u := .int .i64 0) HZ9.out)
    have e0 := (blk_cl (k := 0) hres rfl).1
    have e1 := (blk_cl (k := 1) hres rfl).1
    exact bodyPost_ret (v := .tuple #[.agg #[.int .i64 0, .slice none 0 0], .bool false]) (by simp [results, Tryz.results60, go_sem, e0, e1]) rfl ⟨none, 0, 0, by rw [HE.out, HP.out], fun h => by (rw [HP.out] at h; cases h), ((HBW.out.trans (x.below.mono HBW.out.size)).setCell (p := ⟨w.heap.size + 1 + 1, 0, none⟩) (by show w.heap.size ≤ w.heap.size + 1 + 1; omega) _).setCell (p := ⟨w.heap.size + 1 + 1, 1, none⟩) (by show w.heap.size ≤ w.heap.size + 1 + 1; omega) _⟩
  have c3 : ((decide (0 ≤ idxI (namesOf f.steps) s.name)) == (k == 1)) = false := by
    rw [HIX.out]
    rw [beq_eq_false_iff_ne]
    intro e
    apply hsame
    rw [e]
    by_cases e : k = 1 <;> simp [e]
  go_wp2_with fail
  refine region_bl (by kernel_rfl) (by kernel_rfl) ?_
  repeat (go_big_quiet_step ((first | (go_at_call 62; exact q_bl (HFV.out _)) | (go_at_call 93; exact q_bl (HSV.out _)) | (go_at_call 94; exact q_bl (HAT.out _)))))
  refine wpQuiet_nil ?_
  intro _ hw'
  obtain ⟨x, rfl⟩ := hw'
  clear X0 X1 Y0 Y1 Y2 Y3
  have HB3 := Lib.hid x.below
  clear c1 c2 c3
  generalize x.wd = w3 at *
  have hs3 := HB3.out.size
  have hfl := (flowB_iff.1 hf).2.2.1
  have hn1 : 0 < n := by rw [← HL.out]; omega
  have hn8 : n ≤ 8 := by rw [← HL.out]; exact hfl.2
  have hv1 : (1 : Int) ≤ f.ver := (flowB_iff.1 hf).2.1.1
  have hv2 : f.ver ≤ (99 : Int) := (flowB_iff.1 hf).2.1.2
  clear hfl
  obtain ⟨f0, f1, x0, x1, x2, x3⟩ := HSB.out _ HB3.out
  go_wp2_with fail
  refine (flowClone_any _ _ _ f _ _ (HRW.out.below HB3.out) HOK.out).mono ?_
  rintro e w4 ⟨B4, d4, rfl, hrow4, hb4⟩
  clear f0 f1 x0 x1 x2 x3
  obtain ⟨b, cur4, rfl, hbb4, hbk4, _, hd4, _⟩ := SRow.form hrow4 hn1
  have hbl4 := heap_lt hbk4
  clear hbk4
  have HB4 := Lib.hid (HB3.out.trans (hb4.mono hs3))
  have HR4 := Lib.hid ((hrow4.mono hs3).below ((Below.refl _ _).alloc (Nat.le_refl _) (.cells #[.int .i64 (f.ver + 1), .slice (some ⟨b, 0, none⟩) n d4] 38)))
  have HP4a := Lib.hid (heap_new (w := w4) (o := .cells #[.int .i64 f.ver, .slice (some ⟨b, 0, none⟩) n d4] 38) rfl)
  have HP4 := Lib.hid (heap_new (w := w4) (o := .cells #[.int .i64 (f.ver + 1), .slice (some ⟨b, 0, none⟩) n d4] 38) rfl)
  have hWp := HB4.out.size
  have HB4a := Lib.hid (HB4.out.alloc HB4.out.size (.cells #[.int .i64 (f.ver + 1), .slice (some ⟨b, 0, none⟩) n d4] 38))
  clear hrow4 hb4
  have g0 := (blk_cl (k := 0) HP4a.out rfl).1
  have g0' := (blk_cl (k := 0) HP4a.out rfl).2
  go_upto_region 5 with fail
  clear HP4a g0 g0'
  generalize w4.alloc (.cells #[.int .i64 (f.ver + 1), .slice (some ⟨b, 0, none⟩) n d4] 38) = W4 at *
  have hbp : b < w4.heap.size := hbl4
  generalize w4.heap.size = q at *
  have hpl4 := heap_lt HP4.out
  have g0 := (blk_cl (k := 0) HP4.out rfl).1
  have g1 := (blk_cl (k := 1) HP4.out rfl).1
  obtain ⟨f0, f1, x0, x1, x2, x3⟩ := HSB.out _ HB4a.out
  have HST4 := Lib.hid (by
    obtain ⟨A4, c4, e4, h4⟩ := HR4.out.hat
    injection e4 with e4 _ _
    subst e4
    exact h4 : RStep W4 W.heap.size (some ⟨b, 0, none⟩) n f.steps)
  clear f0 f1 x0 x1 x2 x3 g0 g1
  have HOKC := Lib.hid (chgS_ok (k := k) hf hst)
  have hnd := flow_nodup hf
  have HASC := Lib.hid (flow_asc hf)
  by_cases hk : k = 1
  · subst hk
    have hno : hasB (namesOf f.steps) s.name = false := by simpa using hsame
    have HCS := Lib.hid (show (chgS 1 s f.steps).1 = withL f.steps s by rw [chgS_new hno rfl])
    have HCS2 := Lib.hid (show (chgS 1 s f.steps).2 = true by rw [chgS_new hno rfl])
    obtain ⟨f0, f1, x0, x1, x2, x3⟩ := HSB.out _ HB4a.out
    have g0 := (blk_cl (k := 0) HP4.out rfl).1
    have g1 := (blk_cl (k := 1) HP4.out rfl).1
    go_wp2_with fail
    refine (at_any (some ⟨b, 0, none⟩) n d4 (f.ver + 1) f.steps s.name _ _ HST4.out hn20).mono ?_
    rintro e w5 ⟨rfl, hb5⟩
    clear f0 f1 x0 x1 x2 x3 g0 g1
    have HB5 := Lib.hid (HB4a.out.trans (hb5.mono HB4a.out.size))
    have HP5 := Lib.hid ((hb5.block _ hpl4).trans HP4.out)
    have HR5 := Lib.hid (HR4.out.below hb5)
    have hs5 := HB5.out.size
    have hpl5 := heap_lt HP5.out
    clear hb5
    obtain ⟨f0, f1, x0, x1, x2, x3⟩ := HSB.out _ HB5.out
    have g0 := (blk_cl (k := 0) HP5.out rfl).1
    have g1 := (blk_cl (k := 1) HP5.out rfl).1
    have g1' := (blk_cl (k := 1) HP5.out rfl).2
    have HG5 := Lib.hid (HGW.out.below HB5.out)
    have hng : ng ≤ 1048576 := by rw [← HGW.out.1]; exact HOS.out.2.1
    have HS8 : Hid (∀ w', Below w5.heap.size w5 w' → (fun w' : World => w'.cell? ⟨w.heap.size + 1, 1, none⟩ = some (.string s.name) ∧ w'.cell? ⟨w.heap.size + 1, 2, none⟩ = some (.slice G ng cg) ∧ w'.cell? ⟨w.heap.size + 1, 3, none⟩ = some (.bool s.undo)) w') := Lib.hid (fun w' h => by
      obtain ⟨_, _, _, a, b, c⟩ := HSB.out _ (HB5.out.trans (h.mono hs5))
      exact ⟨a, b, c⟩)
    have HKF : Hid (∀ w' o u, (fun w' : World => w'.cell? ⟨w.heap.size + 1, 1, none⟩ = some (.string s.name) ∧ w'.cell? ⟨w.heap.size + 1, 2, none⟩ = some (.slice G ng cg) ∧ w'.cell? ⟨w.heap.size + 1, 3, none⟩ = some (.bool s.undo)) w' → (fun w' : World => w'.cell? ⟨w.heap.size + 1, 1, none⟩ = some (.string s.name) ∧ w'.cell? ⟨w.heap.size + 1, 2, none⟩ = some (.slice G ng cg) ∧ w'.cell? ⟨w.heap.size + 1, 3, none⟩ = some (.bool s.undo)) (w'.setCell ⟨q, o, none⟩ u)) := Lib.hid (fun w' o u h => ⟨(World.cell?_setCell_other _ _ _ _ (fun e => by injection e; omega)).trans h.1, (World.cell?_setCell_other _ _ _ _ (fun e => by injection e; omega)).trans h.2.1, (World.cell?_setCell_other _ _ _ _ (fun e => by injection e; omega)).trans h.2.2⟩)
    have HKG : Hid (∀ (w6 w7 : World) (o : Obj), Below w5.heap.size w5 w6 → (w6.alloc o).grownBy w7 (Value.slice (some ⟨b, 0, none⟩) n d4).ownBlock → (fun w' : World => w'.cell? ⟨w.heap.size + 1, 1, none⟩ = some (.string s.name) ∧ w'.cell? ⟨w.heap.size + 1, 2, none⟩ = some (.slice G ng cg) ∧ w'.cell? ⟨w.heap.size + 1, 3, none⟩ = some (.bool s.undo)) w7) := Lib.hid (fun w6 w7 o h hg => by
      have e2 := (HB5.out.trans (h.mono hs5)).block _ hyl
      have e1 := grown_blk hg (heap_old (o := o) (e2.trans HY.out)) (fun e => by (have e2 : b = w.heap.size + 1 := by simpa [Value.ownBlock] using e); omega)
      exact ⟨(blk_cl (k := 1) e1 rfl).1, (blk_cl (k := 2) e1 rfl).1, (blk_cl (k := 3) e1 rfl).1⟩)
    go_upto_region 8 with fail
    go_cut [61] (fun s61 wx => ∃ (B7 : Option Addr) (d7 : Nat), s61 = .slice B7 (n + 1) d7 ∧ wx.heap[q]? = some (.cells #[.int .i64 (f.ver + 1), .slice B7 (n + 1) d7] 38) ∧ SRow wx W.heap.size (.slice B7 (n + 1) d7) (n + 1) (f.steps ++ [s]) ∧ Below W.heap.size W wx)
    case first =>
      go_wp2_with fail
      refine wp_region_held_drew (S := fun w' : World => w'.cell? ⟨w.heap.size + 1, 1, none⟩ = some (.string s.name) ∧ w'.cell? ⟨w.heap.size + 1, 2, none⟩ = some (.slice G ng cg) ∧ w'.cell? ⟨w.heap.size + 1, 3, none⟩ = some (.bool s.undo)) (by kernel_rfl) (HS8.out _ (Below.refl _ _).drew) (fun hH => ?_)
      refine wpAnyH_takeE (i := 0) (d := some 55) (v := ?v301) rfl (by rfl) (by kernel_rfl) (by kernel_rfl) (by kernel_rfl) (fun _ _ _ h => h) (Or.inl ⟨by rfl, ?y301⟩) hH ?r301
      case y301 => (intro w' hS; (try dsimp only at hS); go_simp; (try with_reducible rfl))
      (try simp only [Act.put, List.setIfInBounds_toArray, List.set_cons_zero, List.set_cons_succ])
      refine wpAnyH_takeE (i := 2) (d := some 57) (v := ?v302) rfl (by rfl) (by kernel_rfl) (by kernel_rfl) (by kernel_rfl) (fun _ _ _ h => h) (Or.inl ⟨by rfl, ?y302⟩) hH ?r302
      case y302 => (intro w' hS; (try dsimp only at hS); go_simp; (try with_reducible rfl))
      (try simp only [Act.put, List.setIfInBounds_toArray, List.set_cons_zero, List.set_cons_succ])
      refine wpAnyH_takeE (i := 3) (d := some 58) (v := ?v303) rfl (by rfl) (by kernel_rfl) (by kernel_rfl) (by kernel_rfl) (fun _ _ _ h => h) (Or.inl ⟨by rfl, ?y303⟩) hH ?r303
      case y303 => (intro w' hS; (try dsimp only at hS); go_simp; (try with_reducible rfl))
      (try simp only [Act.put, List.setIfInBounds_toArray, List.set_cons_zero, List.set_cons_succ])
      refine wpAnyH_ready (rs := [1, 4]) (by kernel_rfl) (by simp) ?_
      refine AllReadyH.cons rfl (fun K hK => ?_) ?_
      · go_simp
        refine hK.out _ _ (HS8.out _ (Below.refl _ _).drew) (fun hH2 => ?_)
        clear hK K hH
        have hH := hH2
        (try simp only [Act.put, List.setIfInBounds_toArray, List.set_cons_zero, List.set_cons_succ])
        refine wpAnyH_ready (rs := [4]) (by kernel_rfl) (by simp) ?_
        refine AllReadyH.cons rfl (fun K hK => ?_) AllReadyH.nil
        go_wp2_with fail
        go_at_call 96
        refine (stepClone_any _ _ _ s _ _ (HG5.out.below (by repeat (first | with_reducible exact Below.refl _ _ | apply Below.drew | apply Below.al2_))) hng).mono ?_
        rintro e w6 ⟨A6, c6, rfl, hss6, hb6⟩
        have hbw : Below w5.heap.size w5 w6 := (Below.refl w5.heap.size w5).drew.trans hb6
        have HX6 := Lib.hid ((hbw.block _ hpl5).trans HP5.out)
        have y1 := (blk_cl (k := 1) HX6.out rfl).1
        have y2 := (blk_cl (k := 1) (heap_old (o := .cells #[.string s.name, .slice A6 ng c6, .bool s.undo] 35) HX6.out) rfl).1
        go_wp2_with fail
        refine hK.out _ _ (HS8.out _ hbw) (fun hH2 => ?_)
        clear hK K hH
        have hH := hH2
        (try simp only [Act.put, List.setIfInBounds_toArray, List.set_cons_zero, List.set_cons_succ])
        refine wpAnyH_ready (rs := [5]) (by kernel_rfl) (by simp) ?_
        refine AllReadyH.cons rfl (fun K hK => ?_) AllReadyH.nil
        go_simp
        refine hK.out _ _ (HS8.out _ (Below.al2_ hbw _)) (fun hH2 => ?_)
        clear hK K hH
        have hH := hH2
        (try simp only [Act.put, List.setIfInBounds_toArray, List.set_cons_zero, List.set_cons_succ])
        refine wpAnyH_ready (rs := [6]) (by kernel_rfl) (by simp) ?_
        refine AllReadyH.cons rfl (fun K hK => ?_) AllReadyH.nil
        refine wapp_step W.heap.size (.slice (some ⟨b, 0, none⟩) n d4) n f.steps _ s A6 ng c6 ((HR5.out.below hbw).below ((Below.refl _ _).alloc (Nat.le_refl _) _)) ((hss6.mono hs5).below ((Below.refl _ _).alloc (Nat.le_refl _) _)) (.tmp 56) (.tmp 60) rfl rfl rfl (heap_new rfl) (by omega) (by (have h1 := hbw.size; simp; omega)) ?_
        intro v7 w7 how7 hg7 hat7
        have HX7 := Lib.hid (grown_blk hg7 (heap_old (o := .cells #[.string s.name, .slice A6 ng c6, .bool s.undo] 35) HX6.out) (HR5.out.ne HP5.out (by decide)))
        have z1 := (blk_cl (k := 1) HX7.out rfl).1
        have z1' := (blk_cl (k := 1) HX7.out rfl).2
        have hk7 := HKG.out _ _ _ hbw hg7
        refine hK.out _ _ (hk7) (fun hH2 => ?_)
        clear hK K hH
        have hH := hH2
        (try simp only [Act.put, List.setIfInBounds_toArray])
        refine wpAnyH_takeE (i := 7) (d := some 62) (v := ?v304) rfl (by rfl) (by kernel_rfl) (by kernel_rfl) (by kernel_rfl) (fun _ _ _ h => h) (Or.inl ⟨by rfl, ?y304⟩) hH ?r304
        case y304 => (intro w' hS; (try dsimp only at hS); go_simp; (try with_reducible rfl))
        (try simp only [Act.put])
        obtain ⟨B7, d7, rfl, _⟩ := how7.hat
        refine wpAnyH_ready (rs := [8]) (by kernel_rfl) (by simp) ?_
        refine AllReadyH.cons rfl (fun K hK => ?_) AllReadyH.nil
        go_simp
        (try simp only [Oper.upon])
        refine hK.out _ _ (HKF.out _ _ _ hk7) (fun _ => ?_)
        clear hK K hH
        (try simp only [Act.put, List.setIfInBounds_toArray, List.set_cons_zero, List.set_cons_succ])
        refine wpAnyH_done (by kernel_rfl) ?_ _
        have HB6 := HB5.out.trans (hbw.mono hs5)
        have HB7a := (HB6.alloc HB6.size (.cells #[.string s.name, .slice A6 ng c6, .bool s.undo] 35)).grown hg7 (by have := HB6.size; simp; omega) (fun b hb => (SRow.lt HR5.out hb).1)
        have HB7 := Lib.hid (HB7a.setCell (p := ⟨q, 1, none⟩) hWp (.slice B7 (n + 1) d7))
        have HX8 := Lib.hid (set21 (u := .slice B7 (n + 1) d7) HX7.out)
        have HK8 := Lib.hid (how7.set (o := 1) (u := .slice B7 (n + 1) d7) HX7.out (by decide) (by decide))
        clear how7 hg7 hat7 hk7 hss6 hb6 hbw HB6 HB7a
        go_wp2_with fail
        go_meet
        exact ⟨B7, d7, rfl, HX8.out, HK8.out, HB7.out⟩
      · refine AllReadyH.cons rfl (fun K hK => ?_) AllReadyH.nil
        go_wp2_with fail
        go_at_call 96
        refine (stepClone_any _ _ _ s _ _ (HG5.out.below (by repeat (first | with_reducible exact Below.refl _ _ | apply Below.drew | apply Below.al2_))) hng).mono ?_
        rintro e w6 ⟨A6, c6, rfl, hss6, hb6⟩
        have hbw : Below w5.heap.size w5 w6 := (Below.refl w5.heap.size w5).drew.trans hb6
        have HX6 := Lib.hid ((hbw.block _ hpl5).trans HP5.out)
        have y1 := (blk_cl (k := 1) HX6.out rfl).1
        have y2 := (blk_cl (k := 1) (heap_old (o := .cells #[.string s.name, .slice A6 ng c6, .bool s.undo] 35) HX6.out) rfl).1
        go_wp2_with fail
        refine hK.out _ _ (HS8.out _ hbw) (fun hH2 => ?_)
        clear hK K hH
        have hH := hH2
        (try simp only [Act.put, List.setIfInBounds_toArray, List.set_cons_zero, List.set_cons_succ])
        refine wpAnyH_ready (rs := [1, 5]) (by kernel_rfl) (by simp) ?_
        refine AllReadyH.cons rfl (fun K hK => ?_) ?_
        · go_simp
          refine hK.out _ _ (HS8.out _ hbw) (fun hH2 => ?_)
          clear hK K hH
          have hH := hH2
          (try simp only [Act.put, List.setIfInBounds_toArray, List.set_cons_zero, List.set_cons_succ])
          refine wpAnyH_ready (rs := [5]) (by kernel_rfl) (by simp) ?_
          refine AllReadyH.cons rfl (fun K hK => ?_) AllReadyH.nil
          go_simp
          refine hK.out _ _ (HS8.out _ (Below.al2_ hbw _)) (fun hH2 => ?_)
          clear hK K hH
          have hH := hH2
          (try simp only [Act.put, List.setIfInBounds_toArray, List.set_cons_zero, List.set_cons_succ])
          refine wpAnyH_ready (rs := [6]) (by kernel_rfl) (by simp) ?_
          refine AllReadyH.cons rfl (fun K hK => ?_) AllReadyH.nil
          refine wapp_step W.heap.size (.slice (some ⟨b, 0, none⟩) n d4) n f.steps _ s A6 ng c6 ((HR5.out.below hbw).below ((Below.refl _ _).alloc (Nat.le_refl _) _)) ((hss6.mono hs5).below ((Below.refl _ _).alloc (Nat.le_refl _) _)) (.tmp 56) (.tmp 60) rfl rfl rfl (heap_new rfl) (by omega) (by (have h1 := hbw.size; simp; omega)) ?_
          intro v7 w7 how7 hg7 hat7
          have HX7 := Lib.hid (grown_blk hg7 (heap_old (o := .cells #[.string s.name, .slice A6 ng c6, .bool s.undo] 35) HX6.out) (HR5.out.ne HP5.out (by decide)))
          have z1 := (blk_cl (k := 1) HX7.out rfl).1
          have z1' := (blk_cl (k := 1) HX7.out rfl).2
          have hk7 := HKG.out _ _ _ hbw hg7
          refine hK.out _ _ (hk7) (fun hH2 => ?_)
          clear hK K hH
          have hH := hH2
          (try simp only [Act.put, List.setIfInBounds_toArray])
          refine wpAnyH_takeE (i := 7) (d := some 62) (v := ?v305) rfl (by rfl) (by kernel_rfl) (by kernel_rfl) (by kernel_rfl) (fun _ _ _ h => h) (Or.inl ⟨by rfl, ?y305⟩) hH ?r305
          case y305 => (intro w' hS; (try dsimp only at hS); go_simp; (try with_reducible rfl))
          (try simp only [Act.put])
          obtain ⟨B7, d7, rfl, _⟩ := how7.hat
          refine wpAnyH_ready (rs := [8]) (by kernel_rfl) (by simp) ?_
          refine AllReadyH.cons rfl (fun K hK => ?_) AllReadyH.nil
          go_simp
          (try simp only [Oper.upon])
          refine hK.out _ _ (HKF.out _ _ _ hk7) (fun _ => ?_)
          clear hK K hH
          (try simp only [Act.put, List.setIfInBounds_toArray, List.set_cons_zero, List.set_cons_succ])
          refine wpAnyH_done (by kernel_rfl) ?_ _
          have HB6 := HB5.out.trans (hbw.mono hs5)
          have HB7a := (HB6.alloc HB6.size (.cells #[.string s.name, .slice A6 ng c6, .bool s.undo] 35)).grown hg7 (by have := HB6.size; simp; omega) (fun b hb => (SRow.lt HR5.out hb).1)
          have HB7 := Lib.hid (HB7a.setCell (p := ⟨q, 1, none⟩) hWp (.slice B7 (n + 1) d7))
          have HX8 := Lib.hid (set21 (u := .slice B7 (n + 1) d7) HX7.out)
          have HK8 := Lib.hid (how7.set (o := 1) (u := .slice B7 (n + 1) d7) HX7.out (by decide) (by decide))
          clear how7 hg7 hat7 hk7 hss6 hb6 hbw HB6 HB7a
          go_wp2_with fail
          go_meet
          exact ⟨B7, d7, rfl, HX8.out, HK8.out, HB7.out⟩
        · refine AllReadyH.cons rfl (fun K hK => ?_) AllReadyH.nil
          go_simp
          refine hK.out _ _ (HS8.out _ (Below.al2_ hbw _)) (fun hH2 => ?_)
          clear hK K hH
          have hH := hH2
          (try simp only [Act.put, List.setIfInBounds_toArray, List.set_cons_zero, List.set_cons_succ])
          refine wpAnyH_ready (rs := [1]) (by kernel_rfl) (by simp) ?_
          refine AllReadyH.cons rfl (fun K hK => ?_) AllReadyH.nil
          go_simp
          refine hK.out _ _ (HS8.out _ (Below.al2_ hbw _)) (fun hH2 => ?_)
          clear hK K hH
          have hH := hH2
          (try simp only [Act.put, List.setIfInBounds_toArray, List.set_cons_zero, List.set_cons_succ])
          refine wpAnyH_ready (rs := [6]) (by kernel_rfl) (by simp) ?_
          refine AllReadyH.cons rfl (fun K hK => ?_) AllReadyH.nil
          refine wapp_step W.heap.size (.slice (some ⟨b, 0, none⟩) n d4) n f.steps _ s A6 ng c6 ((HR5.out.below hbw).below ((Below.refl _ _).alloc (Nat.le_refl _) _)) ((hss6.mono hs5).below ((Below.refl _ _).alloc (Nat.le_refl _) _)) (.tmp 56) (.tmp 60) rfl rfl rfl (heap_new rfl) (by omega) (by (have h1 := hbw.size; simp; omega)) ?_
          intro v7 w7 how7 hg7 hat7
          have HX7 := Lib.hid (grown_blk hg7 (heap_old (o := .cells #[.string s.name, .slice A6 ng c6, .bool s.undo] 35) HX6.out) (HR5.out.ne HP5.out (by decide)))
          have z1 := (blk_cl (k := 1) HX7.out rfl).1
          have z1' := (blk_cl (k := 1) HX7.out rfl).2
          have hk7 := HKG.out _ _ _ hbw hg7
          refine hK.out _ _ (hk7) (fun hH2 => ?_)
          clear hK K hH
          have hH := hH2
          (try simp only [Act.put, List.setIfInBounds_toArray])
          refine wpAnyH_takeE (i := 7) (d := some 62) (v := ?v306) rfl (by rfl) (by kernel_rfl) (by kernel_rfl) (by kernel_rfl) (fun _ _ _ h => h) (Or.inl ⟨by rfl, ?y306⟩) hH ?r306
          case y306 => (intro w' hS; (try dsimp only at hS); go_simp; (try with_reducible rfl))
          (try simp only [Act.put])
          obtain ⟨B7, d7, rfl, _⟩ := how7.hat
          refine wpAnyH_ready (rs := [8]) (by kernel_rfl) (by simp) ?_
          refine AllReadyH.cons rfl (fun K hK => ?_) AllReadyH.nil
          go_simp
          (try simp only [Oper.upon])
          refine hK.out _ _ (HKF.out _ _ _ hk7) (fun _ => ?_)
          clear hK K hH
          (try simp only [Act.put, List.setIfInBounds_toArray, List.set_cons_zero, List.set_cons_succ])
          refine wpAnyH_done (by kernel_rfl) ?_ _
          have HB6 := HB5.out.trans (hbw.mono hs5)
          have HB7a := (HB6.alloc HB6.size (.cells #[.string s.name, .slice A6 ng c6, .bool s.undo] 35)).grown hg7 (by have := HB6.size; simp; omega) (fun b hb => (SRow.lt HR5.out hb).1)
          have HB7 := Lib.hid (HB7a.setCell (p := ⟨q, 1, none⟩) hWp (.slice B7 (n + 1) d7))
          have HX8 := Lib.hid (set21 (u := .slice B7 (n + 1) d7) HX7.out)
          have HK8 := Lib.hid (how7.set (o := 1) (u := .slice B7 (n + 1) d7) HX7.out (by decide) (by decide))
          clear how7 hg7 hat7 hk7 hss6 hb6 hbw HB6 HB7a
          go_wp2_with fail
          go_meet
          exact ⟨B7, d7, rfl, HX8.out, HK8.out, HB7.out⟩
    case rest =>
      obtain ⟨B7, d7, rfl, hx7, hk7, hb7⟩ := hcut
      obtain ⟨b7, cur7, rfl, hbb7, hbk7, _, _, _⟩ := SRow.form hk7 (by omega)
      clear g0 g1 g1' f0 f1 x0 x1 x2 x3
      have HX7 := Lib.hid hx7; clear hx7
      have HK7 := Lib.hid hk7; clear hk7
      have HB7 := Lib.hid hb7; clear hb7
      have g1 := (blk_cl (k := 1) HX7.out rfl).1
      go_wp2_with fail
      refine (sortRowS_any _ _ _ _ _ _ HK7.out (by omega)).mono ?_
      rintro e w9 ⟨rfl, ts, hperm, hsort, hrow9, hg9⟩
      have HTS := Lib.hid (with_sorted HASC.out hno hperm hsort)
      have HPN := Lib.hid (grown_blk hg9 HX7.out (HK7.out.ne HX7.out (by decide)))
      have HBN := Lib.hid (HB7.out.grown hg9 HB7.out.size (fun k e => by injection e with e; omega))
      have HRN := Lib.hid (by
        obtain ⟨A9, c9, e9, h9⟩ := hrow9.hat
        injection e9 with e9 _ _
        subst e9
        rw [HTS.out, ← HCS.out] at h9
        exact h9 : RStep w9 W.heap.size (some ⟨b7, 0, none⟩) (n + 1) (chgS 1 s f.steps).1)
      clear g1 hperm hsort hrow9 hg9 hbk7
      have HRS := Lib.hid HRN.out
      have g0 := (blk_cl (k := 0) HPN.out rfl).1
      have g1 := (blk_cl (k := 1) HPN.out rfl).1
      have hs9 := HBN.out.size
      go_wp2_with fail
      refine (flowI_any (some ⟨b7, 0, none⟩) (n + 1) d7 ⟨f.ver + 1, (chgS 1 s f.steps).1⟩ _ _ HRS.out HOKC.out).mono ?_
      rintro e w10 ⟨rfl, hb10⟩
      have hb6 : Below W.heap.size W w10 := HBN.out.trans (hb10.mono hs9)
      have HR10 := Lib.hid (HRS.out.below hb10)
      have HN10 := Lib.hid ((hb10.block _ (heap_lt HPN.out)).trans HPN.out)
      clear g0 g1 hb10
      have g0 := (blk_cl (k := 0) HN10.out rfl).1
      have g1 := (blk_cl (k := 1) HN10.out rfl).1
      cases hg9 : flowB ⟨f.ver + 1, (chgS 1 s f.steps).1⟩
      · have HP := Lib.hid (chgB_g hg9)
        have HE := Lib.hid (chgF_no HP.out)
        have HZ9 := Lib.hid ((hb6.block _ (heap_lt HZ.out)).trans HZ.out)
        have z0 := (blk_cl (k := 0) HZ9.out rfl).1
        have z0' := (blk_cl (k := 0) HZ9.out rfl).2
        have z1 := (blk_cl (k := 1) HZ9.out rfl).1
        have z1' := (blk_cl (k := 1) HZ9.out rfl).2
        go_wp2_with fail
        have hres := set21 (u := .slice none 0 0) (set20 (u := .int .i64 0) HZ9.out)
        have e0 := (blk_cl (k := 0) hres rfl).1
        have e1 := (blk_cl (k := 1) hres rfl).1
        exact bodyPost_ret (v := .tuple #[.agg #[.int .i64 0, .slice none 0 0], .bool false]) (by simp [results, Tryz.results60, go_sem, e0, e1]) rfl ⟨none, 0, 0, by rw [HE.out, HP.out], fun h => by (rw [HP.out] at h; cases h), ((HBW.out.trans (hb6.mono HBW.out.size)).setCell (p := ⟨w.heap.size + 1 + 1, 0, none⟩) (by show w.heap.size ≤ w.heap.size + 1 + 1; omega) _).setCell (p := ⟨w.heap.size + 1 + 1, 1, none⟩) (by show w.heap.size ≤ w.heap.size + 1 + 1; omega) _⟩
      · have HP := Lib.hid (chgB_yes hf hst HCS2.out hg9)
        have HE := Lib.hid (chgF_yes HP.out)
        go_wp2_with fail
        refine (flowCloneC_any (some ⟨b7, 0, none⟩) (n + 1) d7 ⟨f.ver + 1, (chgS 1 s f.steps).1⟩ _ _ HR10.out HOKC.out).mono ?_
        rintro e w11 ⟨B11, d11, rfl, hrow11, hb11⟩
        have hb7 : Below W.heap.size W w11 := hb6.trans (hb11.mono hb6.size)
        have HZ9 := Lib.hid ((hb7.block _ (heap_lt HZ.out)).trans HZ.out)
        have z0 := (blk_cl (k := 0) HZ9.out rfl).1
        have z0' := (blk_cl (k := 0) HZ9.out rfl).2
        have z1 := (blk_cl (k := 1) HZ9.out rfl).1
        have z1' := (blk_cl (k := 1) HZ9.out rfl).2
        clear g0 g1
        go_wp2_with fail
        have hres := set21 (u := .slice B11 (n + 1) d11) (set20 (u := .int .i64 (f.ver + 1)) HZ9.out)
        have e0 := (blk_cl (k := 0) hres rfl).1
        have e1 := (blk_cl (k := 1) hres rfl).1
        have hrow12 := ((hrow11.mono (show w.heap.size ≤ w10.heap.size by have := hb6.size; omega)).set (o := 0) (u := .int .i64 (f.ver + 1)) HZ9.out (by decide) (by decide)).set (o := 1) (u := .slice B11 (n + 1) d11) (set20 (u := .int .i64 (f.ver + 1)) HZ9.out) (by decide) (by decide)
        exact bodyPost_ret (v := .tuple #[.agg #[.int .i64 (f.ver + 1), .slice B11 (n + 1) d11], .bool true]) (by simp [results, Tryz.results60, go_sem, e0, e1]) rfl ⟨B11, (n + 1), d11, by rw [HE.out, HP.out], fun _ => by (rw [HE.out]; exact hrow12), ((HBW.out.trans (hb7.mono HBW.out.size)).setCell (p := ⟨w.heap.size + 1 + 1, 0, none⟩) (by show w.heap.size ≤ w.heap.size + 1 + 1; omega) _).setCell (p := ⟨w.heap.size + 1 + 1, 1, none⟩) (by show w.heap.size ≤ w.heap.size + 1 + 1; omega) _⟩
  have hhas : hasB (namesOf f.steps) s.name = true := by
    cases h : hasB (namesOf f.steps) s.name
    · exact absurd (h.trans (decide_eq_false (by omega)).symm) hsame
    · rfl
  obtain ⟨hpl, hix, hpn⟩ := plc_ex hhas
  rw [HL.out] at hpl
  clear hsame
  by_cases hk2 : k = 2
  · subst hk2
    have HCS := Lib.hid (show (chgS 2 s f.steps).1 = woL f.steps s.name by rw [chgS_2 hhas rfl])
    have HCS2 := Lib.hid (show (chgS 2 s f.steps).2 = true by rw [chgS_2 hhas rfl])
    obtain ⟨f0, f1, x0, x1, x2, x3⟩ := HSB.out _ HB4a.out
    have g0 := (blk_cl (k := 0) HP4.out rfl).1
    have g1 := (blk_cl (k := 1) HP4.out rfl).1
    go_wp2_with fail
    refine (at_any (some ⟨b, 0, none⟩) n d4 (f.ver + 1) f.steps s.name _ _ HST4.out hn20).mono ?_
    rintro e w5 ⟨rfl, hb5⟩
    clear f0 f1 x0 x1 x2 x3 g0 g1
    have HB5 := Lib.hid (HB4a.out.trans (hb5.mono HB4a.out.size))
    have HP5 := Lib.hid ((hb5.block _ hpl4).trans HP4.out)
    have HR5 := Lib.hid (HR4.out.below hb5)
    have hs5 := HB5.out.size
    have hpl5 := heap_lt HP5.out
    clear hb5
    obtain ⟨f0, f1, x0, x1, x2, x3⟩ := HSB.out _ HB5.out
    have g0 := (blk_cl (k := 0) HP5.out rfl).1
    have g1 := (blk_cl (k := 1) HP5.out rfl).1
    have g1' := (blk_cl (k := 1) HP5.out rfl).2
    obtain ⟨m, rfl⟩ : ∃ m, n = m + 1 := ⟨n - 1, by omega⟩
    go_wp2_with fail
    refine (drop_any q b m d4 (f.ver + 1) f.steps s.name W.heap.size _ HP5.out HR5.out hn8 (fun j hj => by have := (stepB_names (step_ok hf (by rw [HL.out]; exact hj))).2.1; omega) hnd hhas hWp hd4).mono ?_
    rintro e w9 ⟨rfl, hp9, hrow9, hbut⟩
    clear f0 f1 x0 x1 x2 x3 g0 g1 g1'
    have HPN := Lib.hid hp9; clear hp9
    have HBN := Lib.hid (HB5.out.trans (hbut.below hWp (fun k e => by injection e with e; omega) hs5))
    have HRN := Lib.hid (by
      obtain ⟨A9, c9, e9, h9⟩ := hrow9.hat
      injection e9 with e9 _ _
      subst e9
      rw [← HCS.out] at h9
      exact h9 : RStep w9 W.heap.size (some ⟨b, 0, none⟩) m (chgS 2 s f.steps).1)
    clear hrow9 hbut
    have HRS := Lib.hid HRN.out
    have g0 := (blk_cl (k := 0) HPN.out rfl).1
    have g1 := (blk_cl (k := 1) HPN.out rfl).1
    have hs9 := HBN.out.size
    go_wp2_with fail
    refine (flowI_any (some ⟨b, 0, none⟩) m d4 ⟨f.ver + 1, (chgS 2 s f.steps).1⟩ _ _ HRS.out HOKC.out).mono ?_
    rintro e w10 ⟨rfl, hb10⟩
    have hb6 : Below W.heap.size W w10 := HBN.out.trans (hb10.mono hs9)
    have HR10 := Lib.hid (HRS.out.below hb10)
    have HN10 := Lib.hid ((hb10.block _ (heap_lt HPN.out)).trans HPN.out)
    clear g0 g1 hb10
    have g0 := (blk_cl (k := 0) HN10.out rfl).1
    have g1 := (blk_cl (k := 1) HN10.out rfl).1
    cases hg9 : flowB ⟨f.ver + 1, (chgS 2 s f.steps).1⟩
    · have HP := Lib.hid (chgB_g hg9)
      have HE := Lib.hid (chgF_no HP.out)
      have HZ9 := Lib.hid ((hb6.block _ (heap_lt HZ.out)).trans HZ.out)
      have z0 := (blk_cl (k := 0) HZ9.out rfl).1
      have z0' := (blk_cl (k := 0) HZ9.out rfl).2
      have z1 := (blk_cl (k := 1) HZ9.out rfl).1
      have z1' := (blk_cl (k := 1) HZ9.out rfl).2
      go_wp2_with fail
      have hres := set21 (u := .slice none 0 0) (set20 (u := .int .i64 0) HZ9.out)
      have e0 := (blk_cl (k := 0) hres rfl).1
      have e1 := (blk_cl (k := 1) hres rfl).1
      exact bodyPost_ret (v := .tuple #[.agg #[.int .i64 0, .slice none 0 0], .bool false]) (by simp [results, Tryz.results60, go_sem, e0, e1]) rfl ⟨none, 0, 0, by rw [HE.out, HP.out], fun h => by (rw [HP.out] at h; cases h), ((HBW.out.trans (hb6.mono HBW.out.size)).setCell (p := ⟨w.heap.size + 1 + 1, 0, none⟩) (by show w.heap.size ≤ w.heap.size + 1 + 1; omega) _).setCell (p := ⟨w.heap.size + 1 + 1, 1, none⟩) (by show w.heap.size ≤ w.heap.size + 1 + 1; omega) _⟩
    · have HP := Lib.hid (chgB_yes hf hst HCS2.out hg9)
      have HE := Lib.hid (chgF_yes HP.out)
      go_wp2_with fail
      refine (flowCloneC_any (some ⟨b, 0, none⟩) m d4 ⟨f.ver + 1, (chgS 2 s f.steps).1⟩ _ _ HR10.out HOKC.out).mono ?_
      rintro e w11 ⟨B11, d11, rfl, hrow11, hb11⟩
      have hb7 : Below W.heap.size W w11 := hb6.trans (hb11.mono hb6.size)
      have HZ9 := Lib.hid ((hb7.block _ (heap_lt HZ.out)).trans HZ.out)
      have z0 := (blk_cl (k := 0) HZ9.out rfl).1
      have z0' := (blk_cl (k := 0) HZ9.out rfl).2
      have z1 := (blk_cl (k := 1) HZ9.out rfl).1
      have z1' := (blk_cl (k := 1) HZ9.out rfl).2
      clear g0 g1
      go_wp2_with fail
      have hres := set21 (u := .slice B11 m d11) (set20 (u := .int .i64 (f.ver + 1)) HZ9.out)
      have e0 := (blk_cl (k := 0) hres rfl).1
      have e1 := (blk_cl (k := 1) hres rfl).1
      have hrow12 := ((hrow11.mono (show w.heap.size ≤ w10.heap.size by have := hb6.size; omega)).set (o := 0) (u := .int .i64 (f.ver + 1)) HZ9.out (by decide) (by decide)).set (o := 1) (u := .slice B11 m d11) (set20 (u := .int .i64 (f.ver + 1)) HZ9.out) (by decide) (by decide)
      exact bodyPost_ret (v := .tuple #[.agg #[.int .i64 (f.ver + 1), .slice B11 m d11], .bool true]) (by simp [results, Tryz.results60, go_sem, e0, e1]) rfl ⟨B11, m, d11, by rw [HE.out, HP.out], fun _ => by (rw [HE.out]; exact hrow12), ((HBW.out.trans (hb7.mono HBW.out.size)).setCell (p := ⟨w.heap.size + 1 + 1, 0, none⟩) (by show w.heap.size ≤ w.heap.size + 1 + 1; omega) _).setCell (p := ⟨w.heap.size + 1 + 1, 1, none⟩) (by show w.heap.size ≤ w.heap.size + 1 + 1; omega) _⟩
  by_cases hk3 : k = 3
  · subst hk3
    have HEQ : (⟨s.name, s.after, (nth f.steps (plc f.steps s.name)).undo⟩ : Step) = { nth f.steps (plc f.steps s.name) with after := s.after } := by
      show _ = Step.mk (nth f.steps (plc f.steps s.name)).name s.after (nth f.steps (plc f.steps s.name)).undo
      rw [hpn]
    have HCS := Lib.hid (show (chgS 3 s f.steps).1 = f.steps.set (plc f.steps s.name) { nth f.steps (plc f.steps s.name) with after := s.after } by
      rw [chgS_3 hhas rfl, ← HEQ]
      exact with_set (p := plc f.steps s.name) (by rw [HL.out]; exact hpl) HASC.out hpn)
    clear HEQ
    have HCS2 := Lib.hid (show (chgS 3 s f.steps).2 = true by rw [chgS_3 hhas rfl])
    obtain ⟨f0, f1, x0, x1, x2, x3⟩ := HSB.out _ HB4a.out
    have g0 := (blk_cl (k := 0) HP4.out rfl).1
    have g1 := (blk_cl (k := 1) HP4.out rfl).1
    go_wp2_with fail
    refine (at_any (some ⟨b, 0, none⟩) n d4 (f.ver + 1) f.steps s.name _ _ HST4.out hn20).mono ?_
    rintro e w5 ⟨rfl, hb5⟩
    rw [hix]
    clear f0 f1 x0 x1 x2 x3 g0 g1
    have HB5 := Lib.hid (HB4a.out.trans (hb5.mono HB4a.out.size))
    have HP5 := Lib.hid ((hb5.block _ hpl4).trans HP4.out)
    have HR5 := Lib.hid (HR4.out.below hb5)
    have hs5 := HB5.out.size
    have hpl5 := heap_lt HP5.out
    clear hb5
    obtain ⟨f0, f1, x0, x1, x2, x3⟩ := HSB.out _ HB5.out
    have g0 := (blk_cl (k := 0) HP5.out rfl).1
    have g1 := (blk_cl (k := 1) HP5.out rfl).1
    have g1' := (blk_cl (k := 1) HP5.out rfl).2
    have HST5 := Lib.hid (by
      obtain ⟨A9, c9, e9, h9⟩ := HR5.out.hat
      injection e9 with e9 _ _
      subst e9
      exact h9 : RStep w5 W.heap.size (some ⟨b, 0, none⟩) n f.steps)
    obtain ⟨b', off', e', ⟨hbb5, hbl5⟩, hcs⟩ := RStep.at_ HST5.out hpl
    injection e' with e'; injection e' with e1 e2
    subst e1; subst e2
    obtain ⟨A', n', c', ⟨s0, s1, s2⟩, _, s0', s1', s2'⟩ := hcs (plc f.steps s.name) hpl
    rw [Nat.zero_add] at s0 s1 s2 s0' s1' s2'
    clear hcs
    have hp0 : (0 : Int) ≤ (plc f.steps s.name : Int) := by omega
    have hp1 : (plc f.steps s.name : Int) < (n : Int) := by omega
    have hbq : b ≠ q := fun e => by
      have := HR5.out.ne HP5.out (by decide)
      exact this (by rw [e]; rfl)
    have HG5 := Lib.hid (HGW.out.below HB5.out)
    have hng : ng ≤ 1048576 := by rw [← HGW.out.1]; exact HOS.out.2.1
    have HS8 : Hid (∀ w', Below w5.heap.size w5 w' → (fun w' : World => w'.cell? ⟨q, 1, none⟩ = some (.slice (some ⟨b, 0, none⟩) n d4) ∧ w'.cell? ⟨w.heap.size + 1, 2, none⟩ = some (.slice G ng cg)) w') := Lib.hid (fun w' h => by
      obtain ⟨_, _, _, _, b, _⟩ := HSB.out _ (HB5.out.trans (h.mono hs5))
      exact ⟨(blk_cl (k := 1) ((h.block _ hpl5).trans HP5.out) rfl).1, b⟩)
    have HKF : Hid (∀ w' o u, (fun w' : World => w'.cell? ⟨q, 1, none⟩ = some (.slice (some ⟨b, 0, none⟩) n d4) ∧ w'.cell? ⟨w.heap.size + 1, 2, none⟩ = some (.slice G ng cg)) w' → (fun w' : World => w'.cell? ⟨q, 1, none⟩ = some (.slice (some ⟨b, 0, none⟩) n d4) ∧ w'.cell? ⟨w.heap.size + 1, 2, none⟩ = some (.slice G ng cg)) (w'.setCell ⟨b, o, none⟩ u)) := Lib.hid (fun w' o u h => ⟨(World.cell?_setCell_other _ _ _ _ (fun e => by injection e; omega)).trans h.1, (World.cell?_setCell_other _ _ _ _ (fun e => by injection e; omega)).trans h.2⟩)
    go_upto_region 13 with fail
    clear f0 f1 x0 x1 x2 x3 g0 g1 g1' s0 s2 s0' s2'
    have HS1 := Lib.hid s1; clear s1
    have HS1' := Lib.hid s1'; clear s1'
    go_wp2_with fail
    go_region_held3 (fun w' : World => w'.cell? ⟨q, 1, none⟩ = some (.slice (some ⟨b, 0, none⟩) n d4) ∧ w'.cell? ⟨w.heap.size + 1, 2, none⟩ = some (.slice G ng cg))
      (first | exact HS8.out _ (Below.refl _ _).drew | exact HS8.out _ hbw | exact HKF.out _ _ _ (HS8.out _ hbw) | exact HKF.out _ _ _ hk7 | fail "keep")
      (first
        | (go_at_call 90; refine (cloneNames_any _ _ _ s.after _ _ (HG5.out.below (Below.refl _ _).drew) hng).mono ?_; rintro e w6 ⟨v6, rfl, how6⟩; have hbw : Below w5.heap.size w5 w6 := (Below.refl w5.heap.size w5).drew.trans how6.below; obtain ⟨A6, c6, rfl, hss6⟩ := own_sstr how6.row; have y1 := (hbw.cell (p := ⟨b, plc f.steps s.name * 3 + 1, none⟩) hbl5).trans HS1.out; have y1' : w6.frozen? ⟨b, plc f.steps s.name * 3 + 1, none⟩ = false := (World.frozen?_of_block (w := w5) (a := ⟨b, plc f.steps s.name * 3 + 1, none⟩) (hbw.block b hbl5)).trans HS1'.out)
        | fail "no arm")
    clear y1 y1'
    have HPN := Lib.hid (set_ne (b := b) (o := plc f.steps s.name * 3 + 1) (u := .slice A6 ng c6) ((hbw.block _ hpl5).trans HP5.out) (Ne.symm hbq))
    have HBN := Lib.hid ((HB5.out.trans (hbw.mono hs5)).setCell (p := ⟨b, plc f.steps s.name * 3 + 1, none⟩) hbb5 (.slice A6 ng c6))
    have HRN := Lib.hid (by
      have h9 := RStep.setAfter (d := c6) (HST5.out.below hbw) hpl (hss6.mono (show W.heap.size ≤ w5.drew.heap.size from hs5)).hat
      rw [Nat.zero_add, ← HCS.out] at h9
      exact h9 : RStep (w6.setCell ⟨b, plc f.steps s.name * 3 + 1, none⟩ (.slice A6 ng c6)) W.heap.size (some ⟨b, 0, none⟩) n (chgS 3 s f.steps).1)
    clear hbw hss6 how6
    have HRS := Lib.hid HRN.out
    have g0 := (blk_cl (k := 0) HPN.out rfl).1
    have g1 := (blk_cl (k := 1) HPN.out rfl).1
    have hs9 := HBN.out.size
    go_wp2_with fail
    refine (flowI_any (some ⟨b, 0, none⟩) n d4 ⟨f.ver + 1, (chgS 3 s f.steps).1⟩ _ _ HRS.out HOKC.out).mono ?_
    rintro e w10 ⟨rfl, hb10⟩
    have hb6 : Below W.heap.size W w10 := HBN.out.trans (hb10.mono hs9)
    have HR10 := Lib.hid (HRS.out.below hb10)
    have HN10 := Lib.hid ((hb10.block _ (heap_lt HPN.out)).trans HPN.out)
    clear g0 g1 hb10
    have g0 := (blk_cl (k := 0) HN10.out rfl).1
    have g1 := (blk_cl (k := 1) HN10.out rfl).1
    cases hg9 : flowB ⟨f.ver + 1, (chgS 3 s f.steps).1⟩
    · have HP := Lib.hid (chgB_g hg9)
      have HE := Lib.hid (chgF_no HP.out)
      have HZ9 := Lib.hid ((hb6.block _ (heap_lt HZ.out)).trans HZ.out)
      have z0 := (blk_cl (k := 0) HZ9.out rfl).1
      have z0' := (blk_cl (k := 0) HZ9.out rfl).2
      have z1 := (blk_cl (k := 1) HZ9.out rfl).1
      have z1' := (blk_cl (k := 1) HZ9.out rfl).2
      go_wp2_with fail
      have hres := set21 (u := .slice none 0 0) (set20 (u := .int .i64 0) HZ9.out)
      have e0 := (blk_cl (k := 0) hres rfl).1
      have e1 := (blk_cl (k := 1) hres rfl).1
      exact bodyPost_ret (v := .tuple #[.agg #[.int .i64 0, .slice none 0 0], .bool false]) (by simp [results, Tryz.results60, go_sem, e0, e1]) rfl ⟨none, 0, 0, by rw [HE.out, HP.out], fun h => by (rw [HP.out] at h; cases h), ((HBW.out.trans (hb6.mono HBW.out.size)).setCell (p := ⟨w.heap.size + 1 + 1, 0, none⟩) (by show w.heap.size ≤ w.heap.size + 1 + 1; omega) _).setCell (p := ⟨w.heap.size + 1 + 1, 1, none⟩) (by show w.heap.size ≤ w.heap.size + 1 + 1; omega) _⟩
    · have HP := Lib.hid (chgB_yes hf hst HCS2.out hg9)
      have HE := Lib.hid (chgF_yes HP.out)
      go_wp2_with fail
      refine (flowCloneC_any (some ⟨b, 0, none⟩) n d4 ⟨f.ver + 1, (chgS 3 s f.steps).1⟩ _ _ HR10.out HOKC.out).mono ?_
      rintro e w11 ⟨B11, d11, rfl, hrow11, hb11⟩
      have hb7 : Below W.heap.size W w11 := hb6.trans (hb11.mono hb6.size)
      have HZ9 := Lib.hid ((hb7.block _ (heap_lt HZ.out)).trans HZ.out)
      have z0 := (blk_cl (k := 0) HZ9.out rfl).1
      have z0' := (blk_cl (k := 0) HZ9.out rfl).2
      have z1 := (blk_cl (k := 1) HZ9.out rfl).1
      have z1' := (blk_cl (k := 1) HZ9.out rfl).2
      clear g0 g1
      go_wp2_with fail
      have hres := set21 (u := .slice B11 n d11) (set20 (u := .int .i64 (f.ver + 1)) HZ9.out)
      have e0 := (blk_cl (k := 0) hres rfl).1
      have e1 := (blk_cl (k := 1) hres rfl).1
      have hrow12 := ((hrow11.mono (show w.heap.size ≤ w10.heap.size by have := hb6.size; omega)).set (o := 0) (u := .int .i64 (f.ver + 1)) HZ9.out (by decide) (by decide)).set (o := 1) (u := .slice B11 n d11) (set20 (u := .int .i64 (f.ver + 1)) HZ9.out) (by decide) (by decide)
      exact bodyPost_ret (v := .tuple #[.agg #[.int .i64 (f.ver + 1), .slice B11 n d11], .bool true]) (by simp [results, Tryz.results60, go_sem, e0, e1]) rfl ⟨B11, n, d11, by rw [HE.out, HP.out], fun _ => by (rw [HE.out]; exact hrow12), ((HBW.out.trans (hb7.mono HBW.out.size)).setCell (p := ⟨w.heap.size + 1 + 1, 0, none⟩) (by show w.heap.size ≤ w.heap.size + 1 + 1; omega) _).setCell (p := ⟨w.heap.size + 1 + 1, 1, none⟩) (by show w.heap.size ≤ w.heap.size + 1 + 1; omega) _⟩
  have hk4 : k = 4 := by omega
  subst hk4
  have HEQ : (⟨s.name, (nth f.steps (plc f.steps s.name)).after, s.undo⟩ : Step) = { nth f.steps (plc f.steps s.name) with undo := s.undo } := by
    show _ = Step.mk (nth f.steps (plc f.steps s.name)).name (nth f.steps (plc f.steps s.name)).after s.undo
    rw [hpn]
  have HCS := Lib.hid (show (chgS 4 s f.steps).1 = f.steps.set (plc f.steps s.name) { nth f.steps (plc f.steps s.name) with undo := s.undo } by
    rw [chgS_4 hhas rfl, ← HEQ]
    exact with_set (p := plc f.steps s.name) (by rw [HL.out]; exact hpl) HASC.out hpn)
  clear HEQ
  have HCS2 := Lib.hid (show (chgS 4 s f.steps).2 = true by rw [chgS_4 hhas rfl])
  obtain ⟨f0, f1, x0, x1, x2, x3⟩ := HSB.out _ HB4a.out
  have g0 := (blk_cl (k := 0) HP4.out rfl).1
  have g1 := (blk_cl (k := 1) HP4.out rfl).1
  go_wp2_with fail
  refine (at_any (some ⟨b, 0, none⟩) n d4 (f.ver + 1) f.steps s.name _ _ HST4.out hn20).mono ?_
  rintro e w5 ⟨rfl, hb5⟩
  rw [hix]
  clear f0 f1 x0 x1 x2 x3 g0 g1
  have HB5 := Lib.hid (HB4a.out.trans (hb5.mono HB4a.out.size))
  have HP5 := Lib.hid ((hb5.block _ hpl4).trans HP4.out)
  have HR5 := Lib.hid (HR4.out.below hb5)
  have hs5 := HB5.out.size
  have hpl5 := heap_lt HP5.out
  clear hb5
  obtain ⟨f0, f1, x0, x1, x2, x3⟩ := HSB.out _ HB5.out
  have g0 := (blk_cl (k := 0) HP5.out rfl).1
  have g1 := (blk_cl (k := 1) HP5.out rfl).1
  have g1' := (blk_cl (k := 1) HP5.out rfl).2
  have HST5 := Lib.hid (by
    obtain ⟨A9, c9, e9, h9⟩ := HR5.out.hat
    injection e9 with e9 _ _
    subst e9
    exact h9 : RStep w5 W.heap.size (some ⟨b, 0, none⟩) n f.steps)
  obtain ⟨b', off', e', ⟨hbb5, hbl5⟩, hcs⟩ := RStep.at_ HST5.out hpl
  injection e' with e'; injection e' with e1 e2
  subst e1; subst e2
  obtain ⟨A', n', c', ⟨s0, s1, s2⟩, _, s0', s1', s2'⟩ := hcs (plc f.steps s.name) hpl
  rw [Nat.zero_add] at s0 s1 s2 s0' s1' s2'
  clear hcs
  have hp0 : (0 : Int) ≤ (plc f.steps s.name : Int) := by omega
  have hp1 : (plc f.steps s.name : Int) < (n : Int) := by omega
  have hbq : b ≠ q := fun e => by
    have := HR5.out.ne HP5.out (by decide)
    exact this (by rw [e]; rfl)
  go_upto_region 16 with fail
  clear f0 f1 x0 x1 x2 x3 g0 g1 g1' s0 s1 s2 s0' s1' s2'
  have HPN := Lib.hid (set_ne (b := b) (o := plc f.steps s.name * 3 + 2) (u := .bool s.undo) HP5.out (Ne.symm hbq))
  have HBN := Lib.hid (HB5.out.setCell (p := ⟨b, plc f.steps s.name * 3 + 2, none⟩) hbb5 (.bool s.undo))
  have HRN := Lib.hid (by
    have h9 := RStep.setUndo HST5.out hpl s.undo
    rw [Nat.zero_add, ← HCS.out] at h9
    exact h9 : RStep (w5.setCell ⟨b, plc f.steps s.name * 3 + 2, none⟩ (.bool s.undo)) W.heap.size (some ⟨b, 0, none⟩) n (chgS 4 s f.steps).1)
  have HRS := Lib.hid HRN.out
  have g0 := (blk_cl (k := 0) HPN.out rfl).1
  have g1 := (blk_cl (k := 1) HPN.out rfl).1
  have hs9 := HBN.out.size
  go_wp2_with fail
  refine (flowI_any (some ⟨b, 0, none⟩) n d4 ⟨f.ver + 1, (chgS 4 s f.steps).1⟩ _ _ HRS.out HOKC.out).mono ?_
  rintro e w10 ⟨rfl, hb10⟩
  have hb6 : Below W.heap.size W w10 := HBN.out.trans (hb10.mono hs9)
  have HR10 := Lib.hid (HRS.out.below hb10)
  have HN10 := Lib.hid ((hb10.block _ (heap_lt HPN.out)).trans HPN.out)
  clear g0 g1 hb10
  have g0 := (blk_cl (k := 0) HN10.out rfl).1
  have g1 := (blk_cl (k := 1) HN10.out rfl).1
  cases hg9 : flowB ⟨f.ver + 1, (chgS 4 s f.steps).1⟩
  · have HP := Lib.hid (chgB_g hg9)
    have HE := Lib.hid (chgF_no HP.out)
    have HZ9 := Lib.hid ((hb6.block _ (heap_lt HZ.out)).trans HZ.out)
    have z0 := (blk_cl (k := 0) HZ9.out rfl).1
    have z0' := (blk_cl (k := 0) HZ9.out rfl).2
    have z1 := (blk_cl (k := 1) HZ9.out rfl).1
    have z1' := (blk_cl (k := 1) HZ9.out rfl).2
    go_wp2_with fail
    have hres := set21 (u := .slice none 0 0) (set20 (u := .int .i64 0) HZ9.out)
    have e0 := (blk_cl (k := 0) hres rfl).1
    have e1 := (blk_cl (k := 1) hres rfl).1
    exact bodyPost_ret (v := .tuple #[.agg #[.int .i64 0, .slice none 0 0], .bool false]) (by simp [results, Tryz.results60, go_sem, e0, e1]) rfl ⟨none, 0, 0, by rw [HE.out, HP.out], fun h => by (rw [HP.out] at h; cases h), ((HBW.out.trans (hb6.mono HBW.out.size)).setCell (p := ⟨w.heap.size + 1 + 1, 0, none⟩) (by show w.heap.size ≤ w.heap.size + 1 + 1; omega) _).setCell (p := ⟨w.heap.size + 1 + 1, 1, none⟩) (by show w.heap.size ≤ w.heap.size + 1 + 1; omega) _⟩
  · have HP := Lib.hid (chgB_yes hf hst HCS2.out hg9)
    have HE := Lib.hid (chgF_yes HP.out)
    go_wp2_with fail
    refine (flowCloneC_any (some ⟨b, 0, none⟩) n d4 ⟨f.ver + 1, (chgS 4 s f.steps).1⟩ _ _ HR10.out HOKC.out).mono ?_
    rintro e w11 ⟨B11, d11, rfl, hrow11, hb11⟩
    have hb7 : Below W.heap.size W w11 := hb6.trans (hb11.mono hb6.size)
    have HZ9 := Lib.hid ((hb7.block _ (heap_lt HZ.out)).trans HZ.out)
    have z0 := (blk_cl (k := 0) HZ9.out rfl).1
    have z0' := (blk_cl (k := 0) HZ9.out rfl).2
    have z1 := (blk_cl (k := 1) HZ9.out rfl).1
    have z1' := (blk_cl (k := 1) HZ9.out rfl).2
    clear g0 g1
    go_wp2_with fail
    have hres := set21 (u := .slice B11 n d11) (set20 (u := .int .i64 (f.ver + 1)) HZ9.out)
    have e0 := (blk_cl (k := 0) hres rfl).1
    have e1 := (blk_cl (k := 1) hres rfl).1
    have hrow12 := ((hrow11.mono (show w.heap.size ≤ w10.heap.size by have := hb6.size; omega)).set (o := 0) (u := .int .i64 (f.ver + 1)) HZ9.out (by decide) (by decide)).set (o := 1) (u := .slice B11 n d11) (set20 (u := .int .i64 (f.ver + 1)) HZ9.out) (by decide) (by decide)
    exact bodyPost_ret (v := .tuple #[.agg #[.int .i64 (f.ver + 1), .slice B11 n d11], .bool true]) (by simp [results, Tryz.results60, go_sem, e0, e1]) rfl ⟨B11, n, d11, by rw [HE.out, HP.out], fun _ => by (rw [HE.out]; exact hrow12), ((HBW.out.trans (hb7.mono HBW.out.size)).setCell (p := ⟨w.heap.size + 1 + 1, 0, none⟩) (by show w.heap.size ≤ w.heap.size + 1 + 1; omega) _).setCell (p := ⟨w.heap.size + 1 + 1, 1, none⟩) (by show w.heap.size ≤ w.heap.size + 1 + 1; omega) _⟩

end Go.Proofs.YthdfefgianokgaaGreatDoor

/- What is next, in all states: both sides. -/
namespace Go.Proofs.YthdfefgianokgaaGreatDoor
open Go.RowKit

def nextL (f : Flow) (st : Int) (done : List Str) : List Str :=
  if runB f st done = true then (if st = 0 then rdyL f.steps done else if st = 1 then [nth done (done.length - 1)] else []) else []
theorem next_no {f : Flow} {st : Int} {done : List Str} (h : runB f st done = false) : nextL f st done = [] := by unfold nextL; rw [if_neg (by rw [h]; simp)]
theorem next_0 {f : Flow} {done : List Str} (h : runB f 0 done = true) : nextL f 0 done = rdyL f.steps done := by unfold nextL; rw [if_pos h, if_pos rfl]
theorem next_1 {f : Flow} {done : List Str} {k : Nat} (h : runB f 1 done = true) (hk : done.length = k + 1) : nextL f 1 done = [nth done k] := by unfold nextL; rw [if_pos h, if_neg (by decide), if_pos rfl, hk]; rfl
theorem next_2 {f : Flow} {st : Int} {done : List Str} (h0 : st ≠ 0) (h1 : st ≠ 1) : nextL f st done = [] := by
  unfold nextL
  simp [h0, h1]

set_option maxRecDepth 100000 in
theorem readyC_any (A B : Option Addr) (n c m d : Nat) (ver : Int) (ss : List Step) (done : List Str) (lo lo' : Nat) (w : World) (hr : RStep w lo A n ss) (hok : okSteps ss) (hd : RStr w lo' B m done) (hm : m ≤ 1048576) :
    Calls Tryz.prog 64 #[.agg #[.int .i64 ver, .slice A n c], .slice B m d] w fun e w' => ∃ A' n' c', e = .returned (.slice A' n' c') ∧ RStr w' w.heap.size A' n' (rdyL ss done) ∧ Below w.heap.size w w' ∧ n' ≤ c' := by
  have hn : n ≤ 1048576 := by have := hok.1; rw [hr.1] at this; exact this
  have HO := Lib.hid hok; clear hok
  have HR := Lib.hid hr; clear hr
  have HD := Lib.hid hd; clear hd
  go_enter Tryz.func64, Tryz.ntmps64
  go_wp2_with fail
  go_loopw [5, 11] (fun v i wr => ∃ k q : Nat, k ≤ n ∧ i = .int .i64 k ∧ q ≤ k ∧ Own 9 1 w wr v q ((rdyTo ss done k).map Value.string)) (fun _ i _ => n - (intOf i).toNat)
  case atStart => exact ⟨0, 0, Nat.zero_le _, rfl, Nat.le_refl _, ⟨World.ownsRow_nil _ _ _ _, (Below.refl _ _).alloc (Nat.le_refl _) _⟩⟩
  case round =>
    obtain ⟨k, q, hk, rfl, hq, how⟩ := hrel
    have HW := Lib.hid how; clear how
    by_cases hlt : k < n
    · obtain ⟨b, off, rfl, ⟨_, hbr⟩, hc⟩ := RStep.at_ (HR.out.below HW.out.below) hlt
      obtain ⟨A', n', c', ⟨c1, c2, c3⟩, ha, _⟩ := hc k hlt
      clear hc
      have HL := Lib.hid (show k < ss.length by rw [HR.out.1]; exact hlt)
      have hn' : n' ≤ 1048576 := by have := (HO.out.2 k HL.out).2.1; rw [ha.1] at this; exact this
      have HA := Lib.hid (ha.alloc (.cells #[.string (nth ss k).name, .slice A' n' c', .bool (nth ss k).undo] 35)); clear ha
      have HDW := Lib.hid ((HD.out.below HW.out.below).alloc (.cells #[.string (nth ss k).name, .slice A' n' c', .bool (nth ss k).undo] 35))
      rcases rdyB_ways done (nth ss k) with ⟨h1, h2⟩ | ⟨h1, h2⟩
      · have HT := Lib.hid (rdyTo_no HL.out h2); clear h2
        go_wp2_with (go_at_call 67; refine (contains_any _ _ _ done _ _ _ HDW.out hm).mono ?_; rintro e w' ⟨rfl, rfl⟩)
        go_roundw
        case rel => exact ⟨k + 1, q, by omega, by go_num, by omega, by rw [HT.out]; exact HW.out.alloc _⟩
        case measure => simp [intOf]; omega
      · have H2 := Lib.hid h2; clear h2
        cases h4 : haveB done (nth ss k).after
        · have HT := Lib.hid (rdyTo_no HL.out (H2.out.symm.trans h4))
          go_wp2_with (first | (go_at_call 67; refine (contains_any _ _ _ done _ _ _ HDW.out hm).mono ?_; rintro e w' ⟨rfl, rfl⟩) | (go_at_call 104; refine (namesHave_any _ _ _ _ _ _ done _ _ _ _ HDW.out hm HA.out hn').mono ?_; rintro e w' ⟨rfl, rfl⟩))
          go_roundw
          case rel => exact ⟨k + 1, q, by omega, by go_num, by omega, by rw [HT.out]; exact HW.out.alloc _⟩
          case measure => simp [intOf]; omega
        · have HT := Lib.hid (rdyTo_yes HL.out (H2.out.symm.trans h4))
          go_wp2_with (first | (go_at_call 67; refine (contains_any _ _ _ done _ _ _ HDW.out hm).mono ?_; rintro e w' ⟨rfl, rfl⟩) | (go_at_call 104; refine (namesHave_any _ _ _ _ _ _ done _ _ _ _ HDW.out hm HA.out hn').mono ?_; rintro e w' ⟨rfl, rfl⟩) | (at_builtin; refine app_str w _ q (rdyTo ss done k) _ (nth ss k).name ?c0 rfl (.tmp 26) (.tmp 29) rfl rfl rfl ?c1 (by omega) ?_))
          case c0 => exact (HW.out.alloc _).alloc _
          case c1 => exact heap_new (by simp)
          intro v' w' how' hg'
          go_wp2_with fail
          go_roundw
          case rel => exact ⟨k + 1, q + 1, by omega, by go_num, by omega, by rw [HT.out, List.map_append]; exact how'⟩
          case measure => simp [intOf]; omega
    · go_wp2_with fail
      go_ret
      obtain ⟨A', c', rfl, hrs⟩ := own_str HW.out.row
      have hle := row_cap HW.out.row
      rw [rdyTo_all (by rw [HR.out.1]; omega)] at hrs
      exact ⟨_, _, _, rfl, hrs, HW.out.below, hle⟩

set_option maxRecDepth 100000 in
set_option maxHeartbeats 1000000 in
theorem nextS_any (A B : Option Addr) (n c m d : Nat) (f : Flow) (st : Int) (done : List Str) (lo lo' : Nat) (w : World) (hr : RStep w lo A n f.steps) (hok : okSteps f.steps) (hd : RStr w lo' B m done) (hm : m ≤ 1048576) (hmd : m ≤ d) :
    Calls Tryz.prog 45 #[.agg #[.int .i64 f.ver, .slice A n c], .agg #[.int .i64 st, .slice B m d]] w fun e w' => ∃ A' n' c', e = .returned (.slice A' n' c') ∧ RStr w' w.heap.size A' n' (nextL f st done) ∧ Below w.heap.size w w' := by
  have HO := Lib.hid hok; clear hok
  have HL := Lib.hid hd.1
  have HX0 := Lib.hid (heap_old (o := .cells #[.int .i64 st, .slice B m d] 40) (heap_new (w := w) (o := .cells #[.int .i64 f.ver, .slice A n c] 38) rfl))
  have HY0 := Lib.hid (heap_new (w := w.alloc (.cells #[.int .i64 f.ver, .slice A n c] 38)) (b := w.heap.size + 1) (o := .cells #[.int .i64 st, .slice B m d] 40) (by simp))
  have HB0 := Lib.hid (((Below.refl w.heap.size w).alloc (Nat.le_refl _) (.cells #[.int .i64 f.ver, .slice A n c] 38)).alloc (by simp) (.cells #[.int .i64 st, .slice B m d] 40))
  have HR := Lib.hid ((hr.alloc (.cells #[.int .i64 f.ver, .slice A n c] 38)).alloc (.cells #[.int .i64 st, .slice B m d] 40)); clear hr
  have HD := Lib.hid ((hd.alloc (.cells #[.int .i64 f.ver, .slice A n c] 38)).alloc (.cells #[.int .i64 st, .slice B m d] 40)); clear hd
  go_enter Tryz.func45, Tryz.ntmps45
  go_wp2_with fail
  refine (runS_any _ _ _ _ _ _ f st done _ _ _ HR.out HO.out HD.out hm hmd).mono ?_
  rintro e w1 ⟨rfl, hb⟩
  have HX1 := Lib.hid ((hb.block _ (heap_lt HX0.out)).trans HX0.out)
  have HY1 := Lib.hid ((hb.block _ (heap_lt HY0.out)).trans HY0.out)
  have HB1 := Lib.hid (HB0.out.trans (hb.mono HB0.out.size))
  have HR1 := Lib.hid (HR.out.below hb)
  have HD1 := Lib.hid (HD.out.below hb)
  have hs1 := HB1.out.size
  clear hb
  have x0 := (blk_cl (k := 0) HX1.out rfl).1
  have x1 := (blk_cl (k := 1) HX1.out rfl).1
  have y0 := (blk_cl (k := 0) HY1.out rfl).1
  have y1 := (blk_cl (k := 1) HY1.out rfl).1
  cases hrun : runB f st done
  · have HE := Lib.hid (next_no hrun)
    clear hrun
    go_wp2_with fail
    go_ret
    exact ⟨_, 0, _, rfl, by rw [HE.out]; exact RL.nil, HB1.out.alloc hs1 _⟩
  by_cases h0 : st = 0
  · subst h0
    have HE := Lib.hid (next_0 hrun)
    have HF := Lib.hid (readyF_yes (done := done) (run_flow hrun))
    clear hrun
    go_wp2_with fail
    refine (flowReadyS_any _ _ _ _ _ _ f done _ _ _ HR1.out HO.out HD1.out hm).mono ?_
    rintro e w2 ⟨A2, n2, c2, rfl, h2, hb2⟩
    rw [HF.out, ← HE.out] at h2
    go_wp2_with fail
    go_ret
    exact ⟨_, _, _, rfl, h2.lower hs1, HB1.out.trans (hb2.mono hs1)⟩
  by_cases h1 : st = 1
  · subst h1
    obtain ⟨k, hk⟩ : ∃ k, done.length = k + 1 := ⟨done.length - 1, by
      unfold runB at hrun
      simp at hrun
      omega⟩
    have HE := Lib.hid (next_1 hrun hk)
    clear hrun
    obtain rfl : m = k + 1 := by rw [← HL.out, hk]
    obtain ⟨b, off, rfl, _, hcc⟩ := RStr.at_ HD1.out (show k < k + 1 by omega)
    have z0 := (hcc k (by omega)).1
    clear hcc
    generalize nth done k = x at *
    have hk1 : (k : Int) < (k : Int) + 1 := by omega
    go_wp2_with fail
    go_ret
    exact ⟨_, 1, _, rfl, by rw [HE.out]; exact (lit_str [x] 1 rfl rfl).lower hs1, HB1.out.alloc hs1 _⟩
  · have q0 : (st == 0) = false := by rw [beq_eq_false_iff_ne]; exact h0
    have q1 : (st == 1) = false := by rw [beq_eq_false_iff_ne]; exact h1
    have HE := Lib.hid (next_2 (f := f) (done := done) h0 h1)
    clear hrun h0 h1
    go_wp2_with fail
    go_ret
    exact ⟨_, 0, _, rfl, by rw [HE.out]; exact RL.nil, HB1.out.alloc hs1 _⟩

set_option maxRecDepth 100000 in
set_option maxHeartbeats 1000000 in
theorem nextI_any (A B : Option Addr) (n c m d : Nat) (f : Flow) (st : Int) (done : List Str) (lo lo' : Nat) (w : World) (hr : RStep w lo A n f.steps) (hok : okSteps f.steps) (hd : RStr w lo' B m done) (hm : m ≤ 1048576) (hmd : m ≤ d) :
    Calls Tryz.prog 38 #[.agg #[.int .i64 f.ver, .slice A n c], .agg #[.int .i64 st, .slice B m d]] w fun e w' => ∃ A' n' c', e = .returned (.slice A' n' c') ∧ RStr w' w.heap.size A' n' (nextL f st done) ∧ Below w.heap.size w w' ∧ n' ≤ c' := by
  have HO := Lib.hid hok; clear hok
  have HL := Lib.hid hd.1
  have HX0 := Lib.hid (heap_old (o := .cells #[.int .i64 st, .slice B m d] 40) (heap_new (w := w) (o := .cells #[.int .i64 f.ver, .slice A n c] 38) rfl))
  have HY0 := Lib.hid (heap_new (w := w.alloc (.cells #[.int .i64 f.ver, .slice A n c] 38)) (b := w.heap.size + 1) (o := .cells #[.int .i64 st, .slice B m d] 40) (by simp))
  have HB0 := Lib.hid (((Below.refl w.heap.size w).alloc (Nat.le_refl _) (.cells #[.int .i64 f.ver, .slice A n c] 38)).alloc (by simp) (.cells #[.int .i64 st, .slice B m d] 40))
  have HR := Lib.hid ((hr.alloc (.cells #[.int .i64 f.ver, .slice A n c] 38)).alloc (.cells #[.int .i64 st, .slice B m d] 40)); clear hr
  have HD := Lib.hid ((hd.alloc (.cells #[.int .i64 f.ver, .slice A n c] 38)).alloc (.cells #[.int .i64 st, .slice B m d] 40)); clear hd
  go_enter Tryz.func38, Tryz.ntmps38
  go_wp2_with fail
  refine (runI_any _ _ _ _ _ _ f st done _ _ _ HR.out HO.out HD.out hm hmd).mono ?_
  rintro e w1 ⟨rfl, hb⟩
  have HX1 := Lib.hid ((hb.block _ (heap_lt HX0.out)).trans HX0.out)
  have HY1 := Lib.hid ((hb.block _ (heap_lt HY0.out)).trans HY0.out)
  have HB1 := Lib.hid (HB0.out.trans (hb.mono HB0.out.size))
  have HR1 := Lib.hid (HR.out.below hb)
  have HD1 := Lib.hid (HD.out.below hb)
  have hs1 := HB1.out.size
  clear hb
  have x0 := (blk_cl (k := 0) HX1.out rfl).1
  have x1 := (blk_cl (k := 1) HX1.out rfl).1
  have y0 := (blk_cl (k := 0) HY1.out rfl).1
  have y1 := (blk_cl (k := 1) HY1.out rfl).1
  cases hrun : runB f st done
  · have HE := Lib.hid (next_no hrun)
    clear hrun
    go_wp2_with fail
    go_ret
    exact ⟨_, 0, _, rfl, by rw [HE.out]; exact RL.nil, HB1.out, Nat.le_refl _⟩
  by_cases h0 : st = 0
  · subst h0
    have HE := Lib.hid (next_0 hrun)
    clear hrun
    go_wp2_with fail
    refine (readyC_any _ _ _ _ _ _ f.ver f.steps done _ _ _ HR1.out HO.out HD1.out hm).mono ?_
    rintro e w2 ⟨A2, n2, c2, rfl, h2, hb2, hle⟩
    rw [← HE.out] at h2
    go_wp2_with fail
    go_ret
    exact ⟨_, _, _, rfl, h2.lower hs1, HB1.out.trans (hb2.mono hs1), hle⟩
  by_cases h1 : st = 1
  · subst h1
    obtain ⟨k, hk⟩ : ∃ k, done.length = k + 1 := ⟨done.length - 1, by
      unfold runB at hrun
      simp at hrun
      omega⟩
    have HE := Lib.hid (next_1 hrun hk)
    clear hrun
    obtain rfl : m = k + 1 := by rw [← HL.out, hk]
    obtain ⟨b, off, rfl, _, hcc⟩ := RStr.at_ HD1.out (show k < k + 1 by omega)
    have z0 := (hcc k (by omega)).1
    clear hcc
    generalize nth done k = x at *
    have hk1 : (k : Int) < (k : Int) + 1 := by omega
    go_wp2_with fail
    go_ret
    exact ⟨_, 1, _, rfl, by rw [HE.out]; exact (lit_str [x] 1 rfl rfl).lower hs1, HB1.out.alloc hs1 _, Nat.le_refl _⟩
  · have q0 : (st == 0) = false := by rw [beq_eq_false_iff_ne]; exact h0
    have q1 : (st == 1) = false := by rw [beq_eq_false_iff_ne]; exact h1
    have HE := Lib.hid (next_2 (f := f) (done := done) h0 h1)
    clear hrun h0 h1
    go_wp2_with fail
    go_ret
    exact ⟨_, 0, _, rfl, by rw [HE.out]; exact RL.nil, HB1.out, Nat.le_refl _⟩
end Go.Proofs.YthdfefgianokgaaGreatDoor

/- What a script does. No program in sight. -/
namespace Go.Proofs.YthdfefgianokgaaGreatDoor

/-- A flow, and what its run has come to. -/
abbrev St := Flow × (Int × List Str)
def kindW (s : Str) : Int := if s = ⟨#[100, 111]⟩ then 1 else if s = ⟨#[102, 97, 105, 108]⟩ then 2 else if s = ⟨#[117, 110, 100, 111]⟩ then 3 else 0
def chgW (s : Str) : Int := if s = ⟨#[97, 100, 100]⟩ then 1 else if s = ⟨#[100, 114, 111, 112]⟩ then 2 else if s = ⟨#[97, 102, 116, 101, 114]⟩ then 3 else if s = ⟨#[109, 97, 114, 107]⟩ then 4 else 0
def noT : Str := ⟨#[110, 111, 10]⟩
def okT : Str := ⟨#[111, 107, 10]⟩
def whatT : Str := ⟨#[119, 104, 97, 116, 10]⟩
def staysT : Str := ⟨#[115, 116, 97, 121, 115, 10]⟩
def movedT : Str := ⟨#[109, 111, 118, 101, 100, 10]⟩
/-- A change of the flow. -/
def flowX (s : St) (k : Int) (t : Str) : St × Str :=
  if fromB t = false then (s, noT)
  else if chgB s.1 k (fromT t) = false then (s, noT)
  else if fitB s.1 (chgF s.1 k (fromT t)) s.2.1 s.2.2 = false then (s, staysT)
  else ((chgF s.1 k (fromT t), fitR s.1 (chgF s.1 k (fromT t)) s.2.1 s.2.2), movedT)
def newT : Str := ⟨#[110, 101, 119]⟩
def nextT : Str := ⟨#[110, 101, 120, 116]⟩
def showT : Str := ⟨#[115, 104, 111, 119]⟩
def oneX (s : St) (a : Str) : St × Str :=
  if a = newT then ((s.1, (0, [])), okT)
  else if a = nextT then (s, (⟨#[110, 101, 120, 116, 32]⟩ ++ namesS (nextL s.1 s.2.1 s.2.2)) ++ ⟨#[10]⟩)
  else if a = showT then (s, (flowTextS s.1 ++ rtT s.1 s.2.1 s.2.2) ++ ⟨#[10]⟩)
  else (s, whatT)
def twoX (s : St) (a b : Str) : St × Str :=
  if kindW a ≠ 0 then (if evB s.1 s.2.1 s.2.2 (kindW a) b = true then ((s.1, evR s.1 s.2.1 s.2.2 (kindW a) b), okT) else (s, noT))
  else if chgW a ≠ 0 then flowX s (chgW a) b
  else (s, whatT)
def wordsX (s : St) : List Str → St × Str
  | [a] => oneX s a
  | [a, b] => twoX s a b
  | _ => (s, whatT)
def lineX (s : St) (line : Str) : St × Str := wordsX s ((cutW 32 (bs line)).map ofBs)
/-- Lines, one after the other. -/
def linesX (s : St) : List Str → St × Str
  | [] => (s, ⟨#[]⟩)
  | l :: r => ((linesX (lineX s l).1 r).1, (lineX s l).2 ++ (linesX (lineX s l).1 r).2)
def steps0 : List Step := [⟨⟨#[98, 111, 111, 107]⟩, [], true⟩, ⟨⟨#[112, 97, 121]⟩, [⟨#[98, 111, 111, 107]⟩], true⟩, ⟨⟨#[115, 104, 105, 112]⟩, [⟨#[112, 97, 121]⟩], false⟩]
def flow0 : Flow := ⟨1, steps0⟩
def st0 : St := (flow0, (0, []))
def longT : Str := ⟨#[116, 111, 111, 32, 108, 111, 110, 103, 10]⟩
def allL (t : Str) : List Str := ((cutW 10 (bs t)).map ofBs).dropLast
def endX (r : St × Str) : Str := (r.2 ++ rtT r.1.1 r.1.2.1 r.1.2.2) ++ ⟨#[10]⟩
def exe (t : Str) : Str := if 400 < t.size then longT else endX (linesX st0 (allL t))

theorem nil_app (x : Str) : (⟨#[]⟩ : Str) ++ x = x := by
  rw [← of_bs ((⟨#[]⟩ : Str) ++ x), bs_app]
  exact of_bs x
theorem linesX_app (s : St) : ∀ (a b : List Str), linesX s (a ++ b) = ((linesX (linesX s a).1 b).1, (linesX s a).2 ++ (linesX (linesX s a).1 b).2)
  | [], b => by show linesX s b = ((linesX s b).1, (⟨#[]⟩ : Str) ++ (linesX s b).2); rw [nil_app]
  | x :: a, b => by
    have ih := linesX_app (lineX s x).1 a b
    show ((linesX (lineX s x).1 (a ++ b)).1, (lineX s x).2 ++ (linesX (lineX s x).1 (a ++ b)).2) = _
    rw [ih]
    simp [linesX, ByteArray.append_assoc]
/-- What stays true. -/
def Good (s : St) : Prop := flowB s.1 = true ∧ runB s.1 s.2.1 s.2.2 = true
theorem good_new {f : Flow} (h : flowB f = true) : runB f 0 [] = true := by
  have := (flowB_iff.1 h).2.2.1.1
  unfold runB
  rw [h, ord_nil]
  simp
  omega
theorem good_flowX {s : St} {k : Int} {t : Str} (h : Good s) : Good (flowX s k t).1 := by
  unfold flowX
  split
  · exact h
  · split
    · exact h
    · rename_i h2
      split
      · exact h
      · rename_i h3
        have h3' : fitB s.1 (chgF s.1 k (fromT t)) s.2.1 s.2.2 = true := by simpa using h3
        exact ⟨(fit_parts h3').2.1, fit_run h3'⟩
theorem good_words {s : St} (h : Good s) (ws : List Str) : Good (wordsX s ws).1 := by
  unfold wordsX
  split
  · unfold oneX
    split
    · exact ⟨h.1, good_new h.1⟩
    · split
      · exact h
      · split <;> exact h
  · unfold twoX
    split
    · split
      · rename_i h2
        exact ⟨h.1, run_ev h2⟩
      · exact h
    · split
      · exact good_flowX h
      · exact h
  · exact h
theorem good_line {s : St} (h : Good s) (l : Str) : Good (lineX s l).1 := good_words h _
theorem good_lines : ∀ {s : St} (ls : List Str), Good s → Good (linesX s ls).1
  | _, [], h => h
  | _, l :: r, h => good_lines r (good_line h l)
theorem good0 : Good st0 := by
  have h : flowB flow0 = true := by decide +kernel
  exact ⟨h, good_new h⟩

/-! ### Sizes -/
theorem names8 {xs : List Str} (h8 : xs.length ≤ 8) (h : ∀ j, j < xs.length → nameB (nth xs j) = true) : (namesS xs).size ≤ 48 := by
  unfold namesS
  split
  · show 1 ≤ 48; omega
  · have := jnS_size (xs := xs) (m := 5) (fun j hj => (nameB_size (h j hj)).2) xs.length (Nat.le_refl _)
    have h2 : xs.length * (5 + 1) ≤ 8 * 6 := Nat.mul_le_mul_right _ h8
    omega
theorem state_size (st : Int) : (stateS st).size ≤ 6 := by
  unfold stateS
  split
  · decide
  · split
    · decide
    · split <;> decide
theorem rtT_size (f : Flow) (st : Int) (done : List Str) : (rtT f st done).size ≤ 55 := by
  unfold rtT
  split
  · rename_i h
    obtain ⟨h8, hn⟩ := run_sizes h
    have h1 := names8 h8 hn
    have h2 := state_size st
    unfold rtS
    rw [bsz_app, bsz_app]
    show _ + 1 + _ ≤ 55
    omega
  · show 0 ≤ 55; omega
theorem ft_size (f : Flow) : (flowTextS f).size ≤ 816 := by
  unfold flowTextS
  split
  · rename_i h
    obtain ⟨v, hv, hv2⟩ := flow_verN h
    have h8 := (flowB_iff.1 h).2.2.1.2
    have h1 := lines_size (v := f.ver.toNat) (by omega) f.steps.length (flow_stepsB h)
    have h2 : f.steps.length * 101 ≤ 8 * 101 := Nat.mul_le_mul_right _ h8
    omega
  · show 0 ≤ 816; omega
theorem next_names {f : Flow} {st : Int} {done : List Str} : (nextL f st done).length ≤ 8 ∧ ∀ j, j < (nextL f st done).length → nameB (nth (nextL f st done) j) = true := by
  unfold nextL
  split
  · rename_i h
    obtain ⟨h8, hn⟩ := run_sizes h
    have hf := run_flow h
    have hl8 := (flowB_iff.1 hf).2.2.1.2
    split
    · refine ⟨Nat.le_trans (rdyL_len _ _) hl8, fun j hj => ?_⟩
      obtain ⟨i, hi, e⟩ := nth_of_mem (rdyL_new (mem_nth hj)).2
      rw [← e]
      rw [namesOf_len] at hi
      rw [namesOf_at hi]
      exact (stepB_names (step_ok hf hi)).1
    · split
      · rename_i h0 h1
        subst h1
        have hd : 0 < done.length := by
          unfold runB at h
          simp at h
          omega
        refine ⟨by simp, fun j hj => ?_⟩
        obtain rfl : j = 0 := by simp at hj; omega
        exact hn _ (by omega)
      · exact ⟨by simp, fun j hj => absurd hj (by simp)⟩
  · exact ⟨by simp, fun j hj => absurd hj (by simp)⟩
theorem sz_no : noT.size ≤ 6 := by decide
theorem sz_ok : okT.size ≤ 6 := by decide
theorem sz_what : whatT.size ≤ 6 := by decide
theorem sz_stays : staysT.size ≤ 6 := by decide
theorem sz_moved : movedT.size ≤ 6 := by decide
theorem flowX_size (s : St) (k : Int) (t : Str) : (flowX s k t).2.size ≤ 6 := by
  unfold flowX
  split
  · first | exact Nat.le_trans sz_no (by omega) | exact Nat.le_trans sz_ok (by omega) | exact Nat.le_trans sz_what (by omega)
  · split
    · first | exact Nat.le_trans sz_no (by omega) | exact Nat.le_trans sz_ok (by omega) | exact Nat.le_trans sz_what (by omega)
    · split <;> first | exact Nat.le_trans sz_no (by omega) | exact Nat.le_trans sz_ok (by omega) | exact Nat.le_trans sz_stays (by omega) | exact Nat.le_trans sz_moved (by omega)
theorem words_size (s : St) (ws : List Str) : (wordsX s ws).2.size ≤ 900 := by
  unfold wordsX
  split
  · unfold oneX
    split
    · first | exact Nat.le_trans sz_no (by omega) | exact Nat.le_trans sz_ok (by omega) | exact Nat.le_trans sz_what (by omega)
    · split
      · have h1 := names8 (next_names (f := s.1) (st := s.2.1) (done := s.2.2)).1 next_names.2
        show (_ : Str).size ≤ 900
        rw [bsz_app, bsz_app]
        show 5 + _ + 1 ≤ 900
        omega
      · split
        · have h1 := rtT_size s.1 s.2.1 s.2.2
          have h2 := ft_size s.1
          show (_ : Str).size ≤ 900
          rw [bsz_app, bsz_app]
          show _ + _ + 1 ≤ 900
          omega
        · first | exact Nat.le_trans sz_no (by omega) | exact Nat.le_trans sz_ok (by omega) | exact Nat.le_trans sz_what (by omega)
  · unfold twoX
    split
    · split <;> first | exact Nat.le_trans sz_no (by omega) | exact Nat.le_trans sz_ok (by omega) | exact Nat.le_trans sz_stays (by omega) | exact Nat.le_trans sz_moved (by omega)
    · split
      · exact Nat.le_trans (flowX_size _ _ _) (by omega)
      · first | exact Nat.le_trans sz_no (by omega) | exact Nat.le_trans sz_ok (by omega) | exact Nat.le_trans sz_what (by omega)
  · first | exact Nat.le_trans sz_no (by omega) | exact Nat.le_trans sz_ok (by omega) | exact Nat.le_trans sz_what (by omega)
theorem line_size (s : St) (l : Str) : (lineX s l).2.size ≤ 900 := words_size s _
theorem linesX_size (s : St) : ∀ ls : List Str, (linesX s ls).2.size ≤ ls.length * 900
  | [] => Nat.zero_le _
  | l :: r => by
    have h1 := line_size s l
    have h2 := linesX_size (lineX s l).1 r
    show ((lineX s l).2 ++ (linesX (lineX s l).1 r).2).size ≤ (r.length + 1) * 900
    rw [bsz_app]
    omega
theorem exe_pos (t : Str) : 0 < (exe t).size := by
  unfold exe
  split
  · decide
  · unfold endX
    rw [bsz_app]
    show 0 < _ + 1
    omega
end Go.Proofs.YthdfefgianokgaaGreatDoor

/- The words of a script: the reference's. -/
namespace Go.Proofs.YthdfefgianokgaaGreatDoor
open Go.RowKit

theorem eqL (a : Str) (l : List UInt8) : (a.toList == l) = decide (a = ⟨l.toArray⟩) := by
  rw [toList_bs]
  cases h : decide (a = ⟨l.toArray⟩)
  · rw [beq_eq_false_iff_ne]
    intro e
    have h2 : a ≠ ⟨l.toArray⟩ := by simpa using h
    apply h2
    rw [← of_bs a, e]
    rfl
  · have h2 : a = ⟨l.toArray⟩ := by simpa using h
    rw [beq_iff_eq, h2]
    rfl
theorem ret_n {i j : Int} (h : i = j) : Ending.returned (.int .i64 i) = .returned (.int .i64 j) := by rw [h]
theorem kind_eq (s : Str) : kindW s = if (s.toList == [100, 111]) = true then 1 else if (s.toList == [102, 97, 105, 108]) = true then 2 else if (s.toList == [117, 110, 100, 111]) = true then 3 else 0 := by
  rw [eqL, eqL, eqL]
  simp only [decide_eq_true_eq]
  rfl
theorem chgW_eq (s : Str) : chgW s = if (s.toList == [97, 100, 100]) = true then 1 else if (s.toList == [100, 114, 111, 112]) = true then 2 else if (s.toList == [97, 102, 116, 101, 114]) = true then 3 else if (s.toList == [109, 97, 114, 107]) = true then 4 else 0 := by
  rw [eqL, eqL, eqL, eqL]
  simp only [decide_eq_true_eq]
  rfl
theorem l51Kind_any (s : Str) (w : World) : Calls Tryz.prog 46 #[.string s] w fun e w' => e = .returned (.int .i64 (kindW s)) ∧ w = w' := by
  have HK := Lib.hid (kind_eq s)
  go_enter Tryz.func46, Tryz.ntmps46
  go_wp2_with fail
  all_goals
    go_ret
    exact ⟨ret_n (by rw [HK.out]; simp [*]), rfl⟩
theorem l51Change_any (s : Str) (w : World) : Calls Tryz.prog 48 #[.string s] w fun e w' => e = .returned (.int .i64 (chgW s)) ∧ w = w' := by
  have HK := Lib.hid (chgW_eq s)
  go_enter Tryz.func48, Tryz.ntmps48
  go_wp2_with fail
  all_goals
    go_ret
    exact ⟨ret_n (by rw [HK.out]; simp [*]), rfl⟩
end Go.Proofs.YthdfefgianokgaaGreatDoor

/- A change of a flow by a line: the reference's. -/
namespace Go.Proofs.YthdfefgianokgaaGreatDoor
open Go.RowKit

/-- A state and a text, as a tuple. -/
def StQ (s : St) (A B : Option Addr) (n m : Nat) (r : St × Str) (w : World) (e : Ending) (w' : World) : Prop :=
  ∃ (A' : Option Addr) (n' c' : Nat) (B' : Option Addr) (m' d' : Nat), e = .returned (.tuple #[.agg #[.int .i64 r.1.1.ver, .slice A' n' c'], .agg #[.int .i64 r.1.2.1, .slice B' m' d'], .string r.2]) ∧
    ((A' = A ∧ n' = n ∧ r.1.1.steps = s.1.steps) ∨ RStep w' w.heap.size A' n' r.1.1.steps) ∧ ((B' = B ∧ m' = m ∧ r.1.2.2 = s.2.2) ∨ RStr w' w.heap.size B' m' r.1.2.2) ∧ m' ≤ d' ∧ Below w.heap.size w w'
theorem okStep_from (t : Str) : okStep (fromT t) := by
  cases h : fromB t
  · rw [from_not h]
    exact ⟨Nat.zero_le _, ⟨Nat.zero_le _, fun j hj => absurd hj (by show ¬ j < 0; omega)⟩⟩
  · exact okStep_of (from_ex h).1
/-- Two results written. -/
theorem fin4 {V : World} {p q : Nat} {a0 a1 b0 b1 a b c d : Value} {t1 t2 : TypeId} (hp : V.heap[p]? = some (.cells #[a0, a1] t1 (0, 0))) (hq : V.heap[q]? = some (.cells #[b0, b1] t2 (0, 0))) (hne : p ≠ q) :
    ((((V.setCell ⟨p, 0, none⟩ a).setCell ⟨p, 1, none⟩ b).setCell ⟨q, 0, none⟩ c).setCell ⟨q, 1, none⟩ d).heap[p]? = some (.cells #[a, b] t1 (0, 0)) ∧
    ((((V.setCell ⟨p, 0, none⟩ a).setCell ⟨p, 1, none⟩ b).setCell ⟨q, 0, none⟩ c).setCell ⟨q, 1, none⟩ d).heap[q]? = some (.cells #[c, d] t2 (0, 0)) :=
  ⟨set_ne (set_ne (set21 (set20 hp)) hne) hne, set21 (set20 (set_ne (set_ne hq (Ne.symm hne)) (Ne.symm hne)))⟩
theorem fin4_below {B : Nat} {W V : World} {p q : Nat} {a b c d : Value} (h : Below B W V) (hp : B ≤ p) (hq : B ≤ q) :
    Below B W ((((V.setCell ⟨p, 0, none⟩ a).setCell ⟨p, 1, none⟩ b).setCell ⟨q, 0, none⟩ c).setCell ⟨q, 1, none⟩ d) :=
  (((h.setCell (p := ⟨p, 0, none⟩) hp a).setCell (p := ⟨p, 1, none⟩) hp b).setCell (p := ⟨q, 0, none⟩) hq c).setCell (p := ⟨q, 1, none⟩) hq d
theorem fin4_low {α : Type} [Inhabited α] {E : Elem α} {V : World} {lo n p q : Nat} {A : Option Addr} {xs : List α} {a b c d : Value} (h : RL E V lo A n xs) (hp : p < lo) (hq : q < lo) :
    RL E ((((V.setCell ⟨p, 0, none⟩ a).setCell ⟨p, 1, none⟩ b).setCell ⟨q, 0, none⟩ c).setCell ⟨q, 1, none⟩ d) lo A n xs :=
  (((h.setLow hp).setLow hp).setLow hq).setLow hq

set_option maxRecDepth 100000 in
set_option maxHeartbeats 4000000 in
theorem l51Flow_any (A B : Option Addr) (n c m d : Nat) (s : St) (k : Int) (t : Str) (w : World) (hr : RStep w 0 A n s.1.steps) (hd : RStr w 0 B m s.2.2) (hmd : m ≤ d) (hG : Good s) (ht : t.size ≤ 1048576) :
    Calls Tryz.prog 49 #[.agg #[.int .i64 s.1.ver, .slice A n c], .agg #[.int .i64 s.2.1, .slice B m d], .int .i64 k, .string t] w (StQ s A B n m (flowX s k t) w) := by
  obtain ⟨f, st, done⟩ := s
  have HFX := Lib.hid (show flowX (f, st, done) k t = (if fromB t = false then ((f, st, done), noT) else if chgB f k (fromT t) = false then ((f, st, done), noT) else if fitB f (chgF f k (fromT t)) st done = false then ((f, st, done), staysT) else ((chgF f k (fromT t), fitR f (chgF f k (fromT t)) st done), movedT)) from rfl)
  have HOK := Lib.hid (okSteps_of hG.1)
  have hm : m ≤ 1048576 := by rw [← hd.1]; have := (run_sizes hG.2).1; omega
  clear hG
  have HRw := Lib.hid hr
  have HDw := Lib.hid hd
  have HX := Lib.hid (heap_old (o := .cells #[.int .i64 0, .slice none 0 0] 40) (heap_old (o := .cells #[.int .i64 0, .slice none 0 0] 38) (heap_old (o := .cells #[.int .i64 st, .slice B m d] 40) (heap_new (w := w) (o := .cells #[.int .i64 f.ver, .slice A n c] 38) rfl))))
  have HY := Lib.hid (heap_old (o := .cells #[.int .i64 0, .slice none 0 0] 40) (heap_old (o := .cells #[.int .i64 0, .slice none 0 0] 38) (heap_new (w := w.alloc (.cells #[.int .i64 f.ver, .slice A n c] 38)) (b := w.heap.size + 1) (o := .cells #[.int .i64 st, .slice B m d] 40) (by simp))))
  have HF := Lib.hid (heap_old (o := .cells #[.int .i64 0, .slice none 0 0] 40) (heap_new (w := (w.alloc (.cells #[.int .i64 f.ver, .slice A n c] 38)).alloc (.cells #[.int .i64 st, .slice B m d] 40)) (b := w.heap.size + 1 + 1) (o := .cells #[.int .i64 0, .slice none 0 0] 38) (by simp)))
  have HR := Lib.hid (heap_new (w := ((w.alloc (.cells #[.int .i64 f.ver, .slice A n c] 38)).alloc (.cells #[.int .i64 st, .slice B m d] 40)).alloc (.cells #[.int .i64 0, .slice none 0 0] 38)) (b := w.heap.size + 1 + 1 + 1) (o := .cells #[.int .i64 0, .slice none 0 0] 40) (by simp))
  have HBW := Lib.hid (((((Below.refl w.heap.size w).alloc (Nat.le_refl _) (.cells #[.int .i64 f.ver, .slice A n c] 38)).alloc (by simp) (.cells #[.int .i64 st, .slice B m d] 40)).alloc (by simp; omega) (.cells #[.int .i64 0, .slice none 0 0] 38)).alloc (by simp; omega) (.cells #[.int .i64 0, .slice none 0 0] 40))
  have HRW := Lib.hid (hr.below HBW.out); clear hr
  have HDW := Lib.hid (hd.below HBW.out); clear hd
  go_enter Tryz.func49, Tryz.ntmps49
  go_upto_region 1 with fail
  generalize (((w.alloc (.cells #[.int .i64 f.ver, .slice A n c] 38)).alloc (.cells #[.int .i64 st, .slice B m d] 40)).alloc (.cells #[.int .i64 0, .slice none 0 0] 38)).alloc (.cells #[.int .i64 0, .slice none 0 0] 40) = W at *
  have hsW := HBW.out.size
  have hrl := heap_lt HR.out
  have HSB : Hid (∀ w', Below W.heap.size W w' → (w'.cell? ⟨w.heap.size, 0, none⟩ = some (.int .i64 f.ver) ∧ w'.cell? ⟨w.heap.size, 1, none⟩ = some (.slice A n c)) ∧ (w'.cell? ⟨w.heap.size + 1, 0, none⟩ = some (.int .i64 st) ∧ w'.cell? ⟨w.heap.size + 1, 1, none⟩ = some (.slice B m d))) := Lib.hid (fun w' h => by
    have e1 := (h.block _ (heap_lt HX.out)).trans HX.out
    have e2 := (h.block _ (heap_lt HY.out)).trans HY.out
    exact ⟨⟨(blk_cl (k := 0) e1 rfl).1, (blk_cl (k := 1) e1 rfl).1⟩, (blk_cl (k := 0) e2 rfl).1, (blk_cl (k := 1) e2 rfl).1⟩)
  go_wp2_with fail
  refine (stepFromS_any t _ ht).mono ?_
  rintro e w1 ⟨A1, n1, c1, rfl, hs1, hb1⟩
  have hbA := hb1.alloc hb1.size (.cells #[.string (fromT t).name, .slice A1 n1 c1, .bool (fromT t).undo] 35)
  have HP1 := Lib.hid (heap_new (w := w1) (o := .cells #[.string (fromT t).name, .slice A1 n1 c1, .bool (fromT t).undo] 35) rfl)
  obtain ⟨⟨f0, f1⟩, r0, r1⟩ := HSB.out _ hbA
  have HOS := Lib.hid (okStep_from t)
  cases hfr : fromB t
  · have HE := Lib.hid (HFX.out.trans (if_pos hfr))
    have HF9 := Lib.hid ((hbA.block _ (heap_lt HF.out)).trans HF.out)
    have HR9 := Lib.hid ((hbA.block _ hrl).trans HR.out)
    have z0 := (blk_cl (k := 0) HF9.out rfl).1
    have z0' := (blk_cl (k := 0) HF9.out rfl).2
    have z1 := (blk_cl (k := 1) HF9.out rfl).1
    have z1' := (blk_cl (k := 1) HF9.out rfl).2
    have y0 := (blk_cl (k := 0) HR9.out rfl).1
    have y0' := (blk_cl (k := 0) HR9.out rfl).2
    have y1 := (blk_cl (k := 1) HR9.out rfl).1
    have y1' := (blk_cl (k := 1) HR9.out rfl).2
    go_wp2_with fail
    go_region
    go_wp2_with fail
    have h4 := fin4 (a := .int .i64 (f.ver)) (b := .slice A n c) (c := .int .i64 (st)) (d := .slice B m d) HF9.out HR9.out (by omega)
    have e0 := (blk_cl (k := 0) h4.1 rfl).1
    have e1 := (blk_cl (k := 1) h4.1 rfl).1
    have e2 := (blk_cl (k := 0) h4.2 rfl).1
    have e3 := (blk_cl (k := 1) h4.2 rfl).1
    have hbF := (fin4_below (p := w.heap.size + 1 + 1) (q := w.heap.size + 1 + 1 + 1) (a := .int .i64 (f.ver)) (b := .slice A n c) (c := .int .i64 (st)) (d := .slice B m d) (HBW.out.trans (hbA.mono HBW.out.size)) (by omega) (by omega)).drew
    exact bodyPost_ret (v := .tuple #[.agg #[.int .i64 (f.ver), .slice A n c], .agg #[.int .i64 (st), .slice B m d], .string noT]) (by simp [results, Tryz.results49, go_sem, World.cell?_drew, e0, e1, e2, e3]; rfl) rfl (by (rw [HE.out]; exact ⟨A, n, c, B, m, d, rfl, .inl ⟨rfl, rfl, rfl⟩, .inl ⟨rfl, rfl, rfl⟩, hmd, hbF⟩))
  have HS1 := Lib.hid ((hs1.below ((Below.refl _ _).alloc (Nat.le_refl _) (.cells #[.string (fromT t).name, .slice A1 n1 c1, .bool (fromT t).undo] 35))).hat); clear hs1
  have q0 := (blk_cl (k := 0) HP1.out rfl).1
  have q1 := (blk_cl (k := 1) HP1.out rfl).1
  have q2 := (blk_cl (k := 2) HP1.out rfl).1
  have HBA := Lib.hid hbA
  clear hb1 hbA
  go_wp2_with fail
  generalize w1.alloc (.cells #[.string (fromT t).name, .slice A1 n1 c1, .bool (fromT t).undo] 35) = w2 at *
  clear HP1
  refine (fcS_any A A1 n c n1 c1 f k (fromT t) _ _ _ (HRW.out.below HBA.out) HOK.out HS1.out HOS.out).mono ?_
  rintro e w3 ⟨G, g, cg, rfl, hrow3, hb3⟩
  clear f0 f1 r0 r1 q0 q1 q2
  have hbB := (HBA.out.trans (hb3.mono HBA.out.size))
  have hbC := hbB.alloc hbB.size (.cells #[.int .i64 (chgF f k (fromT t)).ver, .slice G g cg] 38)
  have HP3 := Lib.hid (heap_new (w := w3) (o := .cells #[.int .i64 (chgF f k (fromT t)).ver, .slice G g cg] 38) rfl)
  obtain ⟨⟨f0, f1⟩, r0, r1⟩ := HSB.out _ hbC
  cases hcg : chgB f k (fromT t)
  · have HE := Lib.hid (HFX.out.trans ((if_neg (by rw [hfr]; simp)).trans (if_pos hcg)))
    have HF9 := Lib.hid ((hbC.block _ (heap_lt HF.out)).trans HF.out)
    have HR9 := Lib.hid ((hbC.block _ hrl).trans HR.out)
    have z0 := (blk_cl (k := 0) HF9.out rfl).1
    have z0' := (blk_cl (k := 0) HF9.out rfl).2
    have z1 := (blk_cl (k := 1) HF9.out rfl).1
    have z1' := (blk_cl (k := 1) HF9.out rfl).2
    have y0 := (blk_cl (k := 0) HR9.out rfl).1
    have y0' := (blk_cl (k := 0) HR9.out rfl).2
    have y1 := (blk_cl (k := 1) HR9.out rfl).1
    have y1' := (blk_cl (k := 1) HR9.out rfl).2
    go_wp2_with fail
    go_region
    go_wp2_with fail
    have h4 := fin4 (a := .int .i64 (f.ver)) (b := .slice A n c) (c := .int .i64 (st)) (d := .slice B m d) HF9.out HR9.out (by omega)
    have e0 := (blk_cl (k := 0) h4.1 rfl).1
    have e1 := (blk_cl (k := 1) h4.1 rfl).1
    have e2 := (blk_cl (k := 0) h4.2 rfl).1
    have e3 := (blk_cl (k := 1) h4.2 rfl).1
    have hbF := (fin4_below (p := w.heap.size + 1 + 1) (q := w.heap.size + 1 + 1 + 1) (a := .int .i64 (f.ver)) (b := .slice A n c) (c := .int .i64 (st)) (d := .slice B m d) (HBW.out.trans (hbC.mono HBW.out.size)) (by omega) (by omega)).drew
    exact bodyPost_ret (v := .tuple #[.agg #[.int .i64 (f.ver), .slice A n c], .agg #[.int .i64 (st), .slice B m d], .string noT]) (by simp [results, Tryz.results49, go_sem, World.cell?_drew, e0, e1, e2, e3]; rfl) rfl (by (rw [HE.out]; exact ⟨A, n, c, B, m, d, rfl, .inl ⟨rfl, rfl, rfl⟩, .inl ⟨rfl, rfl, rfl⟩, hmd, hbF⟩))
  have hrow3 := hrow3 hcg
  have HG9 := Lib.hid (okSteps_of (chgF_flow hcg))
  have HR3 := Lib.hid (by
    obtain ⟨A9, c9, e9, h9⟩ := hrow3.hat
    injection e9 with e9 _ _
    subst e9
    exact (h9.alloc (.cells #[.int .i64 (chgF f k (fromT t)).ver, .slice G g cg] 38)) : RStep (w3.alloc (.cells #[.int .i64 (chgF f k (fromT t)).ver, .slice G g cg] 38)) w2.heap.size G g (chgF f k (fromT t)).steps)
  have q0 := (blk_cl (k := 0) HP3.out rfl).1
  have q1 := (blk_cl (k := 1) HP3.out rfl).1
  have HBC := Lib.hid hbC
  have hs2 := HBA.out.size
  have hw3 : w.heap.size + 1 + 1 + 1 < w3.heap.size := by have := hbB.size; omega
  clear hb3 hbB hbC hrow3
  go_wp2_with fail
  generalize w3.alloc (.cells #[.int .i64 (chgF f k (fromT t)).ver, .slice G g cg] 38) = w4 at *
  have hp3 := heap_lt HP3.out
  generalize w3.heap.size = p3 at *
  refine (fitS_any A G B n c g cg m d f (chgF f k (fromT t)) st done _ _ _ _ (HRW.out.below HBC.out) HOK.out HR3.out HG9.out (HDW.out.below HBC.out) hm hmd).mono ?_
  rintro e w5 ⟨B5, n5, d5, rfl, hrow5, hb5⟩
  clear f0 f1 r0 r1 q0 q1
  have hbD := (HBC.out.trans (hb5.mono HBC.out.size))
  have hbE := hbD.alloc hbD.size (.cells #[.int .i64 (fitR f (chgF f k (fromT t)) st done).1, .slice B5 n5 d5] 40)
  have HP5 := Lib.hid (heap_new (w := w5) (o := .cells #[.int .i64 (fitR f (chgF f k (fromT t)) st done).1, .slice B5 n5 d5] 40) rfl)
  obtain ⟨⟨f0, f1⟩, r0, r1⟩ := HSB.out _ hbE
  cases hft : fitB f (chgF f k (fromT t)) st done
  · have HE := Lib.hid (HFX.out.trans ((if_neg (by rw [hfr]; simp)).trans ((if_neg (by rw [hcg]; simp)).trans (if_pos hft))))
    have HF9 := Lib.hid ((hbE.block _ (heap_lt HF.out)).trans HF.out)
    have HR9 := Lib.hid ((hbE.block _ hrl).trans HR.out)
    have z0 := (blk_cl (k := 0) HF9.out rfl).1
    have z0' := (blk_cl (k := 0) HF9.out rfl).2
    have z1 := (blk_cl (k := 1) HF9.out rfl).1
    have z1' := (blk_cl (k := 1) HF9.out rfl).2
    have y0 := (blk_cl (k := 0) HR9.out rfl).1
    have y0' := (blk_cl (k := 0) HR9.out rfl).2
    have y1 := (blk_cl (k := 1) HR9.out rfl).1
    have y1' := (blk_cl (k := 1) HR9.out rfl).2
    go_wp2_with fail
    go_region
    go_wp2_with fail
    have h4 := fin4 (a := .int .i64 (f.ver)) (b := .slice A n c) (c := .int .i64 (st)) (d := .slice B m d) HF9.out HR9.out (by omega)
    have e0 := (blk_cl (k := 0) h4.1 rfl).1
    have e1 := (blk_cl (k := 1) h4.1 rfl).1
    have e2 := (blk_cl (k := 0) h4.2 rfl).1
    have e3 := (blk_cl (k := 1) h4.2 rfl).1
    have hbF := (fin4_below (p := w.heap.size + 1 + 1) (q := w.heap.size + 1 + 1 + 1) (a := .int .i64 (f.ver)) (b := .slice A n c) (c := .int .i64 (st)) (d := .slice B m d) (HBW.out.trans (hbE.mono HBW.out.size)) (by omega) (by omega)).drew
    exact bodyPost_ret (v := .tuple #[.agg #[.int .i64 (f.ver), .slice A n c], .agg #[.int .i64 (st), .slice B m d], .string staysT]) (by simp [results, Tryz.results49, go_sem, World.cell?_drew, e0, e1, e2, e3]; rfl) rfl (by (rw [HE.out]; exact ⟨A, n, c, B, m, d, rfl, .inl ⟨rfl, rfl, rfl⟩, .inl ⟨rfl, rfl, rfl⟩, hmd, hbF⟩))
  have HE := Lib.hid (HFX.out.trans ((if_neg (by rw [hfr]; simp)).trans ((if_neg (by rw [hcg]; simp)).trans (if_neg (by rw [hft]; simp)))))
  have hb5a := hb5.alloc hb5.size (.cells #[.int .i64 (fitR f (chgF f k (fromT t)) st done).1, .slice B5 n5 d5] 40)
  have HP3b := Lib.hid ((hb5a.block _ hp3).trans HP3.out)
  have q0 := (blk_cl (k := 0) HP3b.out rfl).1
  have q1 := (blk_cl (k := 1) HP3b.out rfl).1
  have p0 := (blk_cl (k := 0) HP5.out rfl).1
  have p1 := (blk_cl (k := 1) HP5.out rfl).1
  have HR5 := Lib.hid (HR3.out.below hb5a)
  have HD5 := Lib.hid (by
    obtain ⟨A9, c9, e9, h9⟩ := own_str hrow5
    injection e9 with e9 _ _
    subst e9
    exact h9.alloc (.cells #[.int .i64 (fitR f (chgF f k (fromT t)) st done).1, .slice B5 n5 d5] 40) : RStr (w5.alloc (.cells #[.int .i64 (fitR f (chgF f k (fromT t)) st done).1, .slice B5 n5 d5] 40)) w4.heap.size B5 n5 (fitR f (chgF f k (fromT t)) st done).2)
  have hmd5 := row_cap hrow5
  have hs4 := HBC.out.size
  have hw5 : w.heap.size + 1 + 1 + 1 < w5.heap.size := by have := hbD.size; omega
  clear hb5 hbD hrow5
  have HF9 := Lib.hid ((hbE.block _ (heap_lt HF.out)).trans HF.out)
  have HR9 := Lib.hid ((hbE.block _ hrl).trans HR.out)
  have z0 := (blk_cl (k := 0) HF9.out rfl).1
  have z0' := (blk_cl (k := 0) HF9.out rfl).2
  have z1 := (blk_cl (k := 1) HF9.out rfl).1
  have z1' := (blk_cl (k := 1) HF9.out rfl).2
  have y0 := (blk_cl (k := 0) HR9.out rfl).1
  have y0' := (blk_cl (k := 0) HR9.out rfl).2
  have y1 := (blk_cl (k := 1) HR9.out rfl).1
  have y1' := (blk_cl (k := 1) HR9.out rfl).2
  go_wp2_with fail
  go_region
  go_wp2_with fail
  have h4 := fin4 (a := .int .i64 ((chgF f k (fromT t)).ver)) (b := .slice G g cg) (c := .int .i64 ((fitR f (chgF f k (fromT t)) st done).1)) (d := .slice B5 n5 d5) HF9.out HR9.out (by omega)
  have e0 := (blk_cl (k := 0) h4.1 rfl).1
  have e1 := (blk_cl (k := 1) h4.1 rfl).1
  have e2 := (blk_cl (k := 0) h4.2 rfl).1
  have e3 := (blk_cl (k := 1) h4.2 rfl).1
  have hbF := (fin4_below (p := w.heap.size + 1 + 1) (q := w.heap.size + 1 + 1 + 1) (a := .int .i64 ((chgF f k (fromT t)).ver)) (b := .slice G g cg) (c := .int .i64 ((fitR f (chgF f k (fromT t)) st done).1)) (d := .slice B5 n5 d5) (HBW.out.trans (hbE.mono HBW.out.size)) (by omega) (by omega)).drew
  exact bodyPost_ret (v := .tuple #[.agg #[.int .i64 ((chgF f k (fromT t)).ver), .slice G g cg], .agg #[.int .i64 ((fitR f (chgF f k (fromT t)) st done).1), .slice B5 n5 d5], .string movedT]) (by simp [results, Tryz.results49, go_sem, World.cell?_drew, e0, e1, e2, e3]; rfl) rfl (by (rw [HE.out]; exact ⟨G, g, cg, B5, n5, d5, rfl, .inr ((fin4_low HR5.out (by omega) (by omega)).lower (by omega)).drew, .inr ((fin4_low HD5.out (by omega) (by omega)).lower (by omega)).drew, hmd5, hbF⟩))
end Go.Proofs.YthdfefgianokgaaGreatDoor

/- A line of a script: the reference's. -/
namespace Go.Proofs.YthdfefgianokgaaGreatDoor
open Go.RowKit

theorem cutW_one {b : UInt8} : ∀ {q x : Bytes}, cutW b q = [x] → x = q
  | [], x, h => by simp [cutW] at h; first | exact h | exact h.symm
  | c :: r, x, h => by
    unfold cutW at h
    split at h
    · have := cutW_ne b r
      simp at h
      exact absurd h.2 this
    · cases e : cutW b r with
      | nil => exact absurd e (cutW_ne b r)
      | cons y t =>
        rw [e] at h
        simp only [List.cons.injEq] at h
        obtain ⟨rfl, rfl⟩ := h
        rw [cutW_one e]
def wordsOf (line : Str) : List Str := (cutW 32 (bs line)).map ofBs
theorem words_cases (line : Str) : wordsOf line = [line] ∨ (∃ a b, wordsOf line = [a, b] ∧ line ≠ showT ∧ line ≠ nextT ∧ line ≠ newT) ∨ (∃ a b c r, wordsOf line = a :: b :: c :: r ∧ line ≠ showT ∧ line ≠ nextT ∧ line ≠ newT) := by
  have h3 : wordsOf showT = [showT] ∧ wordsOf nextT = [nextT] ∧ wordsOf newT = [newT] := by decide +kernel
  cases h : cutW 32 (bs line) with
  | nil => exact absurd h (cutW_ne _ _)
  | cons x t =>
    cases t with
    | nil =>
      left
      unfold wordsOf
      rw [h, cutW_one h]
      show [ofBs (bs line)] = [line]
      rw [of_bs]
    | cons y t2 =>
      have hne : ∀ z : Str, wordsOf z = [z] → line ≠ z := fun z hz e => by
        rw [← e] at hz
        unfold wordsOf at hz
        rw [h] at hz
        simp at hz
      cases t2 with
      | nil => exact .inr (.inl ⟨ofBs x, ofBs y, by unfold wordsOf; rw [h]; rfl, hne _ h3.1, hne _ h3.2.1, hne _ h3.2.2⟩)
      | cons z r => exact .inr (.inr ⟨ofBs x, ofBs y, ofBs z, r.map ofBs, by unfold wordsOf; rw [h]; rfl, hne _ h3.1, hne _ h3.2.1, hne _ h3.2.2⟩)
theorem kindW_range (s : Str) : 0 ≤ kindW s ∧ kindW s ≤ 3 := by
  unfold kindW
  split
  · omega
  · split
    · omega
    · split <;> omega
theorem chgW_range (s : Str) : 0 ≤ chgW s ∧ chgW s ≤ 4 := by
  unfold chgW
  split
  · omega
  · split
    · omega
    · split
      · omega
      · split <;> omega
theorem words_sz {line : Str} {j : Nat} (hj : j < (wordsOf line).length) : (nth (wordsOf line) j).size ≤ line.size := by
  unfold wordsOf at hj ⊢
  rw [List.length_map] at hj
  rw [nth_map_ofBs _ _ hj, ofBs_size]
  exact cutW_mem 32 (bs line) _ (List.getElem_mem _)

set_option maxRecDepth 100000 in
set_option maxHeartbeats 8000000 in
theorem l51Line_any (A B : Option Addr) (n c m d : Nat) (s : St) (line : Str) (w : World) (hr : RStep w 0 A n s.1.steps) (hd : RStr w 0 B m s.2.2) (hmd : m ≤ d) (hG : Good s) (ht : line.size ≤ 400) :
    Calls Tryz.prog 29 #[.agg #[.int .i64 s.1.ver, .slice A n c], .agg #[.int .i64 s.2.1, .slice B m d], .string line] w (StQ s A B n m (lineX s line) w) := by
  have HLX := Lib.hid (show lineX s line = wordsX s (wordsOf line) from rfl)
  have HGS := Lib.hid hG
  obtain ⟨f, st, done⟩ := s
  have HOK := Lib.hid (okSteps_of hG.1)
  have HFL := Lib.hid hG.1
  have hm : m ≤ 1048576 := by rw [← hd.1]; have := (run_sizes hG.2).1; omega
  clear hG
  have HRw := Lib.hid hr
  have HDw := Lib.hid hd
  have HX := Lib.hid (heap_old (o := .cells #[.int .i64 0, .slice none 0 0] 40) (heap_old (o := .cells #[.int .i64 0, .slice none 0 0] 38) (heap_old (o := .cells #[.int .i64 st, .slice B m d] 40) (heap_new (w := w) (o := .cells #[.int .i64 f.ver, .slice A n c] 38) rfl))))
  have HY := Lib.hid (heap_old (o := .cells #[.int .i64 0, .slice none 0 0] 40) (heap_old (o := .cells #[.int .i64 0, .slice none 0 0] 38) (heap_new (w := w.alloc (.cells #[.int .i64 f.ver, .slice A n c] 38)) (b := w.heap.size + 1) (o := .cells #[.int .i64 st, .slice B m d] 40) (by simp))))
  have HF := Lib.hid (heap_old (o := .cells #[.int .i64 0, .slice none 0 0] 40) (heap_new (w := (w.alloc (.cells #[.int .i64 f.ver, .slice A n c] 38)).alloc (.cells #[.int .i64 st, .slice B m d] 40)) (b := w.heap.size + 1 + 1) (o := .cells #[.int .i64 0, .slice none 0 0] 38) (by simp)))
  have HR := Lib.hid (heap_new (w := ((w.alloc (.cells #[.int .i64 f.ver, .slice A n c] 38)).alloc (.cells #[.int .i64 st, .slice B m d] 40)).alloc (.cells #[.int .i64 0, .slice none 0 0] 38)) (b := w.heap.size + 1 + 1 + 1) (o := .cells #[.int .i64 0, .slice none 0 0] 40) (by simp))
  have HBW := Lib.hid (((((Below.refl w.heap.size w).alloc (Nat.le_refl _) (.cells #[.int .i64 f.ver, .slice A n c] 38)).alloc (by simp) (.cells #[.int .i64 st, .slice B m d] 40)).alloc (by simp; omega) (.cells #[.int .i64 0, .slice none 0 0] 38)).alloc (by simp; omega) (.cells #[.int .i64 0, .slice none 0 0] 40))
  have HRW := Lib.hid (hr.below HBW.out); clear hr
  have HDW := Lib.hid (hd.below HBW.out); clear hd
  go_enter Tryz.func29, Tryz.ntmps29
  go_upto_region 1 with fail
  generalize (((w.alloc (.cells #[.int .i64 f.ver, .slice A n c] 38)).alloc (.cells #[.int .i64 st, .slice B m d] 40)).alloc (.cells #[.int .i64 0, .slice none 0 0] 38)).alloc (.cells #[.int .i64 0, .slice none 0 0] 40) = W at *
  have hsW := HBW.out.size
  have hrl := heap_lt HR.out
  have HSB : Hid (∀ w', Below W.heap.size W w' → (w'.cell? ⟨w.heap.size, 0, none⟩ = some (.int .i64 f.ver) ∧ w'.cell? ⟨w.heap.size, 1, none⟩ = some (.slice A n c)) ∧ (w'.cell? ⟨w.heap.size + 1, 0, none⟩ = some (.int .i64 st) ∧ w'.cell? ⟨w.heap.size + 1, 1, none⟩ = some (.slice B m d))) := Lib.hid (fun w' h => by
    have e1 := (h.block _ (heap_lt HX.out)).trans HX.out
    have e2 := (h.block _ (heap_lt HY.out)).trans HY.out
    exact ⟨⟨(blk_cl (k := 0) e1 rfl).1, (blk_cl (k := 1) e1 rfl).1⟩, (blk_cl (k := 0) e2 rfl).1, (blk_cl (k := 1) e2 rfl).1⟩)
  go_wp2_with fail
  refine (l41Cut_any line 32 _ (by omega)).mono ?_
  rintro e w1 ⟨A1, c1, rfl, hs1, hb1⟩
  have HWL := Lib.hid (show (cutW 32 (bs line)).length = (wordsOf line).length by unfold wordsOf; rw [List.length_map])
  rw [HWL.out] at hs1 ⊢
  have HS1 := Lib.hid (show SStr w1 W.heap.size A1 (wordsOf line).length (wordsOf line) from hs1); clear hs1
  have HB1 := Lib.hid hb1; clear hb1
  have hs1 := HB1.out.size
  have q1 := eqL line [115, 104, 111, 119]
  have q2 := eqL line [110, 101, 120, 116]
  have q3 := eqL line [110, 101, 119]
  have HS9 : Hid (∀ w', Below w1.heap.size w1 w' → (w'.cell? ⟨w.heap.size, 0, none⟩ = some (.int .i64 f.ver) ∧ w'.cell? ⟨w.heap.size, 1, none⟩ = some (.slice A n c)) ∧ (w'.cell? ⟨w.heap.size + 1, 0, none⟩ = some (.int .i64 st) ∧ w'.cell? ⟨w.heap.size + 1, 1, none⟩ = some (.slice B m d))) := Lib.hid (fun w' h => HSB.out _ (HB1.out.trans (h.mono hs1)))
  have HKS : Hid (∀ (w' : World) (p o : Nat) (u : Value), w.heap.size + 1 < p → ((w'.cell? ⟨w.heap.size, 0, none⟩ = some (.int .i64 f.ver) ∧ w'.cell? ⟨w.heap.size, 1, none⟩ = some (.slice A n c)) ∧ (w'.cell? ⟨w.heap.size + 1, 0, none⟩ = some (.int .i64 st) ∧ w'.cell? ⟨w.heap.size + 1, 1, none⟩ = some (.slice B m d))) → (((w'.setCell ⟨p, o, none⟩ u).cell? ⟨w.heap.size, 0, none⟩ = some (.int .i64 f.ver) ∧ (w'.setCell ⟨p, o, none⟩ u).cell? ⟨w.heap.size, 1, none⟩ = some (.slice A n c)) ∧ ((w'.setCell ⟨p, o, none⟩ u).cell? ⟨w.heap.size + 1, 0, none⟩ = some (.int .i64 st) ∧ (w'.setCell ⟨p, o, none⟩ u).cell? ⟨w.heap.size + 1, 1, none⟩ = some (.slice B m d)))) := Lib.hid (fun w' p o u hp h =>
    ⟨⟨(World.cell?_setCell_other _ _ _ _ (fun e => by injection e; omega)).trans h.1.1, (World.cell?_setCell_other _ _ _ _ (fun e => by injection e; omega)).trans h.1.2⟩, (World.cell?_setCell_other _ _ _ _ (fun e => by injection e; omega)).trans h.2.1, (World.cell?_setCell_other _ _ _ _ (fun e => by injection e; omega)).trans h.2.2⟩)
  obtain ⟨⟨f0, f1⟩, r0, r1⟩ := HS9.out _ (Below.refl _ _)
  have HF1 := Lib.hid ((HB1.out.block _ (heap_lt HF.out)).trans HF.out)
  have HR1 := Lib.hid ((HB1.out.block _ hrl).trans HR.out)
  have HRC := Lib.hid (fun (cur : World) (h : Below w1.heap.size w1 cur) => HRW.out.below (HB1.out.trans (h.mono hs1)))
  have HDC := Lib.hid (fun (cur : World) (h : Below w1.heap.size w1 cur) => HDW.out.below (HB1.out.trans (h.mono hs1)))
  rcases words_cases line with hw | ⟨a, b, hw, n1, n2, n3⟩ | ⟨a, b, c', r, hw, n1, n2, n3⟩
  · rw [hw] at HLX
    rw [hw]
    have hb1 := HB1.out
    by_cases hsh : line = showT
    · subst hsh
      have q1' : (showT.toList == [115, 104, 111, 119]) = true := by rw [q1]; decide
      have HE := Lib.hid (HLX.out.trans (show wordsX (f, st, done) [showT] = ((f, st, done), (flowTextS f ++ rtT f st done) ++ ⟨#[10]⟩) from rfl))
      have g1 := ft_size f
      have g2 := rtT_size f st done
      have k1 : ¬ (9223372036854775807 < (flowTextS f).size + (rtT f st done).size) := by omega
      have k2 : ¬ (9223372036854775807 < (flowTextS f).size + (rtT f st done).size + 1) := by omega
      clear q1 q2 q3
      have HFT := Lib.hid (fun (cur : World) (h : Below w1.heap.size w1 cur) => (flowTextS_any A n c f 0 cur (HRC.out _ h) HOK.out).mono (R' := fun e w' => e = .returned (.string (flowTextS f)) ∧ Below w1.heap.size w1 w') (by
        rintro e w' ⟨h1, h2⟩
        exact ⟨h1, h.trans (h2.mono h.size)⟩))
      have HRT := Lib.hid (fun (cur : World) (h : Below w1.heap.size w1 cur) => (runTextS_any A B n c m d f st done 0 0 cur (HRC.out _ h) HOK.out (HDC.out _ h) hm hmd).mono (R' := fun e w' => e = .returned (.string (rtT f st done)) ∧ Below w1.heap.size w1 w') (by
        rintro e w' ⟨h1, h2⟩
        exact ⟨h1, h.trans (h2.mono h.size)⟩))
      have HFH := Lib.hid (fun (cur : World) (h : Below w1.heap.size w1 cur) => (h.block _ (heap_lt HF1.out)).trans HF1.out)
      have HRH := Lib.hid (fun (cur : World) (h : Below w1.heap.size w1 cur) => (h.block _ (heap_lt HR1.out)).trans HR1.out)
      clear f0 f1 r0 r1
      go_wp2_with fail
      go_region_held3 (fun w' => (w'.cell? ⟨w.heap.size, 0, none⟩ = some (.int .i64 f.ver) ∧ w'.cell? ⟨w.heap.size, 1, none⟩ = some (.slice A n c)) ∧ (w'.cell? ⟨w.heap.size + 1, 0, none⟩ = some (.int .i64 st) ∧ w'.cell? ⟨w.heap.size + 1, 1, none⟩ = some (.slice B m d)))
        (((repeat (refine HKS.out _ _ _ _ (by omega) ?_)); refine HS9.out _ ?_; (repeat (first | with_reducible exact hbw | with_reducible exact Below.refl _ _ | apply Below.drew | apply Below.al2_ | fail "x")); done))
        (first
          | (go_at_call 43; refine (HFT.out _ (by (repeat (first | with_reducible exact hbw | with_reducible exact Below.refl _ _ | apply Below.drew | apply Below.al2_ | fail "x")))).mono ?_; rintro e w3 ⟨rfl, hbw⟩)
          | (go_at_call 30; refine (HRT.out _ (by (repeat (first | with_reducible exact hbw | with_reducible exact Below.refl _ _ | apply Below.drew | apply Below.al2_ | fail "x")))).mono ?_; rintro e w4 ⟨rfl, hbv⟩; clear hbw; have hbw := hbv; clear hbv; have z0 := (blk_cl (k := 0) (HFH.out _ hbw) rfl).1; have z0' := (blk_cl (k := 0) (HFH.out _ hbw) rfl).2; have z1 := (blk_cl (k := 1) (HFH.out _ hbw) rfl).1; have z1' := (blk_cl (k := 1) (HFH.out _ hbw) rfl).2; have y0 := (blk_cl (k := 0) (HRH.out _ hbw) rfl).1; have y0' := (blk_cl (k := 0) (HRH.out _ hbw) rfl).2; have y1 := (blk_cl (k := 1) (HRH.out _ hbw) rfl).1; have y1' := (blk_cl (k := 1) (HRH.out _ hbw) rfl).2)
          | fail "no arm")
      go_wp2_with fail
      have h4 := fin4 (a := .int .i64 (f.ver)) (b := .slice A n c) (c := .int .i64 (st)) (d := .slice B m d) (HFH.out _ hbw) (HRH.out _ hbw) (by omega)
      have e0 := (blk_cl (k := 0) h4.1 rfl).1
      have e1 := (blk_cl (k := 1) h4.1 rfl).1
      have e2 := (blk_cl (k := 0) h4.2 rfl).1
      have e3 := (blk_cl (k := 1) h4.2 rfl).1
      have hbF := fin4_below (p := w.heap.size + 1 + 1) (q := w.heap.size + 1 + 1 + 1) (a := .int .i64 (f.ver)) (b := .slice A n c) (c := .int .i64 (st)) (d := .slice B m d) (HBW.out.trans ((HB1.out.trans (hbw.mono hs1)).mono HBW.out.size)) (by omega) (by omega)
      exact bodyPost_ret (v := .tuple #[.agg #[.int .i64 (f.ver), .slice A n c], .agg #[.int .i64 (st), .slice B m d], .string ((flowTextS f ++ rtT f st done) ++ ⟨#[10]⟩)]) (by simp [results, Tryz.results29, go_sem, e0, e1, e2, e3]) rfl (by (rw [HE.out]; exact ⟨A, n, c, B, m, d, rfl, .inl ⟨rfl, rfl, rfl⟩, .inl ⟨rfl, rfl, rfl⟩, hmd, hbF⟩))
    by_cases hnx : line = nextT
    · subst hnx
      have q1' : (nextT.toList == [115, 104, 111, 119]) = false := by rw [q1]; decide
      have q2' : (nextT.toList == [110, 101, 120, 116]) = true := by rw [q2]; decide
      have HE := Lib.hid (HLX.out.trans (show wordsX (f, st, done) [nextT] = ((f, st, done), (⟨#[110, 101, 120, 116, 32]⟩ ++ namesS (nextL f st done)) ++ ⟨#[10]⟩) from rfl))
      have HN8 := Lib.hid (next_names (f := f) (st := st) (done := done))
      have g1 := names8 HN8.out.1 HN8.out.2
      have k1 : ¬ (9223372036854775807 < 5 + (namesS (nextL f st done)).size) := by omega
      have k2 : ¬ (9223372036854775807 < 5 + (namesS (nextL f st done)).size + 1) := by omega
      clear q1 q2 q3
      have HNX := Lib.hid (fun (cur : World) (h : Below w1.heap.size w1 cur) => (nextS_any A B n c m d f st done 0 0 cur (HRC.out _ h) HOK.out (HDC.out _ h) hm hmd).mono (R' := fun e w' => ∃ A' n' c', e = .returned (.slice A' n' c') ∧ RStr w' cur.heap.size A' n' (nextL f st done) ∧ Below w1.heap.size w1 w') (by
        rintro e w' ⟨A', n', c', h1, h2, h3⟩
        exact ⟨A', n', c', h1, h2, h.trans (h3.mono h.size)⟩))
      have HFH := Lib.hid (fun (cur : World) (h : Below w1.heap.size w1 cur) => (h.block _ (heap_lt HF1.out)).trans HF1.out)
      have HRH := Lib.hid (fun (cur : World) (h : Below w1.heap.size w1 cur) => (h.block _ (heap_lt HR1.out)).trans HR1.out)
      clear f0 f1 r0 r1
      go_wp2_with fail
      go_region_held3 (fun w' => (w'.cell? ⟨w.heap.size, 0, none⟩ = some (.int .i64 f.ver) ∧ w'.cell? ⟨w.heap.size, 1, none⟩ = some (.slice A n c)) ∧ (w'.cell? ⟨w.heap.size + 1, 0, none⟩ = some (.int .i64 st) ∧ w'.cell? ⟨w.heap.size + 1, 1, none⟩ = some (.slice B m d)))
        (((repeat (refine HKS.out _ _ _ _ (by omega) ?_)); refine HS9.out _ ?_; (repeat (first | with_reducible exact hbw | with_reducible exact Below.refl _ _ | apply Below.drew | apply Below.al2_ | fail "x")); done))
        (first
          | (go_at_call 45; refine (HNX.out _ (by (repeat (first | with_reducible exact hbw | with_reducible exact Below.refl _ _ | apply Below.drew | apply Below.al2_ | fail "x")))).mono ?_; rintro e w3 ⟨A3, n3, c3, rfl, h3, hbw⟩)
          | (go_at_call 44; refine (l41Names_any _ _ _ (nextL f st done) _ _ h3 (by (have := h3.1; have := HN8.out.1; omega)) (fun j hj => by (have := (nameB_size (HN8.out.2 j (by (have := h3.1; omega)))).2; omega))).mono ?_; rintro e w4 ⟨rfl, rfl⟩; have hbv := hbw; clear hbw; have hbw := hbv; clear hbv; have z0 := (blk_cl (k := 0) (HFH.out _ hbw) rfl).1; have z0' := (blk_cl (k := 0) (HFH.out _ hbw) rfl).2; have z1 := (blk_cl (k := 1) (HFH.out _ hbw) rfl).1; have z1' := (blk_cl (k := 1) (HFH.out _ hbw) rfl).2; have y0 := (blk_cl (k := 0) (HRH.out _ hbw) rfl).1; have y0' := (blk_cl (k := 0) (HRH.out _ hbw) rfl).2; have y1 := (blk_cl (k := 1) (HRH.out _ hbw) rfl).1; have y1' := (blk_cl (k := 1) (HRH.out _ hbw) rfl).2)
          | fail "no arm")
      go_wp2_with fail
      have h4 := fin4 (a := .int .i64 (f.ver)) (b := .slice A n c) (c := .int .i64 (st)) (d := .slice B m d) (HFH.out _ hbw) (HRH.out _ hbw) (by omega)
      have e0 := (blk_cl (k := 0) h4.1 rfl).1
      have e1 := (blk_cl (k := 1) h4.1 rfl).1
      have e2 := (blk_cl (k := 0) h4.2 rfl).1
      have e3 := (blk_cl (k := 1) h4.2 rfl).1
      have hbF := fin4_below (p := w.heap.size + 1 + 1) (q := w.heap.size + 1 + 1 + 1) (a := .int .i64 (f.ver)) (b := .slice A n c) (c := .int .i64 (st)) (d := .slice B m d) (HBW.out.trans ((HB1.out.trans (hbw.mono hs1)).mono HBW.out.size)) (by omega) (by omega)
      exact bodyPost_ret (v := .tuple #[.agg #[.int .i64 (f.ver), .slice A n c], .agg #[.int .i64 (st), .slice B m d], .string ((⟨#[110, 101, 120, 116, 32]⟩ ++ namesS (nextL f st done)) ++ ⟨#[10]⟩)]) (by simp [results, Tryz.results29, go_sem, e0, e1, e2, e3]) rfl (by (rw [HE.out]; exact ⟨A, n, c, B, m, d, rfl, .inl ⟨rfl, rfl, rfl⟩, .inl ⟨rfl, rfl, rfl⟩, hmd, hbF⟩))
    by_cases hnw : line = newT
    · subst hnw
      have q1' : (newT.toList == [115, 104, 111, 119]) = false := by rw [q1]; decide
      have q2' : (newT.toList == [110, 101, 120, 116]) = false := by rw [q2]; decide
      have q3' : (newT.toList == [110, 101, 119]) = true := by rw [q3]; decide
      have HE := Lib.hid (HLX.out.trans (show wordsX (f, st, done) [newT] = ((f, (0, [])), okT) from rfl))
      clear q1 q2 q3
      go_wp2_with fail
      refine (runNewS_any A n c f 0 _ (HRC.out _ (Below.refl _ _)) HOK.out).mono ?_
      rintro e w3 ⟨B3, d3, rfl, how3, hb3⟩
      have hbV0 := HB1.out.trans (hb3.mono hs1)
      have hbV := hbV0.alloc hbV0.size (.cells #[.int .i64 0, .slice B3 0 d3] 40)
      have HP3 := Lib.hid (heap_new (w := w3) (o := .cells #[.int .i64 0, .slice B3 0 d3] 40) rfl)
      have hw3 : w.heap.size + 1 + 1 + 1 < w3.heap.size := by have := hbV0.size; omega
      clear f0 f1 r0 r1
      obtain ⟨⟨f0, f1⟩, r0, r1⟩ := HSB.out _ hbV
      have p0 := (blk_cl (k := 0) HP3.out rfl).1
      have p1 := (blk_cl (k := 1) HP3.out rfl).1
      clear hb3 hbV0 how3
      have HF9 := Lib.hid ((hbV.block _ (heap_lt HF.out)).trans HF.out)
      have HR9 := Lib.hid ((hbV.block _ hrl).trans HR.out)
      have z0 := (blk_cl (k := 0) HF9.out rfl).1
      have z0' := (blk_cl (k := 0) HF9.out rfl).2
      have z1 := (blk_cl (k := 1) HF9.out rfl).1
      have z1' := (blk_cl (k := 1) HF9.out rfl).2
      have y0 := (blk_cl (k := 0) HR9.out rfl).1
      have y0' := (blk_cl (k := 0) HR9.out rfl).2
      have y1 := (blk_cl (k := 1) HR9.out rfl).1
      have y1' := (blk_cl (k := 1) HR9.out rfl).2
      go_wp2_with fail
      go_region
      go_wp2_with fail
      have h4 := fin4 (a := .int .i64 (f.ver)) (b := .slice A n c) (c := .int .i64 (0)) (d := .slice B3 0 d3) HF9.out HR9.out (by omega)
      have e0 := (blk_cl (k := 0) h4.1 rfl).1
      have e1 := (blk_cl (k := 1) h4.1 rfl).1
      have e2 := (blk_cl (k := 0) h4.2 rfl).1
      have e3 := (blk_cl (k := 1) h4.2 rfl).1
      have hbF := (fin4_below (p := w.heap.size + 1 + 1) (q := w.heap.size + 1 + 1 + 1) (a := .int .i64 (f.ver)) (b := .slice A n c) (c := .int .i64 (0)) (d := .slice B3 0 d3) (HBW.out.trans (hbV.mono HBW.out.size)) (by omega) (by omega)).drew
      exact bodyPost_ret (v := .tuple #[.agg #[.int .i64 (f.ver), .slice A n c], .agg #[.int .i64 (0), .slice B3 0 d3], .string okT]) (by simp [results, Tryz.results29, go_sem, World.cell?_drew, e0, e1, e2, e3]; rfl) rfl (by (rw [HE.out]; exact ⟨A, n, c, B3, 0, d3, rfl, .inl ⟨rfl, rfl, rfl⟩, .inr RL.nil, Nat.zero_le _, hbF⟩))
    have q1' : (line.toList == [115, 104, 111, 119]) = false := by rw [q1]; exact decide_eq_false hsh
    have q2' : (line.toList == [110, 101, 120, 116]) = false := by rw [q2]; exact decide_eq_false hnx
    have q3' : (line.toList == [110, 101, 119]) = false := by rw [q3]; exact decide_eq_false hnw
    have HE := Lib.hid (HLX.out.trans (show wordsX (f, st, done) [line] = ((f, st, done), whatT) by show oneX _ line = _; unfold oneX; rw [if_neg hnw, if_neg hnx, if_neg hsh]))
    clear q1 q2 q3 hsh hnx hnw hw HWL
    have HF9 := Lib.hid ((hb1.block _ (heap_lt HF.out)).trans HF.out)
    have HR9 := Lib.hid ((hb1.block _ hrl).trans HR.out)
    have z0 := (blk_cl (k := 0) HF9.out rfl).1
    have z0' := (blk_cl (k := 0) HF9.out rfl).2
    have z1 := (blk_cl (k := 1) HF9.out rfl).1
    have z1' := (blk_cl (k := 1) HF9.out rfl).2
    have y0 := (blk_cl (k := 0) HR9.out rfl).1
    have y0' := (blk_cl (k := 0) HR9.out rfl).2
    have y1 := (blk_cl (k := 1) HR9.out rfl).1
    have y1' := (blk_cl (k := 1) HR9.out rfl).2
    go_wp2_with fail
    go_region
    go_wp2_with fail
    have h4 := fin4 (a := .int .i64 (f.ver)) (b := .slice A n c) (c := .int .i64 (st)) (d := .slice B m d) HF9.out HR9.out (by omega)
    have e0 := (blk_cl (k := 0) h4.1 rfl).1
    have e1 := (blk_cl (k := 1) h4.1 rfl).1
    have e2 := (blk_cl (k := 0) h4.2 rfl).1
    have e3 := (blk_cl (k := 1) h4.2 rfl).1
    have hbF := (fin4_below (p := w.heap.size + 1 + 1) (q := w.heap.size + 1 + 1 + 1) (a := .int .i64 (f.ver)) (b := .slice A n c) (c := .int .i64 (st)) (d := .slice B m d) (HBW.out.trans (hb1.mono HBW.out.size)) (by omega) (by omega)).drew
    exact bodyPost_ret (v := .tuple #[.agg #[.int .i64 (f.ver), .slice A n c], .agg #[.int .i64 (st), .slice B m d], .string whatT]) (by simp [results, Tryz.results29, go_sem, World.cell?_drew, e0, e1, e2, e3]; rfl) rfl (by (rw [HE.out]; exact ⟨A, n, c, B, m, d, rfl, .inl ⟨rfl, rfl, rfl⟩, .inl ⟨rfl, rfl, rfl⟩, hmd, hbF⟩))
  · rw [hw] at HLX HS1
    rw [hw]
    have hb1 := HB1.out
    obtain ⟨kb, wcs, rfl, hkb, hwb, hc0, hc1⟩ := Own2.cells HS1.out
    have HWB := Lib.hid hwb; clear hwb
    have HWC := Lib.hid (fun (cur : World) (h : Below w1.heap.size w1 cur) => (show cur.cell? ⟨kb, 0, none⟩ = some (.string a) ∧ cur.cell? ⟨kb, 1, none⟩ = some (.string b) from by
      have e := (h.block _ (heap_lt HWB.out)).trans HWB.out
      exact ⟨(blk_cl e hc0).1, (blk_cl e hc1).1⟩))
    have hkl := heap_lt HWB.out
    clear hc0 hc1
    have q1' : (line.toList == [115, 104, 111, 119]) = false := by rw [q1]; exact decide_eq_false n1
    have q2' : (line.toList == [110, 101, 120, 116]) = false := by rw [q2]; exact decide_eq_false n2
    have q3' : (line.toList == [110, 101, 119]) = false := by rw [q3]; exact decide_eq_false n3
    have HE0 := Lib.hid (HLX.out.trans (show wordsX (f, st, done) [a, b] = twoX (f, st, done) a b from rfl))
    have hbz : b.size ≤ 1048576 := by
      have := words_sz (line := line) (j := 1) (by rw [hw]; exact Nat.le_refl 2)
      rw [hw] at this
      have e : nth [a, b] 1 = b := rfl
      rw [e] at this
      omega
    have HKW := Lib.hid (kindW_range a)
    clear q1 q2 q3 n1 n2 n3 hw HWL
    obtain ⟨c0, c1'⟩ := HWC.out _ (Below.refl _ _)
    have hl2 : ((([a, b] : List Str).length : Int) == 2) = true := rfl
    by_cases hk : kindW a = 0
    · have HE1 := Lib.hid (HE0.out.trans (by unfold twoX; rw [if_neg (by rw [hk]; simp)] : twoX (f, st, done) a b = if chgW a ≠ 0 then flowX (f, st, done) (chgW a) b else ((f, st, done), whatT)))
      by_cases hcw : chgW a = 0
      · have HE := Lib.hid (HE1.out.trans (if_neg (by rw [hcw]; simp)))
        have HF9 := Lib.hid ((hb1.block _ (heap_lt HF.out)).trans HF.out)
        have HR9 := Lib.hid ((hb1.block _ hrl).trans HR.out)
        have z0 := (blk_cl (k := 0) HF9.out rfl).1
        have z0' := (blk_cl (k := 0) HF9.out rfl).2
        have z1 := (blk_cl (k := 1) HF9.out rfl).1
        have z1' := (blk_cl (k := 1) HF9.out rfl).2
        have y0 := (blk_cl (k := 0) HR9.out rfl).1
        have y0' := (blk_cl (k := 0) HR9.out rfl).2
        have y1 := (blk_cl (k := 1) HR9.out rfl).1
        have y1' := (blk_cl (k := 1) HR9.out rfl).2
        go_wp2_with (first | (go_at_call 46; refine (l51Kind_any a _).mono ?_; rintro e w9 ⟨rfl, rfl⟩; (try rw [hk])) | (go_at_call 48; refine (l51Change_any a _).mono ?_; rintro e w9 ⟨rfl, rfl⟩; (try rw [hcw])) | fail "no arm")
        go_region
        go_wp2_with fail
        have h4 := fin4 (a := .int .i64 (f.ver)) (b := .slice A n c) (c := .int .i64 (st)) (d := .slice B m d) HF9.out HR9.out (by omega)
        have e0 := (blk_cl (k := 0) h4.1 rfl).1
        have e1 := (blk_cl (k := 1) h4.1 rfl).1
        have e2 := (blk_cl (k := 0) h4.2 rfl).1
        have e3 := (blk_cl (k := 1) h4.2 rfl).1
        have hbF := (fin4_below (p := w.heap.size + 1 + 1) (q := w.heap.size + 1 + 1 + 1) (a := .int .i64 (f.ver)) (b := .slice A n c) (c := .int .i64 (st)) (d := .slice B m d) (HBW.out.trans (hb1.mono HBW.out.size)) (by omega) (by omega)).drew
        exact bodyPost_ret (v := .tuple #[.agg #[.int .i64 (f.ver), .slice A n c], .agg #[.int .i64 (st), .slice B m d], .string whatT]) (by simp [results, Tryz.results29, go_sem, World.cell?_drew, e0, e1, e2, e3]; rfl) rfl (by (rw [HE.out]; exact ⟨A, n, c, B, m, d, rfl, .inl ⟨rfl, rfl, rfl⟩, .inl ⟨rfl, rfl, rfl⟩, hmd, hbF⟩))
      · have HE := Lib.hid (HE1.out.trans (if_pos hcw))
        have HCR := Lib.hid (chgW_range a)
        have hcp : decide (0 < chgW a) = true := decide_eq_true (by have := HCR.out; omega)
        have HS92 : Hid (∀ w', Below w1.heap.size w1 w' → (fun w' => ((w'.cell? ⟨w.heap.size, 0, none⟩ = some (.int .i64 f.ver) ∧ w'.cell? ⟨w.heap.size, 1, none⟩ = some (.slice A n c)) ∧ (w'.cell? ⟨w.heap.size + 1, 0, none⟩ = some (.int .i64 st) ∧ w'.cell? ⟨w.heap.size + 1, 1, none⟩ = some (.slice B m d))) ∧ (w'.cell? ⟨kb, 0, none⟩ = some (.string a) ∧ w'.cell? ⟨kb, 1, none⟩ = some (.string b))) w') := Lib.hid (fun w' h => ⟨HS9.out _ h, HWC.out _ h⟩)
        have HKS2 : Hid (∀ (w' : World) (p o : Nat) (u : Value), w.heap.size + 1 < p → p ≠ kb → (fun w' => ((w'.cell? ⟨w.heap.size, 0, none⟩ = some (.int .i64 f.ver) ∧ w'.cell? ⟨w.heap.size, 1, none⟩ = some (.slice A n c)) ∧ (w'.cell? ⟨w.heap.size + 1, 0, none⟩ = some (.int .i64 st) ∧ w'.cell? ⟨w.heap.size + 1, 1, none⟩ = some (.slice B m d))) ∧ (w'.cell? ⟨kb, 0, none⟩ = some (.string a) ∧ w'.cell? ⟨kb, 1, none⟩ = some (.string b))) w' → (fun w' => ((w'.cell? ⟨w.heap.size, 0, none⟩ = some (.int .i64 f.ver) ∧ w'.cell? ⟨w.heap.size, 1, none⟩ = some (.slice A n c)) ∧ (w'.cell? ⟨w.heap.size + 1, 0, none⟩ = some (.int .i64 st) ∧ w'.cell? ⟨w.heap.size + 1, 1, none⟩ = some (.slice B m d))) ∧ (w'.cell? ⟨kb, 0, none⟩ = some (.string a) ∧ w'.cell? ⟨kb, 1, none⟩ = some (.string b))) (w'.setCell ⟨p, o, none⟩ u)) := Lib.hid (fun w' p o u hp hk h =>
          ⟨HKS.out w' p o u hp h.1, (World.cell?_setCell_other _ _ _ _ (fun e => by injection e; omega)).trans h.2.1, (World.cell?_setCell_other _ _ _ _ (fun e => by injection e; omega)).trans h.2.2⟩)
        have HFX2 := Lib.hid (fun (cur : World) (h : Below w1.heap.size w1 cur) => (l51Flow_any A B n c m d (f, st, done) (chgW a) b cur (HRC.out _ h) (HDC.out _ h) hmd HGS.out hbz).mono (R' := fun e w' => ∃ (A' : Option Addr) (n' c' : Nat) (B' : Option Addr) (m' d' : Nat), e = .returned (.tuple #[.agg #[.int .i64 (flowX (f, st, done) (chgW a) b).1.1.ver, .slice A' n' c'], .agg #[.int .i64 (flowX (f, st, done) (chgW a) b).1.2.1, .slice B' m' d'], .string (flowX (f, st, done) (chgW a) b).2]) ∧ ((A' = A ∧ n' = n ∧ (flowX (f, st, done) (chgW a) b).1.1.steps = f.steps) ∨ RStep w' w1.heap.size A' n' (flowX (f, st, done) (chgW a) b).1.1.steps) ∧ ((B' = B ∧ m' = m ∧ (flowX (f, st, done) (chgW a) b).1.2.2 = done) ∨ RStr w' w1.heap.size B' m' (flowX (f, st, done) (chgW a) b).1.2.2) ∧ m' ≤ d' ∧ Below w1.heap.size w1 w') (by
          rintro e w' ⟨A', n', c', B', m', d', h1, h2, h3, h4, h5⟩
          exact ⟨A', n', c', B', m', d', h1, h2.imp id (fun h9 => h9.lower h.size), h3.imp id (fun h9 => h9.lower h.size), h4, h.trans (h5.mono h.size)⟩))
        go_upto_region 15 with (first | (go_at_call 46; refine (l51Kind_any a _).mono ?_; rintro e w9 ⟨rfl, rfl⟩; (try rw [hk])) | (go_at_call 48; refine (l51Change_any a _).mono ?_; rintro e w9 ⟨rfl, rfl⟩) | fail "no arm")
        generalize hfx : flowX (f, st, done) (chgW a) b = X at *
        have HFH := Lib.hid (fun (cur : World) (h : Below w1.heap.size w1 cur) => (h.block _ (heap_lt HF1.out)).trans HF1.out)
        have HRH := Lib.hid (fun (cur : World) (h : Below w1.heap.size w1 cur) => (h.block _ (heap_lt HR1.out)).trans HR1.out)
        clear f0 f1 r0 r1
        clear c0 c1'
        go_wp2_with fail
        go_region_held3 (fun w' => ((w'.cell? ⟨w.heap.size, 0, none⟩ = some (.int .i64 f.ver) ∧ w'.cell? ⟨w.heap.size, 1, none⟩ = some (.slice A n c)) ∧ (w'.cell? ⟨w.heap.size + 1, 0, none⟩ = some (.int .i64 st) ∧ w'.cell? ⟨w.heap.size + 1, 1, none⟩ = some (.slice B m d))) ∧ (w'.cell? ⟨kb, 0, none⟩ = some (.string a) ∧ w'.cell? ⟨kb, 1, none⟩ = some (.string b)))
          (((repeat (refine HKS2.out _ _ _ _ (by omega) (by omega) ?_)); refine HS92.out _ ?_; (repeat (first | with_reducible exact hbw | with_reducible exact Below.refl _ _ | apply Below.drew | apply Below.al2_ | fail "x")); done))
          (first
            | (go_at_call 48; refine (l51Change_any a _).mono ?_; rintro e w9 ⟨rfl, rfl⟩)
            | (go_at_call 49; refine (HFX2.out _ (by (repeat (first | with_reducible exact hbw | with_reducible exact Below.refl _ _ | apply Below.drew | apply Below.al2_ | fail "x")))).mono ?_; rintro e w4 ⟨A4, n4, c4, B4, m4, d4, rfl, h4, h5, hmd4, hbv⟩; (try clear hbw); have hbw := Lib.hid hbv; clear hbv; replace hbw := hbw.out; have z0 := (blk_cl (k := 0) (HFH.out _ hbw) rfl).1; have z0' := (blk_cl (k := 0) (HFH.out _ hbw) rfl).2; have z1 := (blk_cl (k := 1) (HFH.out _ hbw) rfl).1; have z1' := (blk_cl (k := 1) (HFH.out _ hbw) rfl).2; have y0 := (blk_cl (k := 0) (HRH.out _ hbw) rfl).1; have y0' := (blk_cl (k := 0) (HRH.out _ hbw) rfl).2; have y1 := (blk_cl (k := 1) (HRH.out _ hbw) rfl).1; have y1' := (blk_cl (k := 1) (HRH.out _ hbw) rfl).2)
            | fail "no arm")
        go_wp2_with fail
        have h4' := Lib.hid h4
        replace h4' := h4'.out
        clear h4
        have h4 := fin4 (a := .int .i64 (X.1.1.ver)) (b := .slice A4 n4 c4) (c := .int .i64 (X.1.2.1)) (d := .slice B4 m4 d4) (HFH.out _ hbw) (HRH.out _ hbw) (by omega)
        have e0 := (blk_cl (k := 0) h4.1 rfl).1
        have e1 := (blk_cl (k := 1) h4.1 rfl).1
        have e2 := (blk_cl (k := 0) h4.2 rfl).1
        have e3 := (blk_cl (k := 1) h4.2 rfl).1
        have hbF := fin4_below (p := w.heap.size + 1 + 1) (q := w.heap.size + 1 + 1 + 1) (a := .int .i64 (X.1.1.ver)) (b := .slice A4 n4 c4) (c := .int .i64 (X.1.2.1)) (d := .slice B4 m4 d4) (HBW.out.trans ((HB1.out.trans (hbw.mono hs1)).mono HBW.out.size)) (by omega) (by omega)
        exact bodyPost_ret (v := .tuple #[.agg #[.int .i64 (X.1.1.ver), .slice A4 n4 c4], .agg #[.int .i64 (X.1.2.1), .slice B4 m4 d4], .string X.2]) (by simp [results, Tryz.results29, go_sem, e0, e1, e2, e3]) rfl (by (rw [HE.out]; exact ⟨A4, n4, c4, B4, m4, d4, rfl, h4'.imp id (fun h9 => (fin4_low h9 (by omega) (by omega)).lower (by omega)), h5.imp id (fun h9 => (fin4_low h9 (by omega) (by omega)).lower (by omega)), hmd4, hbF⟩))
    have hkp : decide (0 < kindW a) = true := decide_eq_true (by have := HKW.out; omega)
    have HE1 := Lib.hid (HE0.out.trans (by unfold twoX; rw [if_pos hk] : twoX (f, st, done) a b = if evB f st done (kindW a) b = true then ((f, evR f st done (kindW a) b), okT) else ((f, st, done), noT)))
    have HS92 : Hid (∀ w', Below w1.heap.size w1 w' → (fun w' => ((w'.cell? ⟨w.heap.size, 0, none⟩ = some (.int .i64 f.ver) ∧ w'.cell? ⟨w.heap.size, 1, none⟩ = some (.slice A n c)) ∧ (w'.cell? ⟨w.heap.size + 1, 0, none⟩ = some (.int .i64 st) ∧ w'.cell? ⟨w.heap.size + 1, 1, none⟩ = some (.slice B m d))) ∧ (w'.cell? ⟨kb, 0, none⟩ = some (.string a) ∧ w'.cell? ⟨kb, 1, none⟩ = some (.string b))) w') := Lib.hid (fun w' h => ⟨HS9.out _ h, HWC.out _ h⟩)
    have HKS2 : Hid (∀ (w' : World) (p o : Nat) (u : Value), w.heap.size + 1 < p → p ≠ kb → (fun w' => ((w'.cell? ⟨w.heap.size, 0, none⟩ = some (.int .i64 f.ver) ∧ w'.cell? ⟨w.heap.size, 1, none⟩ = some (.slice A n c)) ∧ (w'.cell? ⟨w.heap.size + 1, 0, none⟩ = some (.int .i64 st) ∧ w'.cell? ⟨w.heap.size + 1, 1, none⟩ = some (.slice B m d))) ∧ (w'.cell? ⟨kb, 0, none⟩ = some (.string a) ∧ w'.cell? ⟨kb, 1, none⟩ = some (.string b))) w' → (fun w' => ((w'.cell? ⟨w.heap.size, 0, none⟩ = some (.int .i64 f.ver) ∧ w'.cell? ⟨w.heap.size, 1, none⟩ = some (.slice A n c)) ∧ (w'.cell? ⟨w.heap.size + 1, 0, none⟩ = some (.int .i64 st) ∧ w'.cell? ⟨w.heap.size + 1, 1, none⟩ = some (.slice B m d))) ∧ (w'.cell? ⟨kb, 0, none⟩ = some (.string a) ∧ w'.cell? ⟨kb, 1, none⟩ = some (.string b))) (w'.setCell ⟨p, o, none⟩ u)) := Lib.hid (fun w' p o u hp hk h =>
      ⟨HKS.out w' p o u hp h.1, (World.cell?_setCell_other _ _ _ _ (fun e => by injection e; omega)).trans h.2.1, (World.cell?_setCell_other _ _ _ _ (fun e => by injection e; omega)).trans h.2.2⟩)
    have HEV := Lib.hid (fun (cur : World) (h : Below w1.heap.size w1 cur) => (evS_any A B n c m d f st done (kindW a) b 0 0 cur (HRC.out _ h) HOK.out (HDC.out _ h) hm hmd).mono (R' := fun e w' => ∃ (B' : Option Addr) (m' d' : Nat), e = .returned (.tuple #[.agg #[.int .i64 (evR f st done (kindW a) b).1, .slice B' m' d'], .bool (evB f st done (kindW a) b)]) ∧ RStr w' cur.heap.size B' m' (evR f st done (kindW a) b).2 ∧ m' ≤ d' ∧ Below w1.heap.size w1 w' ∧ Below cur.heap.size cur w') (by
      rintro e w' ⟨B', m', d', h1, h2, h3⟩
      obtain ⟨A9, c9, e9, h9⟩ := own_str h2
      injection e9 with e9 _ _
      subst e9
      exact ⟨B', m', d', h1, h9, row_cap h2, h.trans (h3.mono h.size), h3⟩))
    go_upto_region 10 with (first | (go_at_call 46; refine (l51Kind_any a _).mono ?_; rintro e w9 ⟨rfl, rfl⟩) | fail "no arm")
    generalize evR f st done (kindW a) b = Y at *
    clear c0 c1' f0 f1 r0 r1
    go_cut [12, 13] (fun s12 s13 wx => ∃ (p : Nat) (B' : Option Addr) (m' d' : Nat), s12 = .pointer (some ⟨p, 0, none⟩) ∧ s13 = .bool (evB f st done (kindW a) b) ∧ wx.heap[p]? = some (.cells #[.int .i64 Y.1, .slice B' m' d'] 40 (0, 0)) ∧ RStr wx w1.heap.size B' m' Y.2 ∧ m' ≤ d' ∧ Below w1.heap.size w1 wx ∧ w1.heap.size ≤ p)
    case first =>
      have hnl : w1.heap.size ≠ kb := by omega
      have hn3 : w.heap.size + 1 < w1.heap.size := by omega
      go_region_held3 (fun w' => ((w'.cell? ⟨w.heap.size, 0, none⟩ = some (.int .i64 f.ver) ∧ w'.cell? ⟨w.heap.size, 1, none⟩ = some (.slice A n c)) ∧ (w'.cell? ⟨w.heap.size + 1, 0, none⟩ = some (.int .i64 st) ∧ w'.cell? ⟨w.heap.size + 1, 1, none⟩ = some (.slice B m d))) ∧ (w'.cell? ⟨kb, 0, none⟩ = some (.string a) ∧ w'.cell? ⟨kb, 1, none⟩ = some (.string b)))
        (((repeat (refine HKS2.out _ _ _ _ (by omega) (by omega) ?_)); refine HS92.out _ ?_; (repeat (first | with_reducible exact hbw | with_reducible exact Below.refl _ _ | apply Below.drew | apply Below.al2_ | fail "x")); done))
        (first
          | (go_at_call 46; refine (l51Kind_any a _).mono ?_; rintro e w9 ⟨rfl, rfl⟩)
          | (go_at_call 47; refine (HEV.out _ (by (repeat (first | with_reducible exact hbw | with_reducible exact Below.refl _ _ | apply Below.drew | apply Below.al2_ | fail "x")))).mono ?_; rintro e w4 ⟨B4, m4, d4, rfl, h4, hmd4, hbw, hb4⟩; (first | (have hb5 := (hb4.block w1.heap.size (by simp)).trans (heap_new (b := w1.heap.size) (o := .cells #[.int .i64 0, .slice none 0 0] 40) rfl); have x0 := (blk_cl (k := 0) hb5 rfl).1; have x0' := (blk_cl (k := 0) hb5 rfl).2; have x1 := (blk_cl (k := 1) hb5 rfl).1; have x1' := (blk_cl (k := 1) hb5 rfl).2) | skip))
          | fail "no arm")
      all_goals
        go_wp2_with fail
        go_meet
        first
          | with_reducible exact ⟨_, B4, m4, d4, rfl, rfl, heap_new rfl, (h4.lower (Nat.le_refl _)).alloc _, hmd4, hbw.alloc hbw.size _, hbw.size⟩
          | exact ⟨_, B4, m4, d4, rfl, rfl, set21 (set20 hb5), ((h4.setLow (by simp)).setLow (by simp)).lower (by simp), hmd4, (hbw.setCell (p := ⟨w1.heap.size, 0, none⟩) (Nat.le_refl _) _).setCell (p := ⟨w1.heap.size, 1, none⟩) (Nat.le_refl _) _, Nat.le_refl _⟩
    case rest =>
      obtain ⟨p, B5, m5, d5, rfl, rfl, hp5, h5, hmd5, hbw, hpl⟩ := hcut
      have hbV := HB1.out.trans (hbw.mono hs1)
      obtain ⟨⟨f0, f1⟩, r0, r1⟩ := HS9.out _ hbw
      have p0 := (blk_cl (k := 0) hp5 rfl).1
      have p1 := (blk_cl (k := 1) hp5 rfl).1
      have hpw : w.heap.size + 1 + 1 + 1 < p := by omega
      cases hev : evB f st done (kindW a) b
      · have HE := Lib.hid (HE1.out.trans (if_neg (by rw [hev]; simp)))
        have HF9 := Lib.hid ((hbV.block _ (heap_lt HF.out)).trans HF.out)
        have HR9 := Lib.hid ((hbV.block _ hrl).trans HR.out)
        have z0 := (blk_cl (k := 0) HF9.out rfl).1
        have z0' := (blk_cl (k := 0) HF9.out rfl).2
        have z1 := (blk_cl (k := 1) HF9.out rfl).1
        have z1' := (blk_cl (k := 1) HF9.out rfl).2
        have y0 := (blk_cl (k := 0) HR9.out rfl).1
        have y0' := (blk_cl (k := 0) HR9.out rfl).2
        have y1 := (blk_cl (k := 1) HR9.out rfl).1
        have y1' := (blk_cl (k := 1) HR9.out rfl).2
        go_wp2_with fail
        go_region
        go_wp2_with fail
        have h4 := fin4 (a := .int .i64 (f.ver)) (b := .slice A n c) (c := .int .i64 (st)) (d := .slice B m d) HF9.out HR9.out (by omega)
        have e0 := (blk_cl (k := 0) h4.1 rfl).1
        have e1 := (blk_cl (k := 1) h4.1 rfl).1
        have e2 := (blk_cl (k := 0) h4.2 rfl).1
        have e3 := (blk_cl (k := 1) h4.2 rfl).1
        have hbF := (fin4_below (p := w.heap.size + 1 + 1) (q := w.heap.size + 1 + 1 + 1) (a := .int .i64 (f.ver)) (b := .slice A n c) (c := .int .i64 (st)) (d := .slice B m d) (HBW.out.trans (hbV.mono HBW.out.size)) (by omega) (by omega)).drew
        exact bodyPost_ret (v := .tuple #[.agg #[.int .i64 (f.ver), .slice A n c], .agg #[.int .i64 (st), .slice B m d], .string noT]) (by simp [results, Tryz.results29, go_sem, World.cell?_drew, e0, e1, e2, e3]; rfl) rfl (by (rw [HE.out]; exact ⟨A, n, c, B, m, d, rfl, .inl ⟨rfl, rfl, rfl⟩, .inl ⟨rfl, rfl, rfl⟩, hmd, hbF⟩))
      · have HE := Lib.hid (HE1.out.trans (if_pos hev))
        have HF9 := Lib.hid ((hbV.block _ (heap_lt HF.out)).trans HF.out)
        have HR9 := Lib.hid ((hbV.block _ hrl).trans HR.out)
        have z0 := (blk_cl (k := 0) HF9.out rfl).1
        have z0' := (blk_cl (k := 0) HF9.out rfl).2
        have z1 := (blk_cl (k := 1) HF9.out rfl).1
        have z1' := (blk_cl (k := 1) HF9.out rfl).2
        have y0 := (blk_cl (k := 0) HR9.out rfl).1
        have y0' := (blk_cl (k := 0) HR9.out rfl).2
        have y1 := (blk_cl (k := 1) HR9.out rfl).1
        have y1' := (blk_cl (k := 1) HR9.out rfl).2
        go_wp2_with fail
        go_region
        go_wp2_with fail
        have h4 := fin4 (a := .int .i64 (f.ver)) (b := .slice A n c) (c := .int .i64 (Y.1)) (d := .slice B5 m5 d5) HF9.out HR9.out (by omega)
        have e0 := (blk_cl (k := 0) h4.1 rfl).1
        have e1 := (blk_cl (k := 1) h4.1 rfl).1
        have e2 := (blk_cl (k := 0) h4.2 rfl).1
        have e3 := (blk_cl (k := 1) h4.2 rfl).1
        have hbF := (fin4_below (p := w.heap.size + 1 + 1) (q := w.heap.size + 1 + 1 + 1) (a := .int .i64 (f.ver)) (b := .slice A n c) (c := .int .i64 (Y.1)) (d := .slice B5 m5 d5) (HBW.out.trans (hbV.mono HBW.out.size)) (by omega) (by omega)).drew
        exact bodyPost_ret (v := .tuple #[.agg #[.int .i64 (f.ver), .slice A n c], .agg #[.int .i64 (Y.1), .slice B5 m5 d5], .string okT]) (by simp [results, Tryz.results29, go_sem, World.cell?_drew, e0, e1, e2, e3]; rfl) rfl (by (rw [HE.out]; exact ⟨A, n, c, B5, m5, d5, rfl, .inl ⟨rfl, rfl, rfl⟩, .inr ((fin4_low h5 (by omega) (by omega)).lower (by omega)).drew, hmd5, hbF⟩))
  · have hb1 := HB1.out
    have q1' : (line.toList == [115, 104, 111, 119]) = false := by rw [q1]; exact decide_eq_false n1
    have q2' : (line.toList == [110, 101, 120, 116]) = false := by rw [q2]; exact decide_eq_false n2
    have q3' : (line.toList == [110, 101, 119]) = false := by rw [q3]; exact decide_eq_false n3
    have HE := Lib.hid (HLX.out.trans (show wordsX (f, st, done) (wordsOf line) = ((f, st, done), whatT) by rw [hw]; rfl))
    have hl2 : (((wordsOf line).length : Int) == 2) = false := by
      rw [hw, beq_eq_false_iff_ne]
      simp only [List.length_cons]
      omega
    clear q1 q2 q3 n1 n2 n3 hw
    have HF9 := Lib.hid ((hb1.block _ (heap_lt HF.out)).trans HF.out)
    have HR9 := Lib.hid ((hb1.block _ hrl).trans HR.out)
    have z0 := (blk_cl (k := 0) HF9.out rfl).1
    have z0' := (blk_cl (k := 0) HF9.out rfl).2
    have z1 := (blk_cl (k := 1) HF9.out rfl).1
    have z1' := (blk_cl (k := 1) HF9.out rfl).2
    have y0 := (blk_cl (k := 0) HR9.out rfl).1
    have y0' := (blk_cl (k := 0) HR9.out rfl).2
    have y1 := (blk_cl (k := 1) HR9.out rfl).1
    have y1' := (blk_cl (k := 1) HR9.out rfl).2
    go_wp2_with fail
    go_region
    go_wp2_with fail
    have h4 := fin4 (a := .int .i64 (f.ver)) (b := .slice A n c) (c := .int .i64 (st)) (d := .slice B m d) HF9.out HR9.out (by omega)
    have e0 := (blk_cl (k := 0) h4.1 rfl).1
    have e1 := (blk_cl (k := 1) h4.1 rfl).1
    have e2 := (blk_cl (k := 0) h4.2 rfl).1
    have e3 := (blk_cl (k := 1) h4.2 rfl).1
    have hbF := (fin4_below (p := w.heap.size + 1 + 1) (q := w.heap.size + 1 + 1 + 1) (a := .int .i64 (f.ver)) (b := .slice A n c) (c := .int .i64 (st)) (d := .slice B m d) (HBW.out.trans (hb1.mono HBW.out.size)) (by omega) (by omega)).drew
    exact bodyPost_ret (v := .tuple #[.agg #[.int .i64 (f.ver), .slice A n c], .agg #[.int .i64 (st), .slice B m d], .string whatT]) (by simp [results, Tryz.results29, go_sem, World.cell?_drew, e0, e1, e2, e3]; rfl) rfl (by (rw [HE.out]; exact ⟨A, n, c, B, m, d, rfl, .inl ⟨rfl, rfl, rfl⟩, .inl ⟨rfl, rfl, rfl⟩, hmd, hbF⟩))
end Go.Proofs.YthdfefgianokgaaGreatDoor

/- The flow at the beginning: the reference's. -/
namespace Go.Proofs.YthdfefgianokgaaGreatDoor
open Go.RowKit

theorem sstr_lit {w : World} {lo b : Nat} {cs : Array Value} (xs : List Str) (hb : w.heap[b]? = some (.cells cs 9 (0, 0))) (hlo : lo ≤ b) (hc : ∀ j, j < xs.length → cs[j]? = some (.string (nth xs j))) : SStr w lo (some ⟨b, 0, none⟩) xs.length xs :=
  ⟨rfl, fun _ => ⟨b, cs, rfl, hlo, hb, hc⟩⟩
def bookS : Step := ⟨⟨#[98, 111, 111, 107]⟩, [], true⟩
def payS : Step := ⟨⟨#[112, 97, 121]⟩, [⟨#[98, 111, 111, 107]⟩], true⟩
def shipS : Step := ⟨⟨#[115, 104, 105, 112]⟩, [⟨#[112, 97, 121]⟩], false⟩

set_option maxRecDepth 100000 in
set_option maxHeartbeats 4000000 in
theorem l51First_any (w : World) :
    Calls Tryz.prog 27 #[] w fun e w' => ∃ A c, e = .returned (.agg #[.int .i64 1, .slice A 3 c]) ∧ RStep w' w.heap.size A 3 steps0 ∧ Below w.heap.size w w' := by
  have HZ := Lib.hid (heap_old (o := .cells #[.int .i64 1, .slice none 0 0] 38) (heap_new (w := w) (o := .cells #[.int .i64 0, .slice none 0 0] 38) rfl))
  have HX := Lib.hid (heap_new (w := w.alloc (.cells #[.int .i64 0, .slice none 0 0] 38)) (b := w.heap.size + 1) (o := .cells #[.int .i64 1, .slice none 0 0] 38) (by simp))
  have HB := Lib.hid (((Below.refl w.heap.size w).alloc (Nat.le_refl _) (.cells #[.int .i64 0, .slice none 0 0] 38)).alloc (by simp) (.cells #[.int .i64 1, .slice none 0 0] 38))
  go_enter Tryz.func27, Tryz.ntmps27
  go_upto_region 2 with fail
  generalize (w.alloc (.cells #[.int .i64 0, .slice none 0 0] 38)).alloc (.cells #[.int .i64 1, .slice none 0 0] 38) = W at *
  have HN : Hid (SRow W w.heap.size (.slice none 0 0) 0 []) := Lib.hid ⟨[], rfl, own_nil, fun p hp => by cases hp⟩
  have hs0 := HB.out.size
  have hx0 := heap_lt HX.out
  have x1 := (blk_cl (k := 1) HX.out rfl).1
  have x1' := (blk_cl (k := 1) HX.out rfl).2
  go_wp2_with (at_builtin; refine app_stepW w.heap.size _ 0 [] _ bookS (some ⟨W.heap.size, 0, none⟩) 0 0 ?r0 ?r1 rfl (.tmp 4) (.tmp 7) rfl rfl rfl ?r2 (by omega) ?r3 ?_)
  case r0 => exact (HN.out.below ((Below.refl _ _).alloc (Nat.le_refl _) _)).below ((Below.refl _ _).alloc (Nat.le_refl _) _)
  case r1 => exact sstr_lit [] (heap_old (heap_new rfl)) hs0 (fun j hj => absurd hj (by simp))
  case r2 => first | exact heap_new rfl | exact heap_new (by simp) | (simp; rfl)
  case r3 => simp; omega
  intro v0 w0 hrow0 hg0 hat0
  obtain ⟨A0, c0, rfl, _⟩ := hrow0.hat
  have HX0 := Lib.hid (grown_blk hg0 (heap_old (heap_old HX.out)) (by simp [Value.ownBlock]))
  have HBn := Lib.hid (((HB.out.alloc hs0 (.cells #[] 9)).alloc (by simp; omega) (.cells #[.string ⟨#[98, 111, 111, 107]⟩, .slice (some ⟨W.heap.size, 0, none⟩) 0 0, .bool true] 35)).grown hg0 (by simp; omega) (fun b hb => by cases hb))
  have HNn := Lib.hid (hrow0.set (o := 1) (u := .slice A0 1 c0) HX0.out (by decide) (by decide))
  have HXn := Lib.hid (set21 (u := .slice A0 1 c0) HX0.out)
  have HBm := Lib.hid (HBn.out.setCell (p := ⟨w.heap.size + 1, 1, none⟩) (by show w.heap.size ≤ w.heap.size + 1; omega) (.slice A0 1 c0))
  have y1 := (blk_cl (k := 1) HX0.out rfl).1
  have y1' := (blk_cl (k := 1) HX0.out rfl).2
  have HZn := Lib.hid (set_ne (b := w.heap.size + 1) (o := 1) (u := .slice A0 1 c0) (grown_blk hg0 (heap_old (o := .cells #[.string ⟨#[98, 111, 111, 107]⟩, .slice (some ⟨W.heap.size, 0, none⟩) 0 0, .bool true] 35) (heap_old (o := .cells #[] 9) HZ.out)) (by simp [Value.ownBlock])) (by omega))
  clear x1 x1' hrow0 hat0 HX HN HB HX0 HBn HZ hg0
  have HX := Lib.hid HXn.out
  have HN := Lib.hid HNn.out
  have HB := Lib.hid HBm.out
  have HZ := Lib.hid HZn.out
  clear HXn HNn HBm HZn
  go_upto_region 3 with fail
  clear y1 y1'
  generalize w0.setCell ⟨w.heap.size + 1, 1, none⟩ (.slice A0 1 c0) = W0 at *
  have hs1 := HB.out.size
  have hx1 := heap_lt HX.out
  have x1 := (blk_cl (k := 1) HX.out rfl).1
  have x1' := (blk_cl (k := 1) HX.out rfl).2
  go_wp2_with (at_builtin; refine app_stepW w.heap.size _ 1 ([] ++ [bookS]) _ payS (some ⟨W0.heap.size, 0, none⟩) 1 1 ?r0 ?r1 rfl (.tmp 11) (.tmp 14) rfl rfl rfl ?r2 (by omega) ?r3 ?_)
  case r0 => exact (HN.out.below ((Below.refl _ _).alloc (Nat.le_refl _) _)).below ((Below.refl _ _).alloc (Nat.le_refl _) _)
  case r1 => exact sstr_lit [⟨#[98, 111, 111, 107]⟩] (heap_old (heap_new rfl)) hs1 (fun j hj => by (obtain rfl : j = 0 := by simp at hj; omega); rfl)
  case r2 => first | exact heap_new rfl | exact heap_new (by simp) | (simp; rfl)
  case r3 => simp; omega
  intro v1 w1 hrow1 hg1 hat1
  obtain ⟨A1, c1, rfl, _⟩ := hrow1.hat
  have HX1 := Lib.hid (grown_blk hg1 (heap_old (heap_old HX.out)) ((HN.out.ne HX.out (by decide))))
  have HBn := Lib.hid (((HB.out.alloc hs1 (.cells #[.string ⟨#[98, 111, 111, 107]⟩] 9)).alloc (by simp; omega) (.cells #[.string ⟨#[112, 97, 121]⟩, .slice (some ⟨W0.heap.size, 0, none⟩) 1 1, .bool true] 35)).grown hg1 (by simp; omega) (fun b hb => (SRow.lt HN.out hb).1))
  have HNn := Lib.hid (hrow1.set (o := 1) (u := .slice A1 2 c1) HX1.out (by decide) (by decide))
  have HXn := Lib.hid (set21 (u := .slice A1 2 c1) HX1.out)
  have HBm := Lib.hid (HBn.out.setCell (p := ⟨w.heap.size + 1, 1, none⟩) (by show w.heap.size ≤ w.heap.size + 1; omega) (.slice A1 2 c1))
  have y1 := (blk_cl (k := 1) HX1.out rfl).1
  have y1' := (blk_cl (k := 1) HX1.out rfl).2
  have HZn := Lib.hid (set_ne (b := w.heap.size + 1) (o := 1) (u := .slice A1 2 c1) (grown_blk hg1 (heap_old (o := .cells #[.string ⟨#[112, 97, 121]⟩, .slice (some ⟨W0.heap.size, 0, none⟩) 1 1, .bool true] 35) (heap_old (o := .cells #[.string ⟨#[98, 111, 111, 107]⟩] 9) HZ.out)) ((HN.out.ne HZ.out (by decide)))) (by omega))
  clear x1 x1' hrow1 hat1 HX HN HB HX1 HBn HZ hg1
  have HX := Lib.hid HXn.out
  have HN := Lib.hid HNn.out
  have HB := Lib.hid HBm.out
  have HZ := Lib.hid HZn.out
  clear HXn HNn HBm HZn
  go_upto_region 4 with fail
  clear y1 y1'
  generalize w1.setCell ⟨w.heap.size + 1, 1, none⟩ (.slice A1 2 c1) = W1 at *
  have hs2 := HB.out.size
  have hx2 := heap_lt HX.out
  have x1 := (blk_cl (k := 1) HX.out rfl).1
  have x1' := (blk_cl (k := 1) HX.out rfl).2
  go_wp2_with (at_builtin; refine app_stepW w.heap.size _ 2 (([] ++ [bookS]) ++ [payS]) _ shipS (some ⟨W1.heap.size, 0, none⟩) 1 1 ?r0 ?r1 rfl (.tmp 18) (.tmp 21) rfl rfl rfl ?r2 (by omega) ?r3 ?_)
  case r0 => exact (HN.out.below ((Below.refl _ _).alloc (Nat.le_refl _) _)).below ((Below.refl _ _).alloc (Nat.le_refl _) _)
  case r1 => exact sstr_lit [⟨#[112, 97, 121]⟩] (heap_old (heap_new rfl)) hs2 (fun j hj => by (obtain rfl : j = 0 := by simp at hj; omega); rfl)
  case r2 => first | exact heap_new rfl | exact heap_new (by simp) | (simp; rfl)
  case r3 => simp; omega
  intro v2 w2 hrow2 hg2 hat2
  obtain ⟨A2, c2, rfl, _⟩ := hrow2.hat
  have HX2 := Lib.hid (grown_blk hg2 (heap_old (heap_old HX.out)) ((HN.out.ne HX.out (by decide))))
  have HBn := Lib.hid (((HB.out.alloc hs2 (.cells #[.string ⟨#[112, 97, 121]⟩] 9)).alloc (by simp; omega) (.cells #[.string ⟨#[115, 104, 105, 112]⟩, .slice (some ⟨W1.heap.size, 0, none⟩) 1 1, .bool false] 35)).grown hg2 (by simp; omega) (fun b hb => (SRow.lt HN.out hb).1))
  have HNn := Lib.hid (hrow2.set (o := 1) (u := .slice A2 3 c2) HX2.out (by decide) (by decide))
  have HXn := Lib.hid (set21 (u := .slice A2 3 c2) HX2.out)
  have HBm := Lib.hid (HBn.out.setCell (p := ⟨w.heap.size + 1, 1, none⟩) (by show w.heap.size ≤ w.heap.size + 1; omega) (.slice A2 3 c2))
  have y1 := (blk_cl (k := 1) HX2.out rfl).1
  have y1' := (blk_cl (k := 1) HX2.out rfl).2
  have HZn := Lib.hid (set_ne (b := w.heap.size + 1) (o := 1) (u := .slice A2 3 c2) (grown_blk hg2 (heap_old (o := .cells #[.string ⟨#[115, 104, 105, 112]⟩, .slice (some ⟨W1.heap.size, 0, none⟩) 1 1, .bool false] 35) (heap_old (o := .cells #[.string ⟨#[112, 97, 121]⟩] 9) HZ.out)) ((HN.out.ne HZ.out (by decide)))) (by omega))
  clear x1 x1' hrow2 hat2 HX HN HB HX2 HBn HZ hg2
  have HX := Lib.hid HXn.out
  have HN := Lib.hid HNn.out
  have HB := Lib.hid HBm.out
  have HZ := Lib.hid HZn.out
  clear HXn HNn HBm HZn
  go_upto_region 5 with fail
  clear y1 y1'
  generalize w2.setCell ⟨w.heap.size + 1, 1, none⟩ (.slice A2 3 c2) = W2 at *
  have hs3 := HB.out.size
  have x0 := (blk_cl (k := 0) HX.out rfl).1
  have x1 := (blk_cl (k := 1) HX.out rfl).1
  have z0 := (blk_cl (k := 0) HZ.out rfl).1
  have z0' := (blk_cl (k := 0) HZ.out rfl).2
  have z1 := (blk_cl (k := 1) HZ.out rfl).1
  have z1' := (blk_cl (k := 1) HZ.out rfl).2
  obtain ⟨A9, c9, e9, h9⟩ := HN.out.hat
  injection e9 with e9 _ e10
  subst e9; subst e10
  go_wp2_with fail
  have hres := set21 (u := .slice A2 3 c2) (set20 (u := .int .i64 1) HZ.out)
  have e0 := (blk_cl (k := 0) hres rfl).1
  have e1 := (blk_cl (k := 1) hres rfl).1
  have hrow := (HN.out.set (o := 0) (u := .int .i64 1) HZ.out (by decide) (by decide)).set (o := 1) (u := .slice A2 3 c2) (set20 (u := .int .i64 1) HZ.out) (by decide) (by decide)
  obtain ⟨A9, c9, e9, h9⟩ := hrow.hat
  injection e9 with e9 _ e10
  subst e9; subst e10
  exact bodyPost_ret (v := .agg #[.int .i64 1, .slice A2 3 c2]) (by simp [results, Tryz.results27, go_sem, e0, e1]) rfl ⟨A2, ⟨c2, rfl⟩, h9, (HB.out.setCell (p := ⟨w.heap.size, 0, none⟩) (Nat.le_refl _) _).setCell (p := ⟨w.heap.size, 1, none⟩) (Nat.le_refl _) _⟩
end Go.Proofs.YthdfefgianokgaaGreatDoor

/- A script: the reference's. -/
namespace Go.Proofs.YthdfefgianokgaaGreatDoor
open Go.RowKit

/-- The flow's variable P and the run's Q hold a state whose lists lie elsewhere. -/
def FR (P Q : Nat) (s : St) (w : World) : Prop :=
  ∃ (A : Option Addr) (n c : Nat) (B : Option Addr) (m d lo hi lo' hi' : Nat), w.heap[P]? = some (.cells #[.int .i64 s.1.ver, .slice A n c] 38 (0, 0)) ∧ w.heap[Q]? = some (.cells #[.int .i64 s.2.1, .slice B m d] 40 (0, 0)) ∧
    (RH stepE w lo hi A n s.1.steps ∧ (hi ≤ P ∨ Q < lo) ∧ hi ≤ w.heap.size) ∧ (RH strE w lo' hi' B m s.2.2 ∧ (hi' ≤ P ∨ Q < lo') ∧ hi' ≤ w.heap.size) ∧ m ≤ d
theorem FR.below {P Q : Nat} {s : St} {w w' : World} (h : FR P Q s w) (hb : Below w.heap.size w w') : FR P Q s w' := by
  obtain ⟨A, n, c, B, m, d, lo, hi, lo', hi', h1, h2, ⟨h3, h4, h5⟩, ⟨h6, h7, h8⟩, h9⟩ := h
  exact ⟨A, n, c, B, m, d, lo, hi, lo', hi', (hb.block _ (heap_lt h1)).trans h1, (hb.block _ (heap_lt h2)).trans h2, ⟨h3.below hb h5, h4, Nat.le_trans h5 hb.size⟩, ⟨h6.below hb h8, h7, Nat.le_trans h8 hb.size⟩, h9⟩
theorem RH.far {α : Type} [Inhabited α] {E : Elem α} {w : World} {lo hi n P Q o : Nat} {A : Option Addr} {xs : List α} {u : Value} {p : Nat} (h : RH E w lo hi A n xs) (hd : hi ≤ P ∨ Q < lo) (hp : P ≤ p ∧ p ≤ Q) : RH E (w.setCell ⟨p, o, none⟩ u) lo hi A n xs :=
  h.same ⟨fun i h1 h2 => Below.heap_setCell w ⟨p, o, none⟩ u i (by intro e; have e2 : i = p := e; omega)⟩
theorem sz_set2 (w : World) (p q : Addr) (u v : Value) : w.heap.size = ((w.setCell p u).setCell q v).heap.size := by simp [World.setCell]
theorem blk_keep {w w' : World} {b : Nat} {x : Obj} (hb : Below w.heap.size w w') (h : w.heap[b]? = some x) : w'.heap[b]? = some x := (hb.block b (heap_lt h)).trans h
theorem FR.step {P Q : Nat} {s s' : St} {wr wx : World} {A A' B B' : Option Addr} {n n' c' m m' d' lo hi lo' hi' : Nat} {a0 a1 b0 b1 : Value} (hPQ : P < Q) (hQ : Q < wr.heap.size)
    (h3 : RH stepE wr lo hi A n s.1.steps) (h4 : hi ≤ P ∨ Q < lo) (h5 : hi ≤ wr.heap.size) (h6 : RH strE wr lo' hi' B m s.2.2) (h7 : hi' ≤ P ∨ Q < lo') (h8 : hi' ≤ wr.heap.size)
    (hb : Below wr.heap.size wr wx) (hP : wx.heap[P]? = some (.cells #[a0, a1] 38 (0, 0))) (hQ2 : wx.heap[Q]? = some (.cells #[b0, b1] 40 (0, 0)))
    (g1 : (A' = A ∧ n' = n ∧ s'.1.steps = s.1.steps) ∨ RStep wx wr.heap.size A' n' s'.1.steps) (g2 : (B' = B ∧ m' = m ∧ s'.2.2 = s.2.2) ∨ RStr wx wr.heap.size B' m' s'.2.2) (g3 : m' ≤ d') :
    FR P Q s' ((((wx.setCell ⟨P, 0, none⟩ (.int .i64 s'.1.ver)).setCell ⟨P, 1, none⟩ (.slice A' n' c')).setCell ⟨Q, 0, none⟩ (.int .i64 s'.2.1)).setCell ⟨Q, 1, none⟩ (.slice B' m' d')) := by
  have hcells := fin4 (a := .int .i64 s'.1.ver) (b := .slice A' n' c') (c := .int .i64 s'.2.1) (d := .slice B' m' d') hP hQ2 (by omega)
  have hsx := hb.size
  have hss : ((((wx.setCell ⟨P, 0, none⟩ (.int .i64 s'.1.ver)).setCell ⟨P, 1, none⟩ (.slice A' n' c')).setCell ⟨Q, 0, none⟩ (.int .i64 s'.2.1)).setCell ⟨Q, 1, none⟩ (.slice B' m' d')).heap.size = wx.heap.size := by simp [World.setCell]
  have hF : ∃ l h, RH stepE wx l h A' n' s'.1.steps ∧ (h ≤ P ∨ Q < l) ∧ h ≤ wx.heap.size := by
    rcases g1 with ⟨rfl, rfl, e⟩ | g
    · exact ⟨lo, hi, by rw [e]; exact h3.below hb h5, h4, by omega⟩
    · exact ⟨wr.heap.size, wx.heap.size, g.low, .inr hQ, Nat.le_refl _⟩
  have hR : ∃ l h, RH strE wx l h B' m' s'.2.2 ∧ (h ≤ P ∨ Q < l) ∧ h ≤ wx.heap.size := by
    rcases g2 with ⟨rfl, rfl, e⟩ | g
    · exact ⟨lo', hi', by rw [e]; exact h6.below hb h8, h7, by omega⟩
    · exact ⟨wr.heap.size, wx.heap.size, g.low, .inr hQ, Nat.le_refl _⟩
  obtain ⟨l, h, k1, k2, k3⟩ := hF
  obtain ⟨l', h', k4, k5, k6⟩ := hR
  refine ⟨A', n', c', B', m', d', l, h, l', h', hcells.1, hcells.2, ⟨?_, k2, by rw [hss]; exact k3⟩, ⟨?_, k5, by rw [hss]; exact k6⟩, g3⟩
  · exact RH.far (RH.far (RH.far (RH.far k1 k2 (by omega)) k2 (by omega)) k2 (by omega)) k2 (by omega)
  · exact RH.far (RH.far (RH.far (RH.far k4 k5 (by omega)) k5 (by omega)) k5 (by omega)) k5 (by omega)
theorem app_nil (x : Str) : x ++ (⟨#[]⟩ : Str) = x := by
  rw [← of_bs (x ++ (⟨#[]⟩ : Str)), bs_app]
  show ofBs (bs x ++ []) = x
  rw [List.append_nil]
  exact of_bs x
theorem cut_lines {t : Str} {ls : List Str} {p k : Nat} (h : CutInv 10 (bs t) ls p k) (hk : k = (bs t).length) : ls = allL t := by
  have := cinv_end h hk
  unfold allL
  rw [← this]
  simp

set_option maxRecDepth 100000 in
set_option maxHeartbeats 8000000 in
theorem exeS_any (t : Str) (w : World) : Calls Tryz.prog 15 #[.string t] w fun e w' => e = .returned (.string (exe t)) ∧ Below w.heap.size w w' := by
  by_cases hsz : 400 < t.size
  · have HE := Lib.hid (show exe t = longT by unfold exe; rw [if_pos hsz])
    go_enter Tryz.func15, Tryz.ntmps15
    go_wp2_with fail
    go_ret
    exact ⟨ret_s HE.out.symm, Below.refl _ _⟩
  have HE := Lib.hid (show exe t = endX (linesX st0 (allL t)) by unfold exe; rw [if_neg hsz])
  have ht : t.size ≤ 400 := by omega
  have hlen : (bs t).length = t.size := bs_len t
  have HOK0 := Lib.hid (okSteps_of good0.1)
  go_enter Tryz.func15, Tryz.ntmps15
  go_wp2_with fail
  refine (l51First_any _).mono ?_
  rintro e w1 ⟨A1, c1, rfl, hs1, hb1⟩
  have HLO := Lib.hid hs1.low
  have HS1 := Lib.hid (hs1.alloc (.cells #[.int .i64 1, .slice A1 3 c1] 38)); clear hs1
  have HP1 := Lib.hid (heap_new (w := w1) (o := .cells #[.int .i64 1, .slice A1 3 c1] 38) rfl)
  have HB1 := Lib.hid (hb1.alloc hb1.size (.cells #[.int .i64 1, .slice A1 3 c1] 38))
  have hw1 := hb1.size
  clear hb1
  have p0 := (blk_cl (k := 0) HP1.out rfl).1
  have p1 := (blk_cl (k := 1) HP1.out rfl).1
  have HS1L := Lib.hid HS1.out
  go_wp2_with fail
  refine (runNewS_any A1 3 c1 flow0 _ _ HS1.out HOK0.out).mono ?_
  rintro e w2 ⟨B2, d2, rfl, how2, hb2⟩
  have HB2 := Lib.hid ((HB1.out.trans (hb2.mono HB1.out.size)).alloc (by have := HB1.out.size; have := hb2.size; omega) (.cells #[.int .i64 0, .slice B2 0 d2] 40))
  have hw2 : w1.heap.size < w2.heap.size := by have := hb2.size; simp at this; omega
  have HFR : Hid (FR w1.heap.size w2.heap.size st0 (w2.alloc (.cells #[.int .i64 0, .slice B2 0 d2] 40))) := ⟨A1, 3, c1, B2, 0, d2, w.heap.size, w1.heap.size, 0, 0, heap_old ((hb2.block _ (heap_lt HP1.out)).trans HP1.out), heap_new rfl, ⟨HLO.out.below ((((Below.refl w1.heap.size w1).alloc (Nat.le_refl _) _).trans (hb2.mono (by simp))).alloc (by omega) _) (Nat.le_refl _), .inl (Nat.le_refl _), by simp; omega⟩, ⟨RH.nil, .inl (Nat.zero_le _), Nat.zero_le _⟩, Nat.zero_le _⟩
  clear p0 p1 how2 hb2 HS1 HP1 HB1 HS1L
  have hPQ := hw2
  have hPw := hw1
  have hQw : w.heap.size ≤ w2.heap.size := by omega
  go_upto_region 8 with fail
  generalize w2.alloc (.cells #[.int .i64 0, .slice B2 0 d2] 40) = W at *
  generalize w1.heap.size = P at *
  generalize w2.heap.size = Q at *
  go_loopw [6, 7, 8] (fun o fr i wr => ∃ (k p : Nat) (ls : List Str), k ≤ t.size ∧ p ≤ k ∧ ls.length ≤ k ∧ fr = .int .i64 (p : Int) ∧ i = .int .i64 (k : Int) ∧ o = .string (linesX st0 ls).2 ∧ CutInv 10 (bs t) ls p k ∧ FR P Q (linesX st0 ls).1 wr ∧ Below w.heap.size w wr) (fun _ _ i _ => t.size - (intOf i).toNat)
  case atStart => exact ⟨0, 0, [], Nat.zero_le _, Nat.le_refl _, Nat.le_refl _, rfl, rfl, rfl, cinv_start _ _, HFR.out, HB2.out⟩
  case round =>
    obtain ⟨k, p, ls, hk, hp, hls, rfl, rfl, rfl, hci, hfr, hb⟩ := hrel
    have HCI := Lib.hid hci; clear hci
    have HFRr := Lib.hid hfr; clear hfr
    have HBR := Lib.hid hb; clear hb
    have HGD := Lib.hid (good_lines ls good0)
    have hls2 := linesX_size st0 ls
    have hls3 : ls.length * 900 ≤ 400 * 900 := Nat.mul_le_mul_right _ (by omega)
    by_cases hlt : k < t.size
    · have hkb : k < (bs t).length := by omega
      obtain ⟨x, hx⟩ : ∃ x, t[k]'hlt = x := ⟨_, rfl⟩
      have hxb : (bs t)[k]'hkb = x := hx
      by_cases he : x = 10
      · have hq : ((x.toNat : Int) == 10) = true := by rw [he]; rfl
        have HI2 := Lib.hid (cinv_hit HCI.out hkb (hxb.trans he))
        clear he hxb
        have HLE := Lib.hid (show linesX st0 (ls ++ [t.extract p k]) = ((lineX (linesX st0 ls).1 (t.extract p k)).1, (linesX st0 ls).2 ++ (lineX (linesX st0 ls).1 (t.extract p k)).2) by
          rw [linesX_app]
          show (_, _ ++ ((lineX (linesX st0 ls).1 (t.extract p k)).2 ++ ⟨#[]⟩)) = _
          rw [app_nil]
          rfl)
        have hlz := line_size (linesX st0 ls).1 (t.extract p k)
        have hez : (t.extract p k).size ≤ 400 := by rw [ByteArray.size_extract]; omega
        generalize (linesX st0 ls).2 = o at *
        generalize (linesX st0 ls).1 = s at *
        generalize hline : t.extract p k = line at *
        have HX2 := Lib.hid hline; clear hline
        obtain ⟨A, n, c, B, m, d, lo, hi, lo', hi', h1, h2, ⟨h3, h4, h5⟩, ⟨h6, h7, h8⟩, h9⟩ := HFRr.out
        have HP := Lib.hid h1; clear h1
        have HQ := Lib.hid h2; clear h2
        have H3 := Lib.hid h3; clear h3
        have H6 := Lib.hid h6; clear h6
        have hpl := heap_lt HP.out
        have hql := heap_lt HQ.out
        have HSB : Hid (∀ w', Below wr.heap.size wr w' → (fun w' => (w'.cell? ⟨P, 0, none⟩ = some (.int .i64 s.1.ver) ∧ w'.cell? ⟨P, 1, none⟩ = some (.slice A n c)) ∧ (w'.cell? ⟨Q, 0, none⟩ = some (.int .i64 s.2.1) ∧ w'.cell? ⟨Q, 1, none⟩ = some (.slice B m d))) w') := Lib.hid (fun w' h => by
          have e1 := (h.block _ hpl).trans HP.out
          have e2 := (h.block _ hql).trans HQ.out
          exact ⟨⟨(blk_cl (k := 0) e1 rfl).1, (blk_cl (k := 1) e1 rfl).1⟩, (blk_cl (k := 0) e2 rfl).1, (blk_cl (k := 1) e2 rfl).1⟩)
        have HKS : Hid (∀ (w' : World) (b o : Nat) (u : Value), Q < b → (fun w' => (w'.cell? ⟨P, 0, none⟩ = some (.int .i64 s.1.ver) ∧ w'.cell? ⟨P, 1, none⟩ = some (.slice A n c)) ∧ (w'.cell? ⟨Q, 0, none⟩ = some (.int .i64 s.2.1) ∧ w'.cell? ⟨Q, 1, none⟩ = some (.slice B m d))) w' → (fun w' => (w'.cell? ⟨P, 0, none⟩ = some (.int .i64 s.1.ver) ∧ w'.cell? ⟨P, 1, none⟩ = some (.slice A n c)) ∧ (w'.cell? ⟨Q, 0, none⟩ = some (.int .i64 s.2.1) ∧ w'.cell? ⟨Q, 1, none⟩ = some (.slice B m d))) (w'.setCell ⟨b, o, none⟩ u)) := Lib.hid (fun w' b o u hb h =>
          ⟨⟨(World.cell?_setCell_other _ _ _ _ (fun e => by injection e; omega)).trans h.1.1, (World.cell?_setCell_other _ _ _ _ (fun e => by injection e; omega)).trans h.1.2⟩, (World.cell?_setCell_other _ _ _ _ (fun e => by injection e; omega)).trans h.2.1, (World.cell?_setCell_other _ _ _ _ (fun e => by injection e; omega)).trans h.2.2⟩)
        have HKA : Hid (∀ (w' : World) (o : Obj), (fun w' => (w'.cell? ⟨P, 0, none⟩ = some (.int .i64 s.1.ver) ∧ w'.cell? ⟨P, 1, none⟩ = some (.slice A n c)) ∧ (w'.cell? ⟨Q, 0, none⟩ = some (.int .i64 s.2.1) ∧ w'.cell? ⟨Q, 1, none⟩ = some (.slice B m d))) w' → (fun w' => (w'.cell? ⟨P, 0, none⟩ = some (.int .i64 s.1.ver) ∧ w'.cell? ⟨P, 1, none⟩ = some (.slice A n c)) ∧ (w'.cell? ⟨Q, 0, none⟩ = some (.int .i64 s.2.1) ∧ w'.cell? ⟨Q, 1, none⟩ = some (.slice B m d))) (w'.alloc o)) := Lib.hid (fun w' o h =>
          ⟨⟨(World.cell?_alloc_some w' _ o (by rw [h.1.1]; rfl)).trans h.1.1, (World.cell?_alloc_some w' _ o (by rw [h.1.2]; rfl)).trans h.1.2⟩, (World.cell?_alloc_some w' _ o (by rw [h.2.1]; rfl)).trans h.2.1, (World.cell?_alloc_some w' _ o (by rw [h.2.2]; rfl)).trans h.2.2⟩)
        have HKD : Hid (∀ (w' : World), (fun w' => (w'.cell? ⟨P, 0, none⟩ = some (.int .i64 s.1.ver) ∧ w'.cell? ⟨P, 1, none⟩ = some (.slice A n c)) ∧ (w'.cell? ⟨Q, 0, none⟩ = some (.int .i64 s.2.1) ∧ w'.cell? ⟨Q, 1, none⟩ = some (.slice B m d))) w' → (fun w' => (w'.cell? ⟨P, 0, none⟩ = some (.int .i64 s.1.ver) ∧ w'.cell? ⟨P, 1, none⟩ = some (.slice A n c)) ∧ (w'.cell? ⟨Q, 0, none⟩ = some (.int .i64 s.2.1) ∧ w'.cell? ⟨Q, 1, none⟩ = some (.slice B m d))) w'.drew) := Lib.hid (fun w' h => h)
        have HLN := Lib.hid (fun (cur : World) (h : Below wr.heap.size wr cur) => (l51Line_any A B n c m d s line cur (((H3.out.below h h5).up (Nat.le_trans h5 h.size)).lower (Nat.zero_le _)) (((H6.out.below h h8).up (Nat.le_trans h8 h.size)).lower (Nat.zero_le _)) h9 HGD.out hez).mono (R' := fun e w' => ∃ (A' : Option Addr) (n' c' : Nat) (B' : Option Addr) (m' d' L : Nat), e = .returned (.tuple #[.agg #[.int .i64 (lineX s line).1.1.ver, .slice A' n' c'], .agg #[.int .i64 (lineX s line).1.2.1, .slice B' m' d'], .string (lineX s line).2]) ∧ ((A' = A ∧ n' = n ∧ (lineX s line).1.1.steps = s.1.steps) ∨ RStep w' L A' n' (lineX s line).1.1.steps) ∧ ((B' = B ∧ m' = m ∧ (lineX s line).1.2.2 = s.2.2) ∨ RStr w' L B' m' (lineX s line).1.2.2) ∧ m' ≤ d' ∧ Below wr.heap.size wr w' ∧ Below cur.heap.size cur w' ∧ L = cur.heap.size) (by
          rintro e w' ⟨A', n', c', B', m', d', g1, g2, g3, g4, g5⟩
          exact ⟨A', n', c', B', m', d', _, g1, g2, g3, g4, h.trans (g5.mono h.size), g5, rfl⟩))
        generalize lineX s line = X at *
        have hpk : (p : Int) ≤ (k : Int) := by omega
        have HEX : Hid (t.extract p k = line) := HX2
        go_upto_region 11 with fail
        go_cut [9, 10, 11] (fun s9 s10 s11 wx => ∃ (p9 p10 : Nat) (A' : Option Addr) (n' c' : Nat) (B' : Option Addr) (m' d' : Nat), s9 = .pointer (some ⟨p9, 0, none⟩) ∧ s10 = .pointer (some ⟨p10, 0, none⟩) ∧ s11 = .string X.2 ∧ wx.heap[p9]? = some (.cells #[.int .i64 X.1.1.ver, .slice A' n' c'] 38 (0, 0)) ∧ wx.heap[p10]? = some (.cells #[.int .i64 X.1.2.1, .slice B' m' d'] 40 (0, 0)) ∧ ((A' = A ∧ n' = n ∧ X.1.1.steps = s.1.steps) ∨ RStep wx wr.heap.size A' n' X.1.1.steps) ∧ ((B' = B ∧ m' = m ∧ X.1.2.2 = s.2.2) ∨ RStr wx wr.heap.size B' m' X.1.2.2) ∧ m' ≤ d' ∧ Below wr.heap.size wr wx ∧ wr.heap.size ≤ p9 ∧ wr.heap.size ≤ p10)
        case first =>
          go_region_held3 (fun w' => (w'.cell? ⟨P, 0, none⟩ = some (.int .i64 s.1.ver) ∧ w'.cell? ⟨P, 1, none⟩ = some (.slice A n c)) ∧ (w'.cell? ⟨Q, 0, none⟩ = some (.int .i64 s.2.1) ∧ w'.cell? ⟨Q, 1, none⟩ = some (.slice B m d)))
            (((repeat (first | with_reducible refine HKA.out _ _ ?_ | with_reducible refine HKD.out _ ?_ | refine HKS.out _ _ _ _ (by omega) ?_)); refine HSB.out _ ?_; (repeat (first | with_reducible exact hbw | with_reducible exact Below.refl _ _ | apply Below.drew | apply Below.al2_ | fail "x")); done))
            (first
              | (go_at_call 29; rw [HEX.out]; refine (HLN.out _ (by (repeat (first | with_reducible exact hbw | with_reducible exact Below.refl _ _ | apply Below.drew | apply Below.al2_ | fail "x")))).mono ?_; rintro e w4 ⟨A4, n4, c4, B4, m4, d4, L4, rfl, h4', h5', hmd4, hbw, hb4, hL4⟩; replace hL4 := Lib.hid hL4; (first | (have q0F := blk_keep (b := wr.heap.size) (x := .cells #[.int .i64 0, .slice none 0 0] 38 (0, 0)) hb4 (heap_new rfl); have q0Fl := heap_lt q0F; have q0Fn := Nat.ne_of_lt q0Fl; have q0Fm := Nat.ne_of_gt q0Fl; have q0Fa := (blk_cl (k := 0) q0F rfl).1; have q0Fb := (blk_cl (k := 0) q0F rfl).2; have q0Fc := (blk_cl (k := 1) q0F rfl).1; have q0Fd := (blk_cl (k := 1) q0F rfl).2; have q0Fe := fun (o : Obj) => (blk_cl (k := 0) (heap_old (o := o) q0F) rfl).1; have q0Ff := fun (o : Obj) => (blk_cl (k := 0) (heap_old (o := o) q0F) rfl).2; have q0Fg := fun (o : Obj) => (blk_cl (k := 1) (heap_old (o := o) q0F) rfl).1; have q0Fh := fun (o : Obj) => (blk_cl (k := 1) (heap_old (o := o) q0F) rfl).2) | (have q0F := blk_keep (b := wr.heap.size) (x := .cells #[.int .i64 0, .slice none 0 0] 38 (0, 0)) hb4 (heap_old (heap_new rfl)); have q0Fl := heap_lt q0F; have q0Fn := Nat.ne_of_lt q0Fl; have q0Fm := Nat.ne_of_gt q0Fl; have q0Fa := (blk_cl (k := 0) q0F rfl).1; have q0Fb := (blk_cl (k := 0) q0F rfl).2; have q0Fc := (blk_cl (k := 1) q0F rfl).1; have q0Fd := (blk_cl (k := 1) q0F rfl).2; have q0Fe := fun (o : Obj) => (blk_cl (k := 0) (heap_old (o := o) q0F) rfl).1; have q0Ff := fun (o : Obj) => (blk_cl (k := 0) (heap_old (o := o) q0F) rfl).2; have q0Fg := fun (o : Obj) => (blk_cl (k := 1) (heap_old (o := o) q0F) rfl).1; have q0Fh := fun (o : Obj) => (blk_cl (k := 1) (heap_old (o := o) q0F) rfl).2) | skip); (first | (have q0R := blk_keep (b := wr.heap.size) (x := .cells #[.int .i64 0, .slice none 0 0] 40 (0, 0)) hb4 (heap_new rfl); have q0Rl := heap_lt q0R; have q0Rn := Nat.ne_of_lt q0Rl; have q0Rm := Nat.ne_of_gt q0Rl; have q0Ra := (blk_cl (k := 0) q0R rfl).1; have q0Rb := (blk_cl (k := 0) q0R rfl).2; have q0Rc := (blk_cl (k := 1) q0R rfl).1; have q0Rd := (blk_cl (k := 1) q0R rfl).2; have q0Re := fun (o : Obj) => (blk_cl (k := 0) (heap_old (o := o) q0R) rfl).1; have q0Rf := fun (o : Obj) => (blk_cl (k := 0) (heap_old (o := o) q0R) rfl).2; have q0Rg := fun (o : Obj) => (blk_cl (k := 1) (heap_old (o := o) q0R) rfl).1; have q0Rh := fun (o : Obj) => (blk_cl (k := 1) (heap_old (o := o) q0R) rfl).2) | (have q0R := blk_keep (b := wr.heap.size) (x := .cells #[.int .i64 0, .slice none 0 0] 40 (0, 0)) hb4 (heap_old (heap_new rfl)); have q0Rl := heap_lt q0R; have q0Rn := Nat.ne_of_lt q0Rl; have q0Rm := Nat.ne_of_gt q0Rl; have q0Ra := (blk_cl (k := 0) q0R rfl).1; have q0Rb := (blk_cl (k := 0) q0R rfl).2; have q0Rc := (blk_cl (k := 1) q0R rfl).1; have q0Rd := (blk_cl (k := 1) q0R rfl).2; have q0Re := fun (o : Obj) => (blk_cl (k := 0) (heap_old (o := o) q0R) rfl).1; have q0Rf := fun (o : Obj) => (blk_cl (k := 0) (heap_old (o := o) q0R) rfl).2; have q0Rg := fun (o : Obj) => (blk_cl (k := 1) (heap_old (o := o) q0R) rfl).1; have q0Rh := fun (o : Obj) => (blk_cl (k := 1) (heap_old (o := o) q0R) rfl).2) | skip); (first | (have q1F := blk_keep (b := wr.heap.size + 1) (x := .cells #[.int .i64 0, .slice none 0 0] 38 (0, 0)) hb4 (heap_new (sz_push _ _)); have q1Fl := heap_lt q1F; have q1Fn := Nat.ne_of_lt q1Fl; have q1Fm := Nat.ne_of_gt q1Fl; have q1Fa := (blk_cl (k := 0) q1F rfl).1; have q1Fb := (blk_cl (k := 0) q1F rfl).2; have q1Fc := (blk_cl (k := 1) q1F rfl).1; have q1Fd := (blk_cl (k := 1) q1F rfl).2; have q1Fe := fun (o : Obj) => (blk_cl (k := 0) (heap_old (o := o) q1F) rfl).1; have q1Ff := fun (o : Obj) => (blk_cl (k := 0) (heap_old (o := o) q1F) rfl).2; have q1Fg := fun (o : Obj) => (blk_cl (k := 1) (heap_old (o := o) q1F) rfl).1; have q1Fh := fun (o : Obj) => (blk_cl (k := 1) (heap_old (o := o) q1F) rfl).2) | skip); (first | (have q1R := blk_keep (b := wr.heap.size + 1) (x := .cells #[.int .i64 0, .slice none 0 0] 40 (0, 0)) hb4 (heap_new (sz_push _ _)); have q1Rl := heap_lt q1R; have q1Rn := Nat.ne_of_lt q1Rl; have q1Rm := Nat.ne_of_gt q1Rl; have q1Ra := (blk_cl (k := 0) q1R rfl).1; have q1Rb := (blk_cl (k := 0) q1R rfl).2; have q1Rc := (blk_cl (k := 1) q1R rfl).1; have q1Rd := (blk_cl (k := 1) q1R rfl).2; have q1Re := fun (o : Obj) => (blk_cl (k := 0) (heap_old (o := o) q1R) rfl).1; have q1Rf := fun (o : Obj) => (blk_cl (k := 0) (heap_old (o := o) q1R) rfl).2; have q1Rg := fun (o : Obj) => (blk_cl (k := 1) (heap_old (o := o) q1R) rfl).1; have q1Rh := fun (o : Obj) => (blk_cl (k := 1) (heap_old (o := o) q1R) rfl).2) | skip))
              | fail "no arm")
          all_goals
            go_wp2_with fail
            go_meet
            have hsz4 := hbw.size
            refine ⟨_, _, A4, n4, c4, B4, m4, d4, rfl, rfl, rfl, ?_, ?_, ?_, ?_, hmd4, ?_, ?_, ?_⟩
            · (repeat (first | with_reducible exact set21 (set20 (by assumption)) | with_reducible exact set21 (set20 (set_ne (set_ne (by assumption) (Nat.succ_ne_self _)) (Nat.succ_ne_self _))) | with_reducible exact set21 (set20 (set_ne (set_ne (by assumption) (Nat.succ_ne_self _).symm) (Nat.succ_ne_self _).symm)) | with_reducible exact heap_new rfl | with_reducible exact heap_new (sz_push _ _) | with_reducible exact heap_new (sz_set2 _ _ _ _ _) | with_reducible refine heap_old ?_ | with_reducible refine set_ne ?_ (by omega)))
            · (repeat (first | with_reducible exact set21 (set20 (by assumption)) | with_reducible exact set21 (set20 (set_ne (set_ne (by assumption) (Nat.succ_ne_self _)) (Nat.succ_ne_self _))) | with_reducible exact set21 (set20 (set_ne (set_ne (by assumption) (Nat.succ_ne_self _).symm) (Nat.succ_ne_self _).symm)) | with_reducible exact heap_new rfl | with_reducible exact heap_new (sz_push _ _) | with_reducible exact heap_new (sz_set2 _ _ _ _ _) | with_reducible refine heap_old ?_ | with_reducible refine set_ne ?_ (by omega)))
            · (refine Or.imp id (fun h9 => ?_) h4'; refine RL.lower (lo := L4) ?_ (by rw [hL4.out]; first | exact Nat.le_refl _ | exact Nat.lt_succ_self _ | (simp; done) | (simp; omega)); (repeat (first | with_reducible exact h9 | with_reducible refine RL.alloc ?_ _ | refine RL.setLow ?_ (by rw [hL4.out]; first | exact Nat.le_refl _ | exact Nat.lt_succ_self _ | (simp; done) | (simp; omega)))))
            · (refine Or.imp id (fun h9 => ?_) h5'; refine RL.lower (lo := L4) ?_ (by rw [hL4.out]; first | exact Nat.le_refl _ | exact Nat.lt_succ_self _ | (simp; done) | (simp; omega)); (repeat (first | with_reducible exact h9 | with_reducible refine RL.alloc ?_ _ | refine RL.setLow ?_ (by rw [hL4.out]; first | exact Nat.le_refl _ | exact Nat.lt_succ_self _ | (simp; done) | (simp; omega)))))
            · (repeat (first | with_reducible exact hbw | with_reducible apply Below.al2_ | refine Below.setCell ?_ (by first | exact Nat.le_refl _ | exact Nat.le_succ _) _))
            · (first | omega | (simp; omega))
            · (first | omega | (simp; omega))
        case rest =>
          obtain ⟨p9, p10, A', n', c', B', m', d', rfl, rfl, rfl, g9, g10, g1, g2, g3, hbw, hp9, hp10⟩ := hcut
          have HP9 := Lib.hid ((hbw.block _ hpl).trans HP.out)
          have HQ9 := Lib.hid ((hbw.block _ hql).trans HQ.out)
          have HST := Lib.hid (FR.step (s' := X.1) (c' := c') (d' := d') hPQ hql H3.out h4 h5 H6.out h7 h8 hbw HP9.out HQ9.out g1 g2 g3)
          have HBF := Lib.hid (fin4_below (B := w.heap.size) (p := P) (q := Q) (a := .int .i64 X.1.1.ver) (b := .slice A' n' c') (c := .int .i64 X.1.2.1) (d := .slice B' m' d') (HBR.out.trans (hbw.mono HBR.out.size)) hPw hQw)
          have a0 := (blk_cl (k := 0) g9 rfl).1
          have a1 := (blk_cl (k := 1) g9 rfl).1
          have b0 := (blk_cl (k := 0) g10 rfl).1
          have b1 := (blk_cl (k := 1) g10 rfl).1
          have z0 := (blk_cl (k := 0) HP9.out rfl).1
          have z0' := (blk_cl (k := 0) HP9.out rfl).2
          have z1 := (blk_cl (k := 1) HP9.out rfl).1
          have z1' := (blk_cl (k := 1) HP9.out rfl).2
          have y0 := (blk_cl (k := 0) HQ9.out rfl).1
          have y0' := (blk_cl (k := 0) HQ9.out rfl).2
          have y1 := (blk_cl (k := 1) HQ9.out rfl).1
          have y1' := (blk_cl (k := 1) HQ9.out rfl).2
          have hpne : P ≠ p10 := by omega
          have hpne2 : p10 ≠ P := by omega
          clear g9 g10 g1 g2
          go_wp2_with fail
          go_roundw
          case rel => exact ⟨k + 1, k + 1, ls ++ [t.extract p k], by omega, by omega, by simp; omega, by go_num, by go_num, by rw [HX2.out, HLE.out], by rw [bs_extract]; exact HI2.out, by rw [HX2.out, HLE.out]; exact HST.out, HBF.out⟩
          case measure => simp [intOf]; omega
      · have hq : ((x.toNat : Int) == 10) = false := by
          rw [beq_eq_false_iff_ne]
          intro e
          exact he (UInt8.toNat_inj.1 (by show x.toNat = 10; omega))
        have HI2 := Lib.hid (cinv_miss HCI.out hkb (fun e => he (hxb.symm.trans e)) hp)
        clear he hxb
        obtain ⟨Y, hY⟩ : ∃ Y, Y = linesX st0 ls := ⟨_, rfl⟩
        rw [← hY]
        have HY := Lib.hid hY; clear hY
        go_wp2_with fail
        go_roundw
        case rel => exact ⟨k + 1, p, ls, by omega, by omega, by omega, rfl, by go_num, by rw [← HY.out], HI2.out, HFRr.out, HBR.out⟩
        case measure => simp [intOf]; omega
    · obtain rfl : k = t.size := by omega
      have HLL := Lib.hid (cut_lines HCI.out hlen.symm)
      rw [← HLL.out] at HE
      obtain ⟨Y, hY⟩ : ∃ Y, Y = linesX st0 ls := ⟨_, rfl⟩
      rw [← hY] at HE HFRr HGD hls2 ⊢
      clear hY
      obtain ⟨A, n, c, B, m, d, lo, hi, lo', hi', h1, h2, ⟨h3, h4, h5⟩, ⟨h6, h7, h8⟩, h9⟩ := HFRr.out
      have hRS : RStep wr 0 A n Y.1.1.steps := (h3.up h5).lower (Nat.zero_le _)
      have hRR : RStr wr 0 B m Y.1.2.2 := (h6.up h8).lower (Nat.zero_le _)
      have hm20 : m ≤ 1048576 := by rw [← hRR.1]; have := (run_sizes HGD.out.2).1; omega
      have p0 := (blk_cl (k := 0) h1 rfl).1
      have p1 := (blk_cl (k := 1) h1 rfl).1
      have q0 := (blk_cl (k := 0) h2 rfl).1
      have q1 := (blk_cl (k := 1) h2 rfl).1
      have hrz := rtT_size Y.1.1 Y.1.2.1 Y.1.2.2
      clear h1 h2 h3 h6
      go_wp2_with fail
      refine (runTextS_any A B n c m d Y.1.1 Y.1.2.1 Y.1.2.2 _ _ _ hRS (okSteps_of HGD.out.1) hRR hm20 h9).mono ?_
      rintro e w5 ⟨rfl, hb5⟩
      go_wp2_with fail
      go_ret
      exact ⟨ret_s HE.out.symm, HBR.out.trans (hb5.mono HBR.out.size)⟩
end Go.Proofs.YthdfefgianokgaaGreatDoor

/- The session of a script: a change of the flow. -/
namespace Go.Proofs.YthdfefgianokgaaGreatDoor
open Go.RowKit

/-- The session at p holds a state whose lists lie elsewhere. -/
def Ses (K : Nat → Prop) (p : Nat) (s : St) (w : World) : Prop :=
  ∃ (A : Option Addr) (n c : Nat) (B : Option Addr) (m d lo hi lo' hi' : Nat), w.heap[p]? = some (.cells #[.int .i64 s.1.ver, .slice A n c, .int .i64 s.2.1, .slice B m d] 42 (0, 0)) ∧
    (RH stepE w lo hi A n s.1.steps ∧ (hi ≤ p ∨ p < lo) ∧ hi ≤ w.heap.size ∧ CapS w A n) ∧ (RH strE w lo' hi' B m s.2.2 ∧ (hi' ≤ p ∨ p < lo') ∧ hi' ≤ w.heap.size) ∧ m ≤ d ∧ ∀ k, K k → k < w.heap.size ∧ (k < lo ∨ hi ≤ k) ∧ (k < lo' ∨ hi' ≤ k)
theorem Ses.below {K : Nat → Prop} {p : Nat} {s : St} {w w' : World} (h : Ses K p s w) (hb : Below w.heap.size w w') : Ses K p s w' := by
  obtain ⟨A, n, c, B, m, d, lo, hi, lo', hi', h1, ⟨h3, h4, h5, h5c⟩, ⟨h6, h7, h8⟩, h9, hKK⟩ := h
  exact ⟨A, n, c, B, m, d, lo, hi, lo', hi', (hb.block _ (heap_lt h1)).trans h1, ⟨h3.below hb h5, h4, Nat.le_trans h5 hb.size, h5c.below hb⟩, ⟨h6.below hb h8, h7, Nat.le_trans h8 hb.size⟩, h9, fun k hk => ⟨Nat.lt_of_lt_of_le (hKK k hk).1 hb.size, (hKK k hk).2⟩⟩
theorem out_below {p : Nat} {w w' : World} (h : Below w.heap.size w w') : Out p (p + 1) w w' := Out.of_below h
theorem RH.far1 {α : Type} [Inhabited α] {E : Elem α} {w : World} {lo hi n p o : Nat} {A : Option Addr} {xs : List α} {u : Value} (h : RH E w lo hi A n xs) (hd : hi ≤ p ∨ p < lo) : RH E (w.setCell ⟨p, o, none⟩ u) lo hi A n xs :=
  h.same ⟨fun i h1 h2 => Below.heap_setCell w ⟨p, o, none⟩ u i (by intro e; have e2 : i = p := e; omega)⟩
theorem CapS.far1 {w : World} {lo hi n p o : Nat} {A : Option Addr} {ss : List Step} {u : Value} (h : CapS w A n) (hr : RH stepE w lo hi A n ss) (hd : hi ≤ p ∨ p < lo) : CapS (w.setCell ⟨p, o, none⟩ u) A n := fun b off e k hk => by
  obtain ⟨b1, off1, e1, h1, h2, _⟩ := hr.2 (by omega)
  subst e1
  injection e with e; injection e with e2 e3
  subst e2; subst e3
  exact CapS.setNe h (by omega) _ _ rfl k hk
theorem setS4 {w : World} {b : Nat} {a0 a1 a2 a3 u0 u1 : Value} {t : TypeId} {fr : Nat × Nat} (h : w.heap[b]? = some (.cells #[a0, a1, a2, a3] t fr)) :
    ((w.setCell ⟨b, 0, none⟩ u0).setCell ⟨b, 1, none⟩ u1).heap[b]? = some (.cells #[u0, u1, a2, a3] t fr) := set_at (set_at h)
theorem setS4r {w : World} {b : Nat} {a0 a1 a2 a3 u0 u1 : Value} {t : TypeId} {fr : Nat × Nat} (h : w.heap[b]? = some (.cells #[a0, a1, a2, a3] t fr)) :
    ((w.setCell ⟨b, 2, none⟩ u0).setCell ⟨b, 3, none⟩ u1).heap[b]? = some (.cells #[a0, a1, u0, u1] t fr) := set_at (set_at h)
/-- The run is written. -/
theorem Ses.putRun {K : Nat → Prop} {p : Nat} {s : St} {w wx : World} {st : Int} {done : List Str} {B' : Option Addr} {m' d' : Nat} (h : Ses K p s w) (hb : Below w.heap.size w wx) (hp : p < w.heap.size) (g : RStr wx w.heap.size B' m' done) (g3 : m' ≤ d') :
    Ses K p (s.1, (st, done)) ((wx.setCell ⟨p, 2, none⟩ (.int .i64 st)).setCell ⟨p, 3, none⟩ (.slice B' m' d')) := by
  obtain ⟨A, n, c, B, m, d, lo, hi, lo', hi', h1, ⟨h3, h4, h5, h5c⟩, ⟨h6, h7, h8⟩, h9, hKK⟩ := h
  have hs := hb.size
  have hss : ((wx.setCell ⟨p, 2, none⟩ (.int .i64 st)).setCell ⟨p, 3, none⟩ (.slice B' m' d')).heap.size = wx.heap.size := by simp [World.setCell]
  have k3 := h3.below hb h5
  have c3 := h5c.below hb
  have k4 := RH.far1 (o := 2) (u := .int .i64 st) k3 h4
  have c4 := CapS.far1 (o := 2) (u := .int .i64 st) c3 k3 h4
  have k5 := RH.far1 (o := 3) (u := .slice B' m' d') k4 h4
  have c5 := CapS.far1 (o := 3) (u := .slice B' m' d') c4 k4 h4
  have d1 : wx.heap.size ≤ p ∨ p < w.heap.size := .inr hp
  have r4 := RH.far1 (o := 3) (u := .slice B' m' d') (RH.far1 (o := 2) (u := .int .i64 st) g.low d1) d1
  have hP := setS4r (u0 := .int .i64 st) (u1 := .slice B' m' d') ((hb.block _ (heap_lt h1)).trans h1)
  refine ⟨A, n, c, B', m', d', lo, hi, w.heap.size, wx.heap.size, hP, ⟨k5, h4, ?_, c5⟩, ⟨r4, d1, ?_⟩, g3, fun k hk => ?_⟩
  · rw [hss]; omega
  · rw [hss]; exact Nat.le_refl _
  · obtain ⟨k1, k2, _⟩ := hKK k hk
    exact ⟨by rw [hss]; omega, k2, .inl k1⟩
/-- Both are written. -/
theorem Ses.putAll {K : Nat → Prop} {p : Nat} {f : Flow} {w wx : World} {st : Int} {done : List Str} {A' B' : Option Addr} {n' c' m' d' : Nat} {a0 a1 a2 a3 : Value} (hP : wx.heap[p]? = some (.cells #[a0, a1, a2, a3] 42 (0, 0))) (hp : p < w.heap.size) (g1 : RStep wx w.heap.size A' n' f.steps) (gc : CapS wx A' n') (g2 : RStr wx w.heap.size B' m' done) (g3 : m' ≤ d') (hKK : ∀ k, K k → k < w.heap.size) (hw : w.heap.size ≤ wx.heap.size) :
    Ses K p (f, (st, done)) ((((wx.setCell ⟨p, 0, none⟩ (.int .i64 f.ver)).setCell ⟨p, 1, none⟩ (.slice A' n' c')).setCell ⟨p, 2, none⟩ (.int .i64 st)).setCell ⟨p, 3, none⟩ (.slice B' m' d')) := by
  have hss : ((((wx.setCell ⟨p, 0, none⟩ (.int .i64 f.ver)).setCell ⟨p, 1, none⟩ (.slice A' n' c')).setCell ⟨p, 2, none⟩ (.int .i64 st)).setCell ⟨p, 3, none⟩ (.slice B' m' d')).heap.size = wx.heap.size := by simp [World.setCell]
  have d1 : wx.heap.size ≤ p ∨ p < w.heap.size := .inr hp
  have k1 := g1.low
  have k2 := g2.low
  exact ⟨A', n', c', B', m', d', w.heap.size, wx.heap.size, w.heap.size, wx.heap.size, setS4r (setS4 hP), ⟨RH.far1 (RH.far1 (RH.far1 (RH.far1 k1 d1) d1) d1) d1, d1, by rw [hss]; exact Nat.le_refl _,
    CapS.far1 (CapS.far1 (CapS.far1 (CapS.far1 gc k1 d1) (RH.far1 k1 d1) d1) (RH.far1 (RH.far1 k1 d1) d1) d1) (RH.far1 (RH.far1 (RH.far1 k1 d1) d1) d1) d1⟩, ⟨RH.far1 (RH.far1 (RH.far1 (RH.far1 k2 d1) d1) d1) d1, d1, by rw [hss]; exact Nat.le_refl _⟩, g3, fun k hk => ⟨by rw [hss]; exact Nat.lt_of_lt_of_le (hKK k hk) hw, .inl (hKK k hk), .inl (hKK k hk)⟩⟩

set_option maxRecDepth 100000 in
set_option maxHeartbeats 8000000 in
theorem change_any (K : Nat → Prop) (p : Nat) (s : St) (k : Int) (t : Str) (w : World) (hS : Ses K p s w) (hG : Good s) (ht : t.size ≤ 1048576) (hM : HasMax w) :
    Calls Tryz.prog 35 #[.pointer (some ⟨p, 0, none⟩), .int .i64 k, .string t] w fun e w' => e = .returned (.string (flowX s k t).2) ∧ Ses K p (flowX s k t).1 w' ∧ Out p (p + 1) w w' := by
  have HS := Lib.hid hS
  obtain ⟨f, st, done⟩ := s
  have HFX := Lib.hid (show flowX (f, st, done) k t = (if fromB t = false then ((f, st, done), noT) else if chgB f k (fromT t) = false then ((f, st, done), noT) else if fitB f (chgF f k (fromT t)) st done = false then ((f, st, done), staysT) else ((chgF f k (fromT t), fitR f (chgF f k (fromT t)) st done), movedT)) from rfl)
  have HOK := Lib.hid (okSteps_of hG.1)
  obtain ⟨A, n, c, B, m, d, lo, hi, lo', hi', h1, ⟨h3, h4, h5, h5c⟩, ⟨h6, h7, h8⟩, h9, hKK⟩ := hS
  have HKK := Lib.hid hKK; clear hKK
  have hm : m ≤ 1048576 := by have e := h6.1; have := (run_sizes hG.2).1; rw [← e]; exact Nat.le_trans this (by omega)
  have HP := Lib.hid h1
  have hpl := heap_lt h1
  have HRC := Lib.hid (fun (cur : World) (h : Below w.heap.size w cur) => (show RStep cur 0 A n f.steps from ((h3.below h h5).up (Nat.le_trans h5 h.size)).lower (Nat.zero_le _)))
  have HDC := Lib.hid (fun (cur : World) (h : Below w.heap.size w cur) => (show RStr cur 0 B m done from ((h6.below h h8).up (Nat.le_trans h8 h.size)).lower (Nat.zero_le _)))
  clear h1 h3 h4 h5 h5c h6 h7 h8 hG
  have HOS := Lib.hid (okStep_from t)
  have HSB : Hid (∀ w', Below w.heap.size w w' → w'.cell? ⟨p, 0, none⟩ = some (.int .i64 f.ver) ∧ w'.cell? ⟨p, 1, none⟩ = some (.slice A n c) ∧ w'.cell? ⟨p, 2, none⟩ = some (.int .i64 st) ∧ w'.cell? ⟨p, 3, none⟩ = some (.slice B m d)) := Lib.hid (fun w' h => by
    have e1 := (h.block _ hpl).trans HP.out
    exact ⟨(blk_cl (k := 0) e1 rfl).1, (blk_cl (k := 1) e1 rfl).1, (blk_cl (k := 2) e1 rfl).1, (blk_cl (k := 3) e1 rfl).1⟩)
  have HM := Lib.hid hM; clear hM
  go_enter Tryz.func35, Tryz.ntmps35
  go_wp2_with fail
  refine (stepFromI_any t _ ht HM.out).mono ?_
  rintro e w1 ⟨A1, n1, c1, rfl, hs1, _, hb1⟩
  have hbA := hb1.alloc hb1.size (.cells #[.string (fromT t).name, .slice A1 n1 c1, .bool (fromT t).undo] 35)
  have HP1 := Lib.hid (heap_new (w := w1) (o := .cells #[.string (fromT t).name, .slice A1 n1 c1, .bool (fromT t).undo] 35) rfl)
  cases hfr : fromB t
  · have HE := Lib.hid (HFX.out.trans (if_pos hfr))
    go_wp2_with fail
    go_ret
    exact ⟨ret_s (by rw [HE.out]; rfl), by rw [HE.out]; exact HS.out.below hbA, out_below hbA⟩
  have HS1 := Lib.hid ((hs1.below ((Below.refl _ _).alloc (Nat.le_refl _) (.cells #[.string (fromT t).name, .slice A1 n1 c1, .bool (fromT t).undo] 35))).hat); clear hs1
  have HBA := Lib.hid hbA
  have hw1 := hb1.size
  clear hb1 hbA
  go_upto_region 4 with fail
  generalize w1.alloc (.cells #[.string (fromT t).name, .slice A1 n1 c1, .bool (fromT t).undo] 35) = w2 at *
  have hp1 := heap_lt HP1.out
  generalize w1.heap.size = p1 at *
  have hs2 := HBA.out.size
  have HS2 : Hid (∀ w', Below w2.heap.size w2 w' → (w'.cell? ⟨p, 0, none⟩ = some (.int .i64 f.ver) ∧ w'.cell? ⟨p, 1, none⟩ = some (.slice A n c)) ∧ (w'.cell? ⟨p1, 0, none⟩ = some (.string (fromT t).name) ∧ w'.cell? ⟨p1, 1, none⟩ = some (.slice A1 n1 c1) ∧ w'.cell? ⟨p1, 2, none⟩ = some (.bool (fromT t).undo))) := Lib.hid (fun w' h => by
    obtain ⟨a, b, _, _⟩ := HSB.out _ (HBA.out.trans (h.mono hs2))
    have e1 := (h.block _ hp1).trans HP1.out
    exact ⟨⟨a, b⟩, (blk_cl (k := 0) e1 rfl).1, (blk_cl (k := 1) e1 rfl).1, (blk_cl (k := 2) e1 rfl).1⟩)
  have HK2 : Hid (∀ (w' : World) (o : Nat) (u : Value), (fun w' => (w'.cell? ⟨p, 0, none⟩ = some (.int .i64 f.ver) ∧ w'.cell? ⟨p, 1, none⟩ = some (.slice A n c)) ∧ (w'.cell? ⟨p1, 0, none⟩ = some (.string (fromT t).name) ∧ w'.cell? ⟨p1, 1, none⟩ = some (.slice A1 n1 c1) ∧ w'.cell? ⟨p1, 2, none⟩ = some (.bool (fromT t).undo))) w' → (fun w' => (w'.cell? ⟨p, 0, none⟩ = some (.int .i64 f.ver) ∧ w'.cell? ⟨p, 1, none⟩ = some (.slice A n c)) ∧ (w'.cell? ⟨p1, 0, none⟩ = some (.string (fromT t).name) ∧ w'.cell? ⟨p1, 1, none⟩ = some (.slice A1 n1 c1) ∧ w'.cell? ⟨p1, 2, none⟩ = some (.bool (fromT t).undo))) (w'.setCell ⟨w2.heap.size, o, none⟩ u)) := Lib.hid (fun w' o u h =>
    ⟨⟨(World.cell?_setCell_other _ _ _ _ (fun e => by injection e; omega)).trans h.1.1, (World.cell?_setCell_other _ _ _ _ (fun e => by injection e; omega)).trans h.1.2⟩, (World.cell?_setCell_other _ _ _ _ (fun e => by injection e; omega)).trans h.2.1, (World.cell?_setCell_other _ _ _ _ (fun e => by injection e; omega)).trans h.2.2.1, (World.cell?_setCell_other _ _ _ _ (fun e => by injection e; omega)).trans h.2.2.2⟩)
  have HFC := Lib.hid (fun (cur : World) (h : Below w2.heap.size w2 cur) => (fcI_any A A1 n c n1 c1 f k (fromT t) 0 w.heap.size cur (HRC.out _ (HBA.out.trans (h.mono hs2))) HOK.out ((HS1.out.below h).lower (by first | exact Nat.le_refl _ | omega)) HOS.out).mono (R' := fun e w' => ∃ (G : Option Addr) (g cg : Nat), e = .returned (.tuple #[.agg #[.int .i64 (chgF f k (fromT t)).ver, .slice G g cg], .bool (chgB f k (fromT t))]) ∧ (chgB f k (fromT t) = true → SRowC w' w2.heap.size (.slice G g cg) g (chgF f k (fromT t)).steps) ∧ Below w2.heap.size w2 w' ∧ Below cur.heap.size cur w') (by
    rintro e w' ⟨G, g, cg, h1, h2, h3⟩
    exact ⟨G, g, cg, h1, fun hc => (h2 hc).mono h.size, h.trans (h3.mono h.size), h3⟩))
  go_cut [8, 9] (fun s8 s9 wx => ∃ (p9 : Nat) (G : Option Addr) (g cg : Nat), s8 = .bool (chgB f k (fromT t)) ∧ s9 = .pointer (some ⟨p9, 0, none⟩) ∧ wx.heap[p9]? = some (.cells #[.int .i64 (chgF f k (fromT t)).ver, .slice G g cg] 38 (0, 0)) ∧ (chgB f k (fromT t) = true → SRowC wx w2.heap.size (.slice G g cg) g (chgF f k (fromT t)).steps) ∧ Below w2.heap.size w2 wx ∧ w2.heap.size ≤ p9)
  case first =>
    go_region_held3 (fun w' => (w'.cell? ⟨p, 0, none⟩ = some (.int .i64 f.ver) ∧ w'.cell? ⟨p, 1, none⟩ = some (.slice A n c)) ∧ (w'.cell? ⟨p1, 0, none⟩ = some (.string (fromT t).name) ∧ w'.cell? ⟨p1, 1, none⟩ = some (.slice A1 n1 c1) ∧ w'.cell? ⟨p1, 2, none⟩ = some (.bool (fromT t).undo)))
      (((repeat (refine HK2.out _ _ _ ?_)); refine HS2.out _ ?_; (repeat (first | with_reducible exact hbw | with_reducible exact Below.refl _ _ | apply Below.drew | apply Below.al2_ | fail "x")); done))
      (first
        | (go_at_call 60; refine (HFC.out _ (by (repeat (first | with_reducible exact hbw | with_reducible exact Below.refl _ _ | apply Below.drew | apply Below.al2_ | fail "x")))).mono ?_; rintro e w4 ⟨G4, g4, cg4, rfl, h4, hbw, hb4⟩; (first | (have hb5 := (hb4.block w2.heap.size (by simp)).trans (heap_new (b := w2.heap.size) (o := .cells #[.int .i64 0, .slice none 0 0] 38) rfl); have x0 := (blk_cl (k := 0) hb5 rfl).1; have x0' := (blk_cl (k := 0) hb5 rfl).2; have x1 := (blk_cl (k := 1) hb5 rfl).1; have x1' := (blk_cl (k := 1) hb5 rfl).2) | skip))
        | fail "no arm")
    all_goals
      go_wp2_with fail
      go_meet
      first
        | with_reducible exact ⟨_, G4, g4, cg4, rfl, rfl, heap_new rfl, fun hc => (h4 hc).below ((Below.refl _ _).alloc (Nat.le_refl _) _), hbw.alloc hbw.size _, hbw.size⟩
        | exact ⟨_, G4, g4, cg4, rfl, rfl, set21 (set20 hb5), fun hc => ((h4 hc).set (o := 0) (u := .int .i64 (chgF f k (fromT t)).ver) hb5 (by decide) (by decide)).set (o := 1) (u := .slice G4 g4 cg4) (set20 hb5) (by decide) (by decide), (hbw.setCell (p := ⟨w2.heap.size, 0, none⟩) (Nat.le_refl _) _).setCell (p := ⟨w2.heap.size, 1, none⟩) (Nat.le_refl _) _, Nat.le_refl _⟩
  case rest =>
  obtain ⟨v9, rfl⟩ : ∃ v9 : World, v9 = wc := ⟨_, rfl⟩
  obtain ⟨p9, G, g, cg, rfl, rfl, hp9, hrow9, hbw, hpl9⟩ := hcut
  have HB9 := Lib.hid (HBA.out.trans (hbw.mono hs2))
  have hs9 := hbw.size
  cases hcg : chgB f k (fromT t)
  · have HE := Lib.hid (HFX.out.trans ((if_neg (by rw [hfr]; simp)).trans (if_pos hcg)))
    go_wp2_with fail
    go_ret
    exact ⟨ret_s (by rw [HE.out]; rfl), by rw [HE.out]; exact HS.out.below HB9.out, out_below HB9.out⟩
  have HROW := Lib.hid (hrow9 hcg)
  have HG9 := Lib.hid (okSteps_of (chgF_flow hcg))
  have HP9 := Lib.hid hp9
  clear hrow9 hp9 hbw
  go_upto_region 7 with fail
  have HR9 := Lib.hid (by
    obtain ⟨A9, c9, e9, h9⟩ := HROW.out.hat
    injection e9 with e9 _ _
    subst e9
    exact h9 : RStep v9 w2.heap.size G g (chgF f k (fromT t)).steps)
  have hp9l := heap_lt HP9.out
  have hs9c := HB9.out.size
  have HS3 : Hid (∀ w', Below v9.heap.size v9 w' → (fun w' => (w'.cell? ⟨p, 0, none⟩ = some (.int .i64 f.ver) ∧ w'.cell? ⟨p, 1, none⟩ = some (.slice A n c) ∧ w'.cell? ⟨p, 2, none⟩ = some (.int .i64 st) ∧ w'.cell? ⟨p, 3, none⟩ = some (.slice B m d)) ∧ (w'.cell? ⟨p9, 0, none⟩ = some (.int .i64 (chgF f k (fromT t)).ver) ∧ w'.cell? ⟨p9, 1, none⟩ = some (.slice G g cg))) w') := Lib.hid (fun w' h => by
    obtain ⟨a, b, c, d⟩ := HSB.out _ (HB9.out.trans (h.mono hs9c))
    have e1 := (h.block _ hp9l).trans HP9.out
    exact ⟨⟨a, b, c, d⟩, (blk_cl (k := 0) e1 rfl).1, (blk_cl (k := 1) e1 rfl).1⟩)
  have HK3 : Hid (∀ (w' : World) (o : Nat) (u : Value), (fun w' => (w'.cell? ⟨p, 0, none⟩ = some (.int .i64 f.ver) ∧ w'.cell? ⟨p, 1, none⟩ = some (.slice A n c) ∧ w'.cell? ⟨p, 2, none⟩ = some (.int .i64 st) ∧ w'.cell? ⟨p, 3, none⟩ = some (.slice B m d)) ∧ (w'.cell? ⟨p9, 0, none⟩ = some (.int .i64 (chgF f k (fromT t)).ver) ∧ w'.cell? ⟨p9, 1, none⟩ = some (.slice G g cg))) w' → (fun w' => (w'.cell? ⟨p, 0, none⟩ = some (.int .i64 f.ver) ∧ w'.cell? ⟨p, 1, none⟩ = some (.slice A n c) ∧ w'.cell? ⟨p, 2, none⟩ = some (.int .i64 st) ∧ w'.cell? ⟨p, 3, none⟩ = some (.slice B m d)) ∧ (w'.cell? ⟨p9, 0, none⟩ = some (.int .i64 (chgF f k (fromT t)).ver) ∧ w'.cell? ⟨p9, 1, none⟩ = some (.slice G g cg))) (w'.setCell ⟨v9.heap.size, o, none⟩ u)) := Lib.hid (fun w' o u h =>
    ⟨⟨(World.cell?_setCell_other _ _ _ _ (fun e => by injection e; omega)).trans h.1.1, (World.cell?_setCell_other _ _ _ _ (fun e => by injection e; omega)).trans h.1.2.1, (World.cell?_setCell_other _ _ _ _ (fun e => by injection e; omega)).trans h.1.2.2.1, (World.cell?_setCell_other _ _ _ _ (fun e => by injection e; omega)).trans h.1.2.2.2⟩, (World.cell?_setCell_other _ _ _ _ (fun e => by injection e; omega)).trans h.2.1, (World.cell?_setCell_other _ _ _ _ (fun e => by injection e; omega)).trans h.2.2⟩)
  have HFT := Lib.hid (fun (cur : World) (h : Below v9.heap.size v9 cur) => (fitI_any A G B n c g cg m d f (chgF f k (fromT t)) st done 0 w2.heap.size 0 cur (HRC.out _ (HB9.out.trans (h.mono hs9c))) HOK.out (HR9.out.below h) HG9.out (HDC.out _ (HB9.out.trans (h.mono hs9c))) hm h9).mono (R' := fun e w' => ∃ (B' : Option Addr) (m' d' L : Nat), e = .returned (.tuple #[.agg #[.int .i64 (fitR f (chgF f k (fromT t)) st done).1, .slice B' m' d'], .bool (fitB f (chgF f k (fromT t)) st done)]) ∧ RStr w' L B' m' (fitR f (chgF f k (fromT t)) st done).2 ∧ m' ≤ d' ∧ Below v9.heap.size v9 w' ∧ Below cur.heap.size cur w' ∧ L = cur.heap.size) (by
    rintro e w' ⟨B', m', d', h1, h2, h3⟩
    obtain ⟨A9, c9, e9, h9⟩ := own_str h2
    injection e9 with e9 _ _
    subst e9
    exact ⟨B', m', d', _, h1, h9, row_cap h2, h.trans (h3.mono h.size), h3, rfl⟩))
  generalize fitR f (chgF f k (fromT t)) st done = Y at *
  go_cut [8, 10] (fun s8 s10 wx => ∃ (p10 : Nat) (B' : Option Addr) (m' d' : Nat), s8 = .bool (fitB f (chgF f k (fromT t)) st done) ∧ s10 = .pointer (some ⟨p10, 0, none⟩) ∧ wx.heap[p10]? = some (.cells #[.int .i64 Y.1, .slice B' m' d'] 40 (0, 0)) ∧ RStr wx v9.heap.size B' m' Y.2 ∧ m' ≤ d' ∧ Below v9.heap.size v9 wx ∧ v9.heap.size ≤ p10)
  case first =>
    go_region_held3 (fun w' => (w'.cell? ⟨p, 0, none⟩ = some (.int .i64 f.ver) ∧ w'.cell? ⟨p, 1, none⟩ = some (.slice A n c) ∧ w'.cell? ⟨p, 2, none⟩ = some (.int .i64 st) ∧ w'.cell? ⟨p, 3, none⟩ = some (.slice B m d)) ∧ (w'.cell? ⟨p9, 0, none⟩ = some (.int .i64 (chgF f k (fromT t)).ver) ∧ w'.cell? ⟨p9, 1, none⟩ = some (.slice G g cg)))
      (((repeat (refine HK3.out _ _ _ ?_)); refine HS3.out _ ?_; (repeat (first | with_reducible exact hbw | with_reducible exact Below.refl _ _ | apply Below.drew | apply Below.al2_ | fail "x")); done))
      (first
        | (go_at_call 61; refine (HFT.out _ (by (repeat (first | with_reducible exact hbw | with_reducible exact Below.refl _ _ | apply Below.drew | apply Below.al2_ | fail "x")))).mono ?_; rintro e w4 ⟨B4, m4, d4, L4, rfl, h4, hmd4, hbw, hb4, hL4⟩; replace hL4 := Lib.hid hL4; (first | (have hb5 := (hb4.block v9.heap.size (by simp)).trans (heap_new (b := v9.heap.size) (o := .cells #[.int .i64 0, .slice none 0 0] 40) rfl); have x0 := (blk_cl (k := 0) hb5 rfl).1; have x0' := (blk_cl (k := 0) hb5 rfl).2; have x1 := (blk_cl (k := 1) hb5 rfl).1; have x1' := (blk_cl (k := 1) hb5 rfl).2) | skip))
        | fail "no arm")
    all_goals
      go_wp2_with fail
      go_meet
      first
        | with_reducible exact ⟨_, B4, m4, d4, rfl, rfl, heap_new rfl, (h4.alloc _).lower (by rw [hL4.out]; first | exact Nat.le_refl _ | (simp; done)), hmd4, hbw.alloc hbw.size _, hbw.size⟩
        | exact ⟨_, B4, m4, d4, rfl, rfl, set21 (set20 hb5), ((h4.setLow (by rw [hL4.out]; simp)).setLow (by rw [hL4.out]; simp)).lower (by rw [hL4.out]; simp), hmd4, (hbw.setCell (p := ⟨v9.heap.size, 0, none⟩) (Nat.le_refl _) _).setCell (p := ⟨v9.heap.size, 1, none⟩) (Nat.le_refl _) _, Nat.le_refl _⟩
  case rest =>
  obtain ⟨p10, B5, m5, d5, rfl, rfl, hp10, h5, hmd5, hbw, hpl10⟩ := hcut
  have HB5 := Lib.hid (HB9.out.trans (hbw.mono hs9c))
  cases hft : fitB f (chgF f k (fromT t)) st done
  · have HE := Lib.hid (HFX.out.trans ((if_neg (by rw [hfr]; simp)).trans ((if_neg (by rw [hcg]; simp)).trans (if_pos hft))))
    go_wp2_with fail
    go_ret
    exact ⟨ret_s (by rw [HE.out]; rfl), by rw [HE.out]; exact HS.out.below HB5.out, out_below HB5.out⟩
  have HE := Lib.hid (HFX.out.trans ((if_neg (by rw [hfr]; simp)).trans ((if_neg (by rw [hcg]; simp)).trans (if_neg (by rw [hft]; simp)))))
  have HP5 := Lib.hid ((HB5.out.block _ hpl).trans HP.out)
  have HP9b := Lib.hid ((hbw.block _ hp9l).trans HP9.out)
  have z0 := (blk_cl (k := 0) HP5.out rfl).1
  have z0' := (blk_cl (k := 0) HP5.out rfl).2
  have z1 := (blk_cl (k := 1) HP5.out rfl).1
  have z1' := (blk_cl (k := 1) HP5.out rfl).2
  have z2 := (blk_cl (k := 2) HP5.out rfl).1
  have z2' := (blk_cl (k := 2) HP5.out rfl).2
  have z3 := (blk_cl (k := 3) HP5.out rfl).1
  have z3' := (blk_cl (k := 3) HP5.out rfl).2
  have y0 := (blk_cl (k := 0) HP9b.out rfl).1
  have y1 := (blk_cl (k := 1) HP9b.out rfl).1
  have x0 := (blk_cl (k := 0) hp10 rfl).1
  have x1 := (blk_cl (k := 1) hp10 rfl).1
  have hp9n : p9 ≠ p := by omega
  have hp10n : p10 ≠ p := by omega
  have HRF := Lib.hid ((HR9.out.below hbw).lower (by omega : w.heap.size ≤ w2.heap.size))
  have HCF := Lib.hid (HROW.out.caps.below hbw)
  have HRD := Lib.hid (h5.lower (by omega : w.heap.size ≤ v9.heap.size))
  have HSF := Lib.hid (Ses.putAll (f := chgF f k (fromT t)) (st := Y.1) (done := Y.2) (c' := cg) HP5.out hpl HRF.out HCF.out HRD.out hmd5 (fun k hk => (HKK.out k hk).1) HB5.out.size)
  have HOF := Lib.hid (((((out_below (p := p) HB5.out).set_ (Nat.le_refl _) (Nat.lt_succ_self _) 0 (.int .i64 (chgF f k (fromT t)).ver)).set_ (Nat.le_refl _) (Nat.lt_succ_self _) 1 (.slice G g cg)).set_ (Nat.le_refl _) (Nat.lt_succ_self _) 2 (.int .i64 Y.1)).set_ (Nat.le_refl _) (Nat.lt_succ_self _) 3 (.slice B5 m5 d5))
  clear hp10
  go_wp2_with fail
  go_region
  go_wp2_with fail
  go_ret
  exact ⟨ret_s (by rw [HE.out]; rfl), by rw [HE.out]; exact HSF.out, ⟨HOF.out.os, HOF.out.tape, HOF.out.output, HOF.out.size, HOF.out.block⟩⟩
end Go.Proofs.YthdfefgianokgaaGreatDoor

/- The session of a script: a line. -/
namespace Go.Proofs.YthdfefgianokgaaGreatDoor
open Go.RowKit

/-- The two tables of words. -/
def Maps (w : World) : Prop := ∃ (b1 b2 : Nat) (e1 e2 : Array MapEntry) (k1 k2 : Nat), w.cell? ⟨0, 0, none⟩ = some (.map (some b1)) ∧ w.cell? ⟨1, 0, none⟩ = some (.map (some b2)) ∧ w.heap[b1]? = some (.map e1 k1) ∧ w.heap[b2]? = some (.map e2 k2) ∧
  (∀ (w' : World) (s : Str), w'.heap[b1]? = some (.map e1 k1) → s.size ≤ maxLen → (Instr.lookup 62 (.map (some b1)) (.string s) false).run Tryz.prog w' = .ok (.int .i64 (kindW s)) w') ∧
  (∀ (w' : World) (s : Str), w'.heap[b2]? = some (.map e2 k2) → s.size ≤ maxLen → (Instr.lookup 62 (.map (some b2)) (.string s) false).run Tryz.prog w' = .ok (.int .i64 (chgW s)) w')
theorem Maps.below {w w' : World} (h : Maps w) (hb : Below w.heap.size w w') : Maps w' := by
  obtain ⟨b1, b2, e1, e2, k1, k2, h1, h2, h3, h4, h5, h6⟩ := h
  exact ⟨b1, b2, e1, e2, k1, k2, (hb.cell (p := ⟨0, 0, none⟩) (cell_lt h1)).trans h1, (hb.cell (p := ⟨1, 0, none⟩) (cell_lt h2)).trans h2, (hb.block _ (heap_lt h3)).trans h3, (hb.block _ (heap_lt h4)).trans h4, h5, h6⟩

set_option maxRecDepth 100000 in
set_option maxHeartbeats 8000000 in
theorem line_any (K : Nat → Prop) (p : Nat) (s : St) (ws : List Str) (A1 : Option Addr) (n1 c1 lo1 : Nat) (w : World) (hS : Ses K p s w) (hG : Good s) (hW : RStr w lo1 A1 n1 ws) (hz : ∀ j, j < n1 → (nth ws j).size ≤ 400) (hM : HasMax w) (hMP : Maps w) :
    Calls Tryz.prog 24 #[.pointer (some ⟨p, 0, none⟩), .slice A1 n1 c1] w fun e w' => e = .returned (.string (wordsX s ws).2) ∧ Ses K p (wordsX s ws).1 w' ∧ Out p (p + 1) w w' := by
  have HS := Lib.hid hS
  have HGS := Lib.hid hG
  have HM := Lib.hid hM; clear hM
  have HL1 := Lib.hid hW.1
  obtain ⟨f, st, done⟩ := s
  have HOK := Lib.hid (okSteps_of hG.1)
  obtain ⟨A, n, c, B, m, d, lo, hi, lo', hi', h1, ⟨h3, h4, h5, h5c⟩, ⟨h6, h7, h8⟩, h9, hKK⟩ := hS
  clear hKK
  have hm : m ≤ 1048576 := by have e := h6.1; have := (run_sizes hG.2).1; rw [← e]; exact Nat.le_trans this (by omega)
  have HP := Lib.hid h1
  have hpl := heap_lt h1
  have HRC := Lib.hid (fun (cur : World) (h : Below w.heap.size w cur) => (show RStep cur 0 A n f.steps from ((h3.below h h5).up (Nat.le_trans h5 h.size)).lower (Nat.zero_le _)))
  have HDC := Lib.hid (fun (cur : World) (h : Below w.heap.size w cur) => (show RStr cur 0 B m done from ((h6.below h h8).up (Nat.le_trans h8 h.size)).lower (Nat.zero_le _)))
  have HCC := Lib.hid (fun (cur : World) (h : Below w.heap.size w cur) => h5c.below h)
  clear h1 h3 h4 h5 h5c h6 h7 h8 hG
  have HSB : Hid (∀ w', Below w.heap.size w w' → w'.cell? ⟨p, 0, none⟩ = some (.int .i64 f.ver) ∧ w'.cell? ⟨p, 1, none⟩ = some (.slice A n c) ∧ w'.cell? ⟨p, 2, none⟩ = some (.int .i64 st) ∧ w'.cell? ⟨p, 3, none⟩ = some (.slice B m d)) := Lib.hid (fun w' h => by
    have e1 := (h.block _ hpl).trans HP.out
    exact ⟨(blk_cl (k := 0) e1 rfl).1, (blk_cl (k := 1) e1 rfl).1, (blk_cl (k := 2) e1 rfl).1, (blk_cl (k := 3) e1 rfl).1⟩)
  have s0 := (blk_cl (k := 0) HP.out rfl).1
  have s1 := (blk_cl (k := 1) HP.out rfl).1
  have s2 := (blk_cl (k := 2) HP.out rfl).1
  have s3 := (blk_cl (k := 3) HP.out rfl).1
  obtain ⟨b1, b2, e1, e2, k1, k2, m1, m2, m3, m4, m5, m6⟩ := hMP
  have hb2p : b2 ≠ p := fun e => by
    rw [e, HP.out] at m4
    cases m4
  have hcgp : 1 ≠ p := fun e => by
    rw [e] at m2
    have h0 := (blk_cl (k := 0) HP.out rfl).1
    rw [h0] at m2
    cases m2
  generalize Obj.map e1 k1 = o1 at *
  generalize Obj.map e2 k2 = o2 at *
  have hme := m1
  have HM3 := Lib.hid m3; clear m3
  have HM4 := Lib.hid m4; clear m4
  have HM5 := Lib.hid m5; clear m5
  have HM6 := Lib.hid m6; clear m6
  by_cases hn : n1 = 1
  · subst hn
    obtain ⟨a, rfl⟩ : ∃ a, ws = [a] := by
      have e := HL1.out
      match ws, e with
      | [a], _ => exact ⟨a, rfl⟩
    obtain ⟨kb, off, rfl, ⟨_, hkl⟩, hcs⟩ := RStr.at_ hW (k := 0) (by omega)
    have c0 := (hcs 0 (by omega)).1
    rw [show nth [a] 0 = a from rfl, Nat.add_zero] at c0
    clear hcs hz
    have q1 := eqL a [110, 101, 119]
    have q2 := eqL a [110, 101, 120, 116]
    have q3 := eqL a [115, 104, 111, 119]
    by_cases hnw : a = newT
    · subst hnw
      have q1' : (newT.toList == [110, 101, 119]) = true := by rw [q1]; decide
      have HE := Lib.hid (show wordsX (f, st, done) [newT] = ((f, (0, [])), okT) from rfl)
      clear q1 q2 q3
      have HRN := Lib.hid (fun (cur : World) (h : Below w.heap.size w cur) => (runNewI_any A n c f 0 cur (HRC.out _ h) HOK.out).mono (R' := fun e w' => e = .returned (.tuple #[.agg #[.int .i64 0, .slice none 0 0], .bool (flowB f)]) ∧ Below w.heap.size w w') (by
        rintro e w' ⟨h1, h2⟩
        exact ⟨h1, h.trans (h2.mono h.size)⟩))
      go_enter Tryz.func24, Tryz.ntmps24
      go_wp2_with fail
      go_quiet (fail)
      go_wp2_with fail
      go_quiet (fail)
      go_wp2_with fail
      refine (HRN.out _ (by (repeat (first | with_reducible exact hbw | with_reducible exact Below.refl _ _ | apply below_drewN | apply Below.drew | apply Below.al2_)))).mono ?_
      rintro e w3 ⟨rfl, hb3⟩
      have HP3 := Lib.hid ((hb3.block _ hpl).trans HP.out)
      have z2 := (blk_cl (k := 2) HP3.out rfl).1
      have z2' := (blk_cl (k := 2) HP3.out rfl).2
      have z3 := (blk_cl (k := 3) HP3.out rfl).1
      have z3' := (blk_cl (k := 3) HP3.out rfl).2
      go_wp2_with fail
      go_ret
      exact ⟨ret_s (by rw [HE.out]; first | done | rfl), by rw [HE.out]; exact HS.out.putRun hb3 hpl RL.nil (Nat.le_refl 0), ((out_below hb3).set_ (Nat.le_refl _) (Nat.lt_succ_self _) 2 (.int .i64 0)).set_ (Nat.le_refl _) (Nat.lt_succ_self _) 3 (.slice none 0 0)⟩
    by_cases hnx : a = nextT
    · subst hnx
      have q1' : (nextT.toList == [110, 101, 119]) = false := by rw [q1]; decide
      have q2' : (nextT.toList == [110, 101, 120, 116]) = true := by rw [q2]; decide
      have HE := Lib.hid (show wordsX (f, st, done) [nextT] = ((f, st, done), (⟨#[110, 101, 120, 116, 32]⟩ ++ namesS (nextL f st done)) ++ ⟨#[10]⟩) from rfl)
      have HN8 := Lib.hid (next_names (f := f) (st := st) (done := done))
      have g1 := names8 HN8.out.1 HN8.out.2
      have k1 : ¬ (9223372036854775807 < 5 + (namesS (nextL f st done)).size) := by omega
      have k2 : ¬ (9223372036854775807 < 5 + (namesS (nextL f st done)).size + 1) := by omega
      clear q1 q2 q3
      have HNX := Lib.hid (fun (cur : World) (h : Below w.heap.size w cur) => (nextI_any A B n c m d f st done 0 0 cur (HRC.out _ h) HOK.out (HDC.out _ h) hm h9).mono (R' := fun e w' => ∃ A' n' c', e = .returned (.slice A' n' c') ∧ RStr w' cur.heap.size A' n' (nextL f st done) ∧ n' ≤ c' ∧ Below w.heap.size w w') (by
        rintro e w' ⟨A', n', c', h1, h2, h3, h4⟩
        exact ⟨A', n', c', h1, h2, h4, h.trans (h3.mono h.size)⟩))
      go_enter Tryz.func24, Tryz.ntmps24
      go_wp2_with fail
      go_quiet (fail)
      go_wp2_with fail
      go_quiet (fail)
      go_wp2_with fail
      clear s0 s1 s2 s3
      go_region_held3 (fun w' => w'.cell? ⟨p, 0, none⟩ = some (.int .i64 f.ver) ∧ w'.cell? ⟨p, 1, none⟩ = some (.slice A n c) ∧ w'.cell? ⟨p, 2, none⟩ = some (.int .i64 st) ∧ w'.cell? ⟨p, 3, none⟩ = some (.slice B m d))
        ((refine HSB.out _ ?_; (repeat (first | with_reducible exact hbw | with_reducible exact Below.refl _ _ | apply below_drewN | apply Below.drew | apply Below.al2_)); done))
        (first
          | (go_at_call 38; refine (HNX.out _ (by (repeat (first | with_reducible exact hbw | with_reducible exact Below.refl _ _ | apply below_drewN | apply Below.drew | apply Below.al2_)))).mono ?_; rintro e w3 ⟨A3, n3, c3, rfl, h3, hc3, hbw⟩)
          | (go_at_call 37; refine (namesTextI_any _ _ _ (nextL f st done) _ _ h3 hc3 (by (have := h3.1; have := HN8.out.1; omega)) (fun j hj => by (have := (nameB_size (HN8.out.2 j (by (have := h3.1; omega)))).2; omega))).mono ?_; rintro e w4 ⟨rfl, hb4⟩; replace hbw := hbw.trans (hb4.mono hbw.size))
          | fail "no arm")
      go_wp2_with fail
      go_ret
      exact ⟨ret_s (by rw [HE.out]; first | done | rfl), by rw [HE.out]; exact HS.out.below hbw, out_below hbw⟩
    by_cases hsh : a = showT
    · subst hsh
      have q1' : (showT.toList == [110, 101, 119]) = false := by rw [q1]; decide
      have q2' : (showT.toList == [110, 101, 120, 116]) = false := by rw [q2]; decide
      have q3' : (showT.toList == [115, 104, 111, 119]) = true := by rw [q3]; decide
      have HE := Lib.hid (show wordsX (f, st, done) [showT] = ((f, st, done), (flowTextS f ++ rtT f st done) ++ ⟨#[10]⟩) from rfl)
      have g1 := ft_size f
      have g2 := rtT_size f st done
      have k1 : ¬ (9223372036854775807 < (flowTextS f).size + (rtT f st done).size) := by omega
      have k2 : ¬ (9223372036854775807 < (flowTextS f).size + (rtT f st done).size + 1) := by omega
      clear q1 q2 q3
      have HFT := Lib.hid (fun (cur : World) (h : Below w.heap.size w cur) => (flowTextI_any A n c f 0 cur (HRC.out _ h) HOK.out (HCC.out _ h)).mono (R' := fun e w' => e = .returned (.string (flowTextS f)) ∧ Below w.heap.size w w') (by
        rintro e w' ⟨h1, h2⟩
        exact ⟨h1, h.trans (h2.mono h.size)⟩))
      have HRT := Lib.hid (fun (cur : World) (h : Below w.heap.size w cur) => (runTextI_any A B n c m d f st done 0 0 cur (HRC.out _ h) HOK.out (HDC.out _ h) hm h9).mono (R' := fun e w' => e = .returned (.string (rtT f st done)) ∧ Below w.heap.size w w') (by
        rintro e w' ⟨h1, h2⟩
        exact ⟨h1, h.trans (h2.mono h.size)⟩))
      go_enter Tryz.func24, Tryz.ntmps24
      go_wp2_with fail
      go_quiet (fail)
      go_wp2_with fail
      go_quiet (fail)
      go_wp2_with fail
      clear s0 s1 s2 s3
      go_region_held3 (fun w' => w'.cell? ⟨p, 0, none⟩ = some (.int .i64 f.ver) ∧ w'.cell? ⟨p, 1, none⟩ = some (.slice A n c) ∧ w'.cell? ⟨p, 2, none⟩ = some (.int .i64 st) ∧ w'.cell? ⟨p, 3, none⟩ = some (.slice B m d))
        ((refine HSB.out _ ?_; (repeat (first | with_reducible exact hbw | with_reducible exact Below.refl _ _ | apply below_drewN | apply Below.drew | apply Below.al2_)); done))
        (first
          | (go_at_call 39; refine (HFT.out _ (by (repeat (first | with_reducible exact hbw | with_reducible exact Below.refl _ _ | apply below_drewN | apply Below.drew | apply Below.al2_)))).mono ?_; rintro e w3 ⟨rfl, hbw⟩)
          | (go_at_call 25; refine (HRT.out _ (by (repeat (first | with_reducible exact hbw | with_reducible exact Below.refl _ _ | apply below_drewN | apply Below.drew | apply Below.al2_)))).mono ?_; rintro e w4 ⟨rfl, hbv⟩; clear hbw; have hbw := hbv; clear hbv)
          | fail "no arm")
      go_wp2_with fail
      go_ret
      exact ⟨ret_s (by rw [HE.out]; first | done | rfl), by rw [HE.out]; exact HS.out.below hbw, out_below hbw⟩
    have q1' : (a.toList == [110, 101, 119]) = false := by rw [q1]; exact decide_eq_false hnw
    have q2' : (a.toList == [110, 101, 120, 116]) = false := by rw [q2]; exact decide_eq_false hnx
    have q3' : (a.toList == [115, 104, 111, 119]) = false := by rw [q3]; exact decide_eq_false hsh
    have HE := Lib.hid (show wordsX (f, st, done) [a] = ((f, st, done), whatT) by show oneX _ a = _; unfold oneX; rw [if_neg hnw, if_neg hnx, if_neg hsh])
    clear q1 q2 q3 hnw hnx hsh
    go_enter Tryz.func24, Tryz.ntmps24
    go_wp2_with fail
    go_quiet (fail)
    go_wp2_with fail
    go_quiet (fail)
    go_wp2_with fail
    go_ret
    exact ⟨ret_s (by rw [HE.out]; first | done | rfl), by rw [HE.out]; exact HS.out.below (by (repeat (first | with_reducible exact hbw | with_reducible exact Below.refl _ _ | apply below_drewN | apply Below.drew | apply Below.al2_))), out_below (by (repeat (first | with_reducible exact hbw | with_reducible exact Below.refl _ _ | apply below_drewN | apply Below.drew | apply Below.al2_)))⟩
  by_cases hn2 : n1 = 2
  · subst hn2
    obtain ⟨a, b, rfl⟩ : ∃ a b, ws = [a, b] := by
      have e := HL1.out
      match ws, e with
      | [a, b], _ => exact ⟨a, b, rfl⟩
    obtain ⟨kb, off, rfl, ⟨_, hkl⟩, hcs⟩ := RStr.at_ hW (k := 0) (by omega)
    have c0 := (hcs 0 (by omega)).1
    have c1' := (hcs 1 (by omega)).1
    rw [show nth [a, b] 0 = a from rfl, Nat.add_zero] at c0
    rw [show nth [a, b] 1 = b from rfl] at c1'
    have haz : a.size ≤ maxLen := by have := hz 0 (by omega); rw [show nth [a, b] 0 = a from rfl] at this; unfold maxLen; omega
    have hbz : b.size ≤ 1048576 := by have := hz 1 (by omega); rw [show nth [a, b] 1 = b from rfl] at this; omega
    clear hcs hz
    have HKW := Lib.hid (kindW_range a)
    have HCW := Lib.hid (chgW_range a)
    have L1 : ∀ z, (Instr.lookup 62 (.map (some b1)) (.string a) false).run Tryz.prog (w.drewN z) = .ok (.int .i64 (kindW a)) (w.drewN z) := fun z => HM5.out _ a (by rw [World.heap_drewN]; exact HM3.out) haz
    have L2 : ∀ z y, (Instr.lookup 62 (.map (some b2)) (.string a) false).run Tryz.prog ((w.drewN z).drewN y) = .ok (.int .i64 (chgW a)) ((w.drewN z).drewN y) := fun z y => HM6.out _ a (by rw [World.heap_drewN, World.heap_drewN]; exact HM4.out) haz
    have L2' : ∀ z, (Instr.lookup 62 (.map (some b2)) (.string a) false).run Tryz.prog (w.drewN z) = .ok (.int .i64 (chgW a)) (w.drewN z) := fun z => HM6.out _ a (by rw [World.heap_drewN]; exact HM4.out) haz
    have HE0 := Lib.hid (show wordsX (f, st, done) [a, b] = twoX (f, st, done) a b from rfl)
    by_cases hk : kindW a = 0
    · by_cases hcw : chgW a = 0
      · have hkb : (kindW a != 0) = false := by rw [hk]; rfl
        have hcb : (chgW a != 0) = false := by rw [hcw]; rfl
        have HE := Lib.hid (HE0.out.trans (show twoX (f, st, done) a b = ((f, st, done), whatT) by unfold twoX; rw [if_neg (by rw [hk]; simp), if_neg (by rw [hcw]; simp)]))
        clear hk hcw
        go_enter Tryz.func24, Tryz.ntmps24
        go_wp2_with fail
        go_quiet (fail)
        go_wp2_with fail
        go_quiet (fail)
        go_wp2_with fail
        go_ret
        exact ⟨ret_s (by rw [HE.out]; first | done | rfl), by rw [HE.out]; exact HS.out.below (by (repeat (first | with_reducible exact hbw | with_reducible exact Below.refl _ _ | apply below_drewN | apply Below.drew | apply Below.al2_))), out_below (by (repeat (first | with_reducible exact hbw | with_reducible exact Below.refl _ _ | apply below_drewN | apply Below.drew | apply Below.al2_)))⟩
      · have hkb : (kindW a != 0) = false := by rw [hk]; rfl
        have hcb : (chgW a != 0) = true := by simp [hcw]
        have HE := Lib.hid (HE0.out.trans (show twoX (f, st, done) a b = flowX (f, st, done) (chgW a) b by unfold twoX; rw [if_neg (by rw [hk]; simp), if_pos hcw]))
        have hg0 := cell_lt m2
        have hb2l := heap_lt HM4.out
        have HS9 : Hid (∀ w', Below w.heap.size w w' → (fun w' => (w'.cell? ⟨kb, off, none⟩ = some (.string a) ∧ w'.cell? ⟨kb, off + 1, none⟩ = some (.string b)) ∧ (w'.cell? ⟨1, 0, none⟩ = some (.map (some b2)) ∧ w'.heap[b2]? = some o2)) w') := Lib.hid (fun w' h =>
          ⟨⟨(h.cell (p := ⟨kb, off, none⟩) hkl).trans c0, (h.cell (p := ⟨kb, off + 1, none⟩) hkl).trans c1'⟩, (h.cell (p := ⟨1, 0, none⟩) hg0).trans m2, (h.block _ hb2l).trans HM4.out⟩)
        have HLK : ∀ w' : World, w'.heap[b2]? = some o2 → (Instr.lookup 62 (.map (some b2)) (.string a) false).run Tryz.prog w' = .ok (.int .i64 (chgW a)) w' := fun w' h => HM6.out w' a h haz
        have hkp : kb ≠ p := fun e => by
          rw [e] at c0
          have h0 := HP.out
          unfold World.cell? at c0
          rw [h0] at c0
          rcases off with _ | _ | _ | _ | off <;> simp at c0
        have HSO : Hid (∀ w', Out p (p + 1) w w' → (fun w' => (w'.cell? ⟨kb, off, none⟩ = some (.string a) ∧ w'.cell? ⟨kb, off + 1, none⟩ = some (.string b)) ∧ (w'.cell? ⟨1, 0, none⟩ = some (.map (some b2)) ∧ w'.heap[b2]? = some o2)) w') := Lib.hid (fun w' h => by
          have e1 := h.block kb hkl (by omega)
          have e2 := h.block b2 hb2l (by omega)
          have e3 := h.block 1 hg0 (by omega)
          exact ⟨⟨(World.cell?_of_block (w := w) (a := ⟨kb, off, none⟩) e1).trans c0, (World.cell?_of_block (w := w) (a := ⟨kb, off + 1, none⟩) e1).trans c1'⟩, (World.cell?_of_block (w := w) (a := ⟨1, 0, none⟩) e3).trans m2, e2.trans HM4.out⟩)
        have L3 : ∀ z, (Instr.lookup 62 (.map (some b2)) (.string a) false).run Tryz.prog (w.drewN z).drew = .ok (.int .i64 (chgW a)) (w.drewN z).drew := fun z => HM6.out _ a (show (w.drewN z).heap[b2]? = some o2 from by rw [World.heap_drewN]; exact HM4.out) haz
        have L4 : ∀ z y, (Instr.lookup 62 (.map (some b2)) (.string a) false).run Tryz.prog ((w.drewN z).drewN y).drew = .ok (.int .i64 (chgW a)) ((w.drewN z).drewN y).drew := fun z y => HM6.out _ a (show ((w.drewN z).drewN y).heap[b2]? = some o2 from by rw [World.heap_drewN, World.heap_drewN]; exact HM4.out) haz
        have HCH := Lib.hid (fun (cur : World) (h : Below w.heap.size w cur) => (change_any K p (f, st, done) (chgW a) b cur (HS.out.below h) HGS.out hbz (HM.out.below h rfl)).mono (R' := fun e w' => e = .returned (.string (flowX (f, st, done) (chgW a) b).2) ∧ Ses K p (flowX (f, st, done) (chgW a) b).1 w' ∧ Out p (p + 1) w w') (by
          rintro e w' ⟨h1, h2, h3⟩
          exact ⟨h1, h2, (out_below h).trans h3⟩))
        generalize flowX (f, st, done) (chgW a) b = Y at *
        go_enter Tryz.func24, Tryz.ntmps24
        go_wp2_with fail
        go_quiet (fail)
        go_wp2_with fail
        go_quiet (fail)
        go_wp2_with fail
        clear s0 s1 s2 s3 L1 L2 c0 c1'
        go_region_held3 (fun w' => (w'.cell? ⟨kb, off, none⟩ = some (.string a) ∧ w'.cell? ⟨kb, off + 1, none⟩ = some (.string b)) ∧ (w'.cell? ⟨1, 0, none⟩ = some (.map (some b2)) ∧ w'.heap[b2]? = some o2))
          (first | (refine HS9.out _ ?_; (repeat (first | with_reducible exact hbw | with_reducible exact Below.refl _ _ | apply below_drewN | apply Below.drew | apply Below.al2_)); done) | exact HSO.out _ hout | fail "keep")
          (first
            | (go_at_call 35; refine (HCH.out _ (by (repeat (first | with_reducible exact hbw | with_reducible exact Below.refl _ _ | apply below_drewN | apply Below.drew | apply Below.al2_)))).mono ?_; rintro e w4 ⟨rfl, hses, hout⟩)
            | fail "no arm")
        go_wp2_with fail
        go_ret
        exact ⟨ret_s (by rw [HE.out]), by rw [HE.out]; exact hses, hout⟩
    · have hkb : (kindW a != 0) = true := by simp [hk]
      have HE1 := Lib.hid (HE0.out.trans (show twoX (f, st, done) a b = if evB f st done (kindW a) b = true then ((f, evR f st done (kindW a) b), okT) else ((f, st, done), noT) by unfold twoX; rw [if_pos hk]))
      have HEV := Lib.hid (fun (cur : World) (h : Below w.heap.size w cur) => (evI_any A B n c m d f st done (kindW a) b 0 0 cur (HRC.out _ h) HOK.out (HDC.out _ h) hm h9).mono (R' := fun e w' => ∃ (B' : Option Addr) (m' d' L : Nat), e = .returned (.tuple #[.agg #[.int .i64 (evR f st done (kindW a) b).1, .slice B' m' d'], .bool (evB f st done (kindW a) b)]) ∧ RStr w' L B' m' (evR f st done (kindW a) b).2 ∧ m' ≤ d' ∧ Below w.heap.size w w' ∧ Below cur.heap.size cur w' ∧ L = cur.heap.size) (by
        rintro e w' ⟨B', m', d', h1, h2, h3⟩
        obtain ⟨A9, c9, e9, h9⟩ := own_str h2
        injection e9 with e9 _ _
        subst e9
        exact ⟨B', m', d', _, h1, h9, row_cap h2, h.trans (h3.mono h.size), h3, rfl⟩))
      have hg0 := cell_lt m1
      have hb1l := heap_lt HM3.out
      have HS9 : Hid (∀ w', Below w.heap.size w w' → (fun w' => (w'.cell? ⟨p, 0, none⟩ = some (.int .i64 f.ver) ∧ w'.cell? ⟨p, 1, none⟩ = some (.slice A n c) ∧ w'.cell? ⟨p, 2, none⟩ = some (.int .i64 st) ∧ w'.cell? ⟨p, 3, none⟩ = some (.slice B m d)) ∧ (w'.cell? ⟨kb, off, none⟩ = some (.string a) ∧ w'.cell? ⟨kb, off + 1, none⟩ = some (.string b)) ∧ (w'.cell? ⟨0, 0, none⟩ = some (.map (some b1)) ∧ w'.heap[b1]? = some o1)) w') := Lib.hid (fun w' h =>
        ⟨HSB.out _ h, ⟨(h.cell (p := ⟨kb, off, none⟩) hkl).trans c0, (h.cell (p := ⟨kb, off + 1, none⟩) hkl).trans c1'⟩, (h.cell (p := ⟨0, 0, none⟩) hg0).trans m1, (h.block _ hb1l).trans HM3.out⟩)
      have HK9 : Hid (∀ (w' : World) (o : Nat) (u : Value), (fun w' => (w'.cell? ⟨p, 0, none⟩ = some (.int .i64 f.ver) ∧ w'.cell? ⟨p, 1, none⟩ = some (.slice A n c) ∧ w'.cell? ⟨p, 2, none⟩ = some (.int .i64 st) ∧ w'.cell? ⟨p, 3, none⟩ = some (.slice B m d)) ∧ (w'.cell? ⟨kb, off, none⟩ = some (.string a) ∧ w'.cell? ⟨kb, off + 1, none⟩ = some (.string b)) ∧ (w'.cell? ⟨0, 0, none⟩ = some (.map (some b1)) ∧ w'.heap[b1]? = some o1)) w' → (fun w' => (w'.cell? ⟨p, 0, none⟩ = some (.int .i64 f.ver) ∧ w'.cell? ⟨p, 1, none⟩ = some (.slice A n c) ∧ w'.cell? ⟨p, 2, none⟩ = some (.int .i64 st) ∧ w'.cell? ⟨p, 3, none⟩ = some (.slice B m d)) ∧ (w'.cell? ⟨kb, off, none⟩ = some (.string a) ∧ w'.cell? ⟨kb, off + 1, none⟩ = some (.string b)) ∧ (w'.cell? ⟨0, 0, none⟩ = some (.map (some b1)) ∧ w'.heap[b1]? = some o1)) (w'.setCell ⟨w.heap.size, o, none⟩ u)) := Lib.hid (fun w' o u h =>
        ⟨⟨(World.cell?_setCell_other _ _ _ _ (fun e => by injection e; omega)).trans h.1.1, (World.cell?_setCell_other _ _ _ _ (fun e => by injection e; omega)).trans h.1.2.1, (World.cell?_setCell_other _ _ _ _ (fun e => by injection e; omega)).trans h.1.2.2.1, (World.cell?_setCell_other _ _ _ _ (fun e => by injection e; omega)).trans h.1.2.2.2⟩,
         ⟨(World.cell?_setCell_other _ _ _ _ (fun e => by injection e; omega)).trans h.2.1.1, (World.cell?_setCell_other _ _ _ _ (fun e => by injection e; omega)).trans h.2.1.2⟩, (World.cell?_setCell_other _ _ _ _ (fun e => by (injection e with e1 _; have e2 : w.heap.size = 0 := e1; have h0 : 0 < w.heap.size := hg0; omega))).trans h.2.2.1, (Below.heap_setCell _ _ _ _ (by intro e; have e2 : b1 = w.heap.size := e; omega)).trans h.2.2.2⟩)
      have HLK : ∀ w' : World, w'.heap[b1]? = some o1 → (Instr.lookup 62 (.map (some b1)) (.string a) false).run Tryz.prog w' = .ok (.int .i64 (kindW a)) w' := fun w' h => HM5.out w' a h haz
      have La : ∀ z, (Instr.lookup 62 (.map (some b1)) (.string a) false).run Tryz.prog (w.drewN z).drew = .ok (.int .i64 (kindW a)) (w.drewN z).drew := fun z => HM5.out _ a (show (w.drewN z).heap[b1]? = some o1 from by rw [World.heap_drewN]; exact HM3.out) haz
      have Lb : ∀ z o, (Instr.lookup 62 (.map (some b1)) (.string a) false).run Tryz.prog ((w.drewN z).alloc o) = .ok (.int .i64 (kindW a)) ((w.drewN z).alloc o) := fun z o => HM5.out _ a (heap_old (by rw [World.heap_drewN]; exact HM3.out)) haz
      have Lc : ∀ z o, (Instr.lookup 62 (.map (some b1)) (.string a) false).run Tryz.prog ((w.drewN z).alloc o).drew = .ok (.int .i64 (kindW a)) ((w.drewN z).alloc o).drew := fun z o => HM5.out _ a (show ((w.drewN z).alloc o).heap[b1]? = some o1 from heap_old (by rw [World.heap_drewN]; exact HM3.out)) haz
      have Ld : ∀ z o, (Instr.lookup 62 (.map (some b1)) (.string a) false).run Tryz.prog ((w.drewN z).drew.alloc o) = .ok (.int .i64 (kindW a)) ((w.drewN z).drew.alloc o) := fun z o => HM5.out _ a (show ((w.drewN z).drew.alloc o).heap[b1]? = some o1 from heap_old (show (w.drewN z).heap[b1]? = some o1 from by rw [World.heap_drewN]; exact HM3.out)) haz
      go_enter Tryz.func24, Tryz.ntmps24
      go_wp2_with fail
      go_quiet (fail)
      clear s0 s1 s2 s3
      go_upto_region 2 with fail
      generalize evR f st done (kindW a) b = Y at *
      clear L2 L2' c0 c1'
      go_cut [5, 6] (fun s5 s6 wx => ∃ (p5 : Nat) (B' : Option Addr) (m' d' : Nat), s5 = .pointer (some ⟨p5, 0, none⟩) ∧ s6 = .bool (evB f st done (kindW a) b) ∧ wx.heap[p5]? = some (.cells #[.int .i64 Y.1, .slice B' m' d'] 40 (0, 0)) ∧ RStr wx w.heap.size B' m' Y.2 ∧ m' ≤ d' ∧ Below w.heap.size w wx ∧ w.heap.size ≤ p5)
      case first =>
        go_region_held3 (fun w' => (w'.cell? ⟨p, 0, none⟩ = some (.int .i64 f.ver) ∧ w'.cell? ⟨p, 1, none⟩ = some (.slice A n c) ∧ w'.cell? ⟨p, 2, none⟩ = some (.int .i64 st) ∧ w'.cell? ⟨p, 3, none⟩ = some (.slice B m d)) ∧ (w'.cell? ⟨kb, off, none⟩ = some (.string a) ∧ w'.cell? ⟨kb, off + 1, none⟩ = some (.string b)) ∧ (w'.cell? ⟨0, 0, none⟩ = some (.map (some b1)) ∧ w'.heap[b1]? = some o1))
          (((repeat (refine HK9.out _ _ _ ?_)); refine HS9.out _ ?_; (repeat (first | with_reducible exact hbw | with_reducible exact Below.refl _ _ | apply below_drewN | apply Below.drew | apply Below.al2_)); done))
          (first
            | (go_at_call 34; refine (HEV.out _ (by (repeat (first | with_reducible exact hbw | with_reducible exact Below.refl _ _ | apply below_drewN | apply Below.drew | apply Below.al2_)))).mono ?_; rintro e w4 ⟨B4, m4, d4, L4, rfl, h4, hmd4, hbw, hb4, hL4⟩; replace hL4 := Lib.hid hL4; (first | (have hb5 := (hb4.block w.heap.size (by simp)).trans (heap_new (b := w.heap.size) (o := .cells #[.int .i64 0, .slice none 0 0] 40) rfl); have x0 := (blk_cl (k := 0) hb5 rfl).1; have x0' := (blk_cl (k := 0) hb5 rfl).2; have x1 := (blk_cl (k := 1) hb5 rfl).1; have x1' := (blk_cl (k := 1) hb5 rfl).2) | skip))
            | fail "no arm")
        all_goals
          go_wp2_with fail
          go_meet
          first
            | with_reducible exact ⟨_, B4, m4, d4, rfl, rfl, heap_new rfl, (h4.alloc _).lower (by rw [hL4.out]; first | exact Nat.le_refl _ | (simp; done)), hmd4, hbw.alloc hbw.size _, hbw.size⟩
            | exact ⟨_, B4, m4, d4, rfl, rfl, set21 (set20 hb5), ((h4.setLow (by rw [hL4.out]; simp)).setLow (by rw [hL4.out]; simp)).lower (by rw [hL4.out]; simp), hmd4, (hbw.setCell (p := ⟨w.heap.size, 0, none⟩) (Nat.le_refl _) _).setCell (p := ⟨w.heap.size, 1, none⟩) (Nat.le_refl _) _, Nat.le_refl _⟩
      case rest =>
        obtain ⟨p5, B5, m5, d5, rfl, rfl, hp5, h5, hmd5, hbw, hpl5⟩ := hcut
        cases hev : evB f st done (kindW a) b
        · have HE := Lib.hid (HE1.out.trans (if_neg (by rw [hev]; simp)))
          go_wp2_with fail
          go_ret
          exact ⟨ret_s (by rw [HE.out]; first | done | rfl), by rw [HE.out]; exact HS.out.below hbw, out_below hbw⟩
        · have HE := Lib.hid (HE1.out.trans (if_pos hev))
          have HP3 := Lib.hid ((hbw.block _ hpl).trans HP.out)
          have z2 := (blk_cl (k := 2) HP3.out rfl).1
          have z2' := (blk_cl (k := 2) HP3.out rfl).2
          have z3 := (blk_cl (k := 3) HP3.out rfl).1
          have z3' := (blk_cl (k := 3) HP3.out rfl).2
          have x0 := (blk_cl (k := 0) hp5 rfl).1
          have x1 := (blk_cl (k := 1) hp5 rfl).1
          have hp5n : p5 ≠ p := by omega
          go_wp2_with fail
          go_ret
          exact ⟨ret_s (by rw [HE.out]; first | done | rfl), by rw [HE.out]; exact HS.out.putRun hbw hpl h5 hmd5, ((out_below hbw).set_ (Nat.le_refl _) (Nat.lt_succ_self _) 2 (.int .i64 Y.1)).set_ (Nat.le_refl _) (Nat.lt_succ_self _) 3 (.slice B5 m5 d5)⟩
  have hmany : wordsX (f, st, done) ws = ((f, st, done), whatT) := by
    have e := HL1.out
    match ws, e with
    | [], _ => rfl
    | [_], e => exact absurd e.symm hn
    | [_, _], e => exact absurd e.symm hn2
    | _ :: _ :: _ :: _, _ => rfl
  have HE := Lib.hid (show wordsX (f, st, done) ws = ((f, st, done), whatT) from hmany)
  have hl2 : ((n1 : Int) == 2) = false := by rw [beq_eq_false_iff_ne]; omega
  have hl1 : ((n1 : Int) != 1) = true := by simp; omega
  clear hmany
  go_enter Tryz.func24, Tryz.ntmps24
  go_wp2_with fail
  go_quiet (fail)
  go_wp2_with fail
  go_quiet (fail)
  go_wp2_with fail
  go_ret
  exact ⟨ret_s (by rw [HE.out]; first | done | rfl), by rw [HE.out]; exact HS.out.below (by (repeat (first | with_reducible exact hbw | with_reducible exact Below.refl _ _ | apply below_drewN | apply Below.drew | apply Below.al2_))), out_below (by (repeat (first | with_reducible exact hbw | with_reducible exact Below.refl _ _ | apply below_drewN | apply Below.drew | apply Below.al2_)))⟩
end Go.Proofs.YthdfefgianokgaaGreatDoor

/- A builder beside other blocks: what WriteString leaves as it was. -/
namespace Go.Proofs.YthdfefgianokgaaGreatDoor
open Go.RowKit

/-- The builder in block b, and the row that it writes to. -/
def BK (b : Nat) (q v : Value) (bs : List Value) (w : World) : Prop :=
  w.heap[b]? = some (.cells #[q, v] 45 (0, 0)) ∧ w.ownsRow b 5 1 v bs.length bs ∧ v.ownBlock ≠ some b
theorem BK.at_ {b : Nat} {q v : Value} {bs : List Value} {w : World} (h : BK b q v bs w) : Lib.BuilderAt 45 5 b b q bs w := ⟨Nat.le_refl _, v, h⟩
theorem BK.row_lt {b : Nat} {q v : Value} {bs : List Value} {w : World} (h : BK b q v bs w) {g : Nat} (hg : v.ownBlock = some g) : b ≤ g ∧ g < w.heap.size := h.2.1.lt g hg
theorem BK.keep {b : Nat} {q v : Value} {bs : List Value} {w w' : World} (h : BK b q v bs w) (hk : ∀ k, k < w.heap.size → (k = b ∨ v.ownBlock = some k) → w'.heap[k]? = w.heap[k]?) : BK b q v bs w' := by
  obtain ⟨h1, h2, h3⟩ := h
  refine ⟨(hk b (heap_lt h1) (.inl rfl)).trans h1, ⟨h2.1, ?_⟩, h3⟩
  rcases h2.2 with e | ⟨g, cap, cur, e, hb, hg, r⟩
  · exact .inl e
  · exact .inr ⟨g, cap, cur, e, hb, (hk g (heap_lt hg) (.inr (by rw [e]; rfl))).trans hg, r⟩
theorem own_next {b n : Nat} {v v' : Value} {t u ty e : TypeId} {i : TypeInfo} {xs : List Value} {s : ByteArray} {w w' : World} (ht : Tryz.prog.underlying t = some (.slice e)) (hu : Tryz.prog.underlying u = some .string) (hi : Tryz.prog.info? e = some i) (hz : i.zero = some (.int .u8 0)) (hsize : i.size = 1) (hby : i.bytes = 1)
    (hown : w.ownsRow b e 1 v n xs) (hb : n + s.size ≤ 140737488355328) (hr : (Builtin.append_ #[t, u] ty #[v, .string s]).run Tryz.prog w = .ok v' w') : v'.ownBlock = v.ownBlock ∨ v'.ownBlock = some w.heap.size := by
  have hxl : xs.length = n := by simpa using hown.1
  rcases hown.2 with ⟨rfl, rfl⟩ | ⟨g, cap, cur, rfl, hbg, hg, hnc, hcm, hcs, htake⟩
  · by_cases hm : s.size = 0
    · have hf := Lib.run_firstCells_string (P := Tryz.prog) w 1 s
      rw [hm] at hf
      simp [Builtin.append_, run_underlying ht, run_underlying hu, sizeOf, typeInfo, hi, hsize, Builtin.lenOf, hm, hf] at hr
      rw [← hr.1]
      exact .inl rfl
    · rw [run_append_nil_string (P := Tryz.prog) w t u ty e i (.int .u8 0) ht hu hi hz s (by omega) (by omega) (by rw [hby]; omega)] at hr
      injection hr with h1 _
      rw [← h1]
      exact .inr rfl
  · by_cases hroom : n + s.size ≤ cap
    · rw [Lib.run_append_room_string (P := Tryz.prog) w t u ty e i ht hu hi hsize g n cap cur hg s hroom (by omega)] at hr
      injection hr with h1 _
      rw [← h1]
      exact .inl rfl
    · have holds : ∀ j u, xs[j]? = some u → w.cell? ((⟨g, 0, none⟩ : Addr).add j) = some u := hown.cells (g := g) rfl
      rw [Lib.run_append_grow_string (P := Tryz.prog) w t u ty e i (.int .u8 0) ht hu hi hz ⟨g, 0, none⟩ n cap xs (by rw [hsize]; simpa using hxl) holds s (by omega) (by omega) (by rw [hby]; exact growslice_fits (by omega) (by omega))] at hr
      injection hr with h1 _
      rw [← h1]
      exact .inr rfl
theorem wp_append_str {ops : Array Oper} {rest : List Oper} {o : Oper} {a : Act} {w : World} {Q : Exit → Act → World → Prop} (hgd : o.guard = none) (sl x : Operand) (t u : TypeId)
    (ho : o.op = .call { callee := .builtin .append, args := #[sl, x], argTypes := #[t, u] }) (b : Nat) (e : TypeId) (i : TypeInfo) (ht : Tryz.prog.underlying t = some (.slice e)) (hu : Tryz.prog.underlying u = some .string) (hi : Tryz.prog.info? e = some i) (hz : i.zero = some (.int .u8 0)) (hsize : i.size = 1) (hby : i.bytes = 1)
    (v : Value) (n : Nat) (xs : List Value) (hs : a.eval sl = v) (hown : w.ownsRow b e 1 v n xs) (s : ByteArray) (hx : a.eval x = .string s) (hb : n + s.size ≤ 140737488355328) (hbase : b ≤ w.heap.size)
    (h : ∀ v' w', w'.ownsRow b e 1 v' (n + s.size) (xs ++ Lib.strCells s) → w.grownBy w' v.ownBlock → (v'.ownBlock = v.ownBlock ∨ v'.ownBlock = some w.heap.size) → wpList Tryz.prog ops Q rest (a.put o.dst v') w') : wpList Tryz.prog ops Q (o :: rest) a w := by
  refine wpList_plain hgd fun K hK => ?_
  obtain ⟨v', w', hr, h2, h3, h4⟩ := Lib.run_append_own_string (P := Tryz.prog) w b t u o.type e i ht hu hi hz hsize hby v n xs hown s (by unfold maxLen; omega) hb hbase
  have h5 := own_next ht hu hi hz hsize hby hown hb hr
  unfold Oper.wp execOp
  simp only [ho, resolve, invoke, builtin, Sem.run_bind, Sem.run_pure, Result.andThen_ok, List.map_toArray, List.map_cons, List.map_nil, hs, hx, hr]
  exact hK _ _ (h v' w' h2 h3 h5)

/-- copyCheck: the builder's own address. -/
theorem copyCheckK (b : Nat) (q v : Value) (bs : List Value) (w : World) (h : BK b q v bs w) (hq : q = .pointer none ∨ q = .pointer (some ⟨b, 0, none⟩)) :
    Calls Tryz.prog 33 #[.pointer (some ⟨b, 0, none⟩)] w fun e w' => e = .returned (.tuple #[]) ∧ BK b (.pointer (some ⟨b, 0, none⟩)) v bs w' ∧ Out b (b + 1) w w' ∧ w'.heap.size = w.heap.size := by
  rcases hq with rfl | rfl
  · refine (Any.Builder_copyCheck_fresh (ρ := wsRen) { wsLays with } wsExtra.toX72 b w h.at_.cell0 h.at_.shape h.at_.frozen0).mono ?_
    rintro e w' ⟨rfl, rfl⟩
    refine ⟨rfl, ⟨set20 h.1, ?_, h.2.2⟩, (Out.of_below (Below.refl _ _)).set_ (Nat.le_refl _) (Nat.lt_succ_self _) 0 _, by simp [World.setCell]⟩
    exact h.2.1.kept (row := some b) ⟨rfl, rfl, rfl, by simp [World.setCell], fun k _ hk => Below.heap_setCell _ _ _ _ (fun e => hk (by simp [e]))⟩ (.inr h.2.2)
  · refine (Any.Builder_copyCheck_used (ρ := wsRen) { wsLays with } wsExtra.toX72 b w h.at_.cell0).mono ?_
    rintro e w' ⟨rfl, rfl⟩
    exact ⟨rfl, h, Out.of_below (Below.refl _ _), rfl⟩

set_option maxHeartbeats 2000000 in
set_option maxRecDepth 100000 in
/-- WriteString: nothing but the builder and its own row is another. -/
theorem writeStringK (b : Nat) (q v : Value) (bs : List Value) (s : ByteArray) (w : World) (h : BK b q v bs w) (hq : q = .pointer none ∨ q = .pointer (some ⟨b, 0, none⟩)) (hlen : bs.length + s.size ≤ 140737488355328) :
    Calls Tryz.prog 23 #[.pointer (some ⟨b, 0, none⟩), .string s] w fun e w' => e = .returned (.tuple #[.int .i64 s.size, .nilIface]) ∧ ∃ v', BK b (.pointer (some ⟨b, 0, none⟩)) v' (bs ++ Lib.strCells s) w' ∧ (v'.ownBlock = v.ownBlock ∨ ∃ g, v'.ownBlock = some g ∧ w.heap.size ≤ g) ∧
      w'.os = w.os ∧ w'.tape = w.tape ∧ w'.output = w.output ∧ w.heap.size ≤ w'.heap.size ∧ (∀ k, k < w.heap.size → k ≠ b → v.ownBlock ≠ some k → w'.heap[k]? = w.heap[k]?) := by
  obtain ⟨i0, hi, hz0, hz1, hz2⟩ := info_parts wsExtra.infoByte
  go_enter Tryz.func23, Tryz.ntmps23
  go_wp2_with (go_at_call 33; refine (copyCheckK b q v bs _ h hq).mono ?_)
  rintro e w1 ⟨rfl, h1, hb1, hs1⟩
  have hbk := h1.1
  have c0 : w1.cell? ⟨b, 0, none⟩ = some (.pointer (some ⟨b, 0, none⟩)) := by rw [Lib.cell_of_heap hbk]; rfl
  have c1 : w1.cell? ⟨b, 1, none⟩ = some v := by rw [Lib.cell_of_heap hbk]; rfl
  have HH := Lib.hid h1
  have hbl := heap_lt hbk
  go_wp2_with (at_builtin; refine wp_append_str (by rfl) _ _ 22 9 (by rfl) b 5 i0 Tryz.underlying22 Tryz.underlying9 hi hz0 hz1 hz2 _ _ _ (by rfl) HH.out.2.1 s (by rfl) ?c3 ?c4 ?_)
  case c3 => omega
  case c4 => omega
  intro v' w2 hown' hgrow hnext
  have hb2 : w2.heap[b]? = some (.cells #[.pointer (some ⟨b, 0, none⟩), v] 45 (0, 0)) := by
    rw [hgrow.block b hbl (fun e => HH.out.2.2 e.symm)]
    exact hbk
  have d0 : w2.cell? ⟨b, 0, none⟩ = some (.pointer (some ⟨b, 0, none⟩)) := by rw [Lib.cell_of_heap hb2]; rfl
  have d1 : w2.cell? ⟨b, 1, none⟩ = some v := by rw [Lib.cell_of_heap hb2]; rfl
  have f1 : w2.frozen? ⟨b, 1, none⟩ = false := Lib.frozen_of_heap hb2 1
  have hne' : v'.ownBlock ≠ some b := by
    rcases hnext with e | e
    · rw [e]; exact HH.out.2.2
    · rw [e]; intro e2; injection e2; omega
  have HO' := Lib.hid hown'
  have hsz2 : w1.heap.size ≤ w2.heap.size := hgrow.size
  have HR : Hid (BK b (.pointer (some ⟨b, 0, none⟩)) v' (bs ++ Lib.strCells s) (w2.setCell ⟨b, 1, none⟩ v')) := Lib.hid ⟨set21 hb2, (by
    have e := hown'.kept (w' := w2.setCell ⟨b, 1, none⟩ v') (row := some b) ⟨rfl, rfl, rfl, by simp [World.setCell], fun k _ hk => Below.heap_setCell _ _ _ _ (fun e => hk (by simp [e]))⟩ (.inr hne')
    rw [List.length_append, Lib.strCells_length]
    exact e), hne'⟩
  have HN : Hid (v'.ownBlock = v.ownBlock ∨ ∃ g, v'.ownBlock = some g ∧ w.heap.size ≤ g) := Lib.hid (by
    rcases hnext with e | e
    · exact .inl e
    · exact .inr ⟨_, e, by omega⟩)
  have HKP : Hid (∀ k, k < w.heap.size → k ≠ b → v.ownBlock ≠ some k → (w2.setCell ⟨b, 1, none⟩ v').heap[k]? = w.heap[k]?) := Lib.hid (fun k h1 h2 h3 => by
    rw [Below.heap_setCell w2 ⟨b, 1, none⟩ v' k h2, hgrow.block k (by omega) (fun e => h3 e.symm), hb1.block k h1 (by omega)])
  have HOS := Lib.hid ((⟨hgrow.os.trans hb1.os, hgrow.tape.trans hb1.tape, hgrow.output.trans hb1.output⟩ : w2.os = w.os ∧ w2.tape = w.tape ∧ w2.output = w.output))
  clear hnext hne' hown'
  obtain ⟨ao, n', cap, rfl⟩ : ∃ ao n' cap, v' = .slice ao n' cap := by
    rcases HO'.out.2 with ⟨hv, _⟩ | ⟨g, cap, cur, hv, _⟩
    · exact ⟨_, _, _, hv⟩
    · exact ⟨_, _, _, hv⟩
  go_wp2
  go_ret2
  exact ⟨rfl, _, HR.out, HN.out, HOS.out.1, HOS.out.2.1, HOS.out.2.2, by simp [World.setCell]; omega, HKP.out⟩
/-- The session and a builder beside it: behind a write. -/
theorem CapS.same {w w' : World} {lo hi n : Nat} {A : Option Addr} {ss : List Step} (h : CapS w A n) (hr : RH stepE w lo hi A n ss) (hk : ∀ k, lo ≤ k → k < hi → w'.heap[k]? = w.heap[k]?) : CapS w' A n := fun b off e k hkn => by
  obtain ⟨b1, off1, e1, h1, h2, _⟩ := hr.2 (by omega)
  subst e1
  injection e with e; injection e with e2 e3
  subst e2; subst e3
  have := h b1 off1 rfl k hkn
  have hc : ∀ o, w'.cell? ⟨b1, o, none⟩ = w.cell? ⟨b1, o, none⟩ := fun o => by simp [World.cell?, hk b1 h1 h2]
  simpa [hc] using this
theorem Ses.write {K K' : Nat → Prop} {p : Nat} {s : St} {w w' : World} (h : Ses K p s w) (hs : w.heap.size ≤ w'.heap.size) (hk : ∀ k, k < w.heap.size → ¬ K k → w'.heap[k]? = w.heap[k]?) (hp : ¬ K p) (hK : ∀ k, K' k → k < w'.heap.size ∧ (K k ∨ w.heap.size ≤ k)) : Ses K' p s w' := by
  obtain ⟨A, n, c, B, m, d, lo, hi, lo', hi', h1, ⟨h3, h4, h5, h5c⟩, ⟨h6, h7, h8⟩, h9, hKK⟩ := h
  have k1 : ∀ k, lo ≤ k → k < hi → w'.heap[k]? = w.heap[k]? := fun k g1 g2 => hk k (by omega) (fun e => by obtain ⟨_, q, _⟩ := hKK k e; omega)
  have k2 : ∀ k, lo' ≤ k → k < hi' → w'.heap[k]? = w.heap[k]? := fun k g1 g2 => hk k (by omega) (fun e => by obtain ⟨_, _, q⟩ := hKK k e; omega)
  refine ⟨A, n, c, B, m, d, lo, hi, lo', hi', (hk p (heap_lt h1) hp).trans h1, ⟨h3.same ⟨k1⟩, h4, by omega, h5c.same h3 k1⟩, ⟨h6.same ⟨k2⟩, h7, by omega⟩, h9, fun k hk' => ?_⟩
  obtain ⟨q1, q2⟩ := hK k hk'
  refine ⟨q1, ?_⟩
  rcases q2 with q | q
  · exact (hKK k q).2
  · exact ⟨.inr (by omega), .inr (by omega)⟩
end Go.Proofs.YthdfefgianokgaaGreatDoor

/- A script: the program's. -/
namespace Go.Proofs.YthdfefgianokgaaGreatDoor
open Go.RowKit

/-- The session at the beginning, a builder's block behind it. -/
theorem first_ses (w : World) (q : Obj) :
    Ses (fun k => k = w.heap.size + 4) (w.heap.size + 3) st0 (((((w.alloc (.cells #[.string ⟨#[98, 111, 111, 107]⟩] 9)).alloc (.cells #[.string ⟨#[112, 97, 121]⟩] 9)).alloc (.cells #[.string ⟨#[98, 111, 111, 107]⟩, .slice none 0 0, .bool true, .string ⟨#[112, 97, 121]⟩, .slice (some ⟨w.heap.size, 0, none⟩) 1 1, .bool true, .string ⟨#[115, 104, 105, 112]⟩, .slice (some ⟨w.heap.size + 1, 0, none⟩) 1 1, .bool false] 35)).alloc (.cells #[.int .i64 1, .slice (some ⟨w.heap.size + 1 + 1, 0, none⟩) 3 3, .int .i64 0, .slice none 0 0] 42)).alloc q) := by
  have h0 := heap_old (o := q) (heap_old (o := .cells #[.int .i64 1, .slice (some ⟨w.heap.size + 1 + 1, 0, none⟩) 3 3, .int .i64 0, .slice none 0 0] 42) (heap_old (o := .cells #[.string ⟨#[98, 111, 111, 107]⟩, .slice none 0 0, .bool true, .string ⟨#[112, 97, 121]⟩, .slice (some ⟨w.heap.size, 0, none⟩) 1 1, .bool true, .string ⟨#[115, 104, 105, 112]⟩, .slice (some ⟨w.heap.size + 1, 0, none⟩) 1 1, .bool false] 35) (heap_old (o := .cells #[.string ⟨#[112, 97, 121]⟩] 9) (heap_new (w := w) (o := .cells #[.string ⟨#[98, 111, 111, 107]⟩] 9) rfl))))
  have h1 := heap_old (o := q) (heap_old (o := .cells #[.int .i64 1, .slice (some ⟨w.heap.size + 1 + 1, 0, none⟩) 3 3, .int .i64 0, .slice none 0 0] 42) (heap_old (o := .cells #[.string ⟨#[98, 111, 111, 107]⟩, .slice none 0 0, .bool true, .string ⟨#[112, 97, 121]⟩, .slice (some ⟨w.heap.size, 0, none⟩) 1 1, .bool true, .string ⟨#[115, 104, 105, 112]⟩, .slice (some ⟨w.heap.size + 1, 0, none⟩) 1 1, .bool false] 35) (heap_new (w := w.alloc (.cells #[.string ⟨#[98, 111, 111, 107]⟩] 9)) (b := w.heap.size + 1) (o := .cells #[.string ⟨#[112, 97, 121]⟩] 9) (by simp))))
  have h2 := heap_old (o := q) (heap_old (o := .cells #[.int .i64 1, .slice (some ⟨w.heap.size + 1 + 1, 0, none⟩) 3 3, .int .i64 0, .slice none 0 0] 42) (heap_new (w := (w.alloc (.cells #[.string ⟨#[98, 111, 111, 107]⟩] 9)).alloc (.cells #[.string ⟨#[112, 97, 121]⟩] 9)) (b := w.heap.size + 1 + 1) (o := .cells #[.string ⟨#[98, 111, 111, 107]⟩, .slice none 0 0, .bool true, .string ⟨#[112, 97, 121]⟩, .slice (some ⟨w.heap.size, 0, none⟩) 1 1, .bool true, .string ⟨#[115, 104, 105, 112]⟩, .slice (some ⟨w.heap.size + 1, 0, none⟩) 1 1, .bool false] 35) (by simp)))
  have h3 := heap_old (o := q) (heap_new (w := ((w.alloc (.cells #[.string ⟨#[98, 111, 111, 107]⟩] 9)).alloc (.cells #[.string ⟨#[112, 97, 121]⟩] 9)).alloc (.cells #[.string ⟨#[98, 111, 111, 107]⟩, .slice none 0 0, .bool true, .string ⟨#[112, 97, 121]⟩, .slice (some ⟨w.heap.size, 0, none⟩) 1 1, .bool true, .string ⟨#[115, 104, 105, 112]⟩, .slice (some ⟨w.heap.size + 1, 0, none⟩) 1 1, .bool false] 35)) (b := w.heap.size + 3) (o := .cells #[.int .i64 1, .slice (some ⟨w.heap.size + 1 + 1, 0, none⟩) 3 3, .int .i64 0, .slice none 0 0] 42) (by simp))
  have hsz : (((((w.alloc (.cells #[.string ⟨#[98, 111, 111, 107]⟩] 9)).alloc (.cells #[.string ⟨#[112, 97, 121]⟩] 9)).alloc (.cells #[.string ⟨#[98, 111, 111, 107]⟩, .slice none 0 0, .bool true, .string ⟨#[112, 97, 121]⟩, .slice (some ⟨w.heap.size, 0, none⟩) 1 1, .bool true, .string ⟨#[115, 104, 105, 112]⟩, .slice (some ⟨w.heap.size + 1, 0, none⟩) 1 1, .bool false] 35)).alloc (.cells #[.int .i64 1, .slice (some ⟨w.heap.size + 1 + 1, 0, none⟩) 3 3, .int .i64 0, .slice none 0 0] 42)).alloc q).heap.size = w.heap.size + 5 := by simp
  generalize ((((w.alloc (.cells #[.string ⟨#[98, 111, 111, 107]⟩] 9)).alloc (.cells #[.string ⟨#[112, 97, 121]⟩] 9)).alloc (.cells #[.string ⟨#[98, 111, 111, 107]⟩, .slice none 0 0, .bool true, .string ⟨#[112, 97, 121]⟩, .slice (some ⟨w.heap.size, 0, none⟩) 1 1, .bool true, .string ⟨#[115, 104, 105, 112]⟩, .slice (some ⟨w.heap.size + 1, 0, none⟩) 1 1, .bool false] 35)).alloc (.cells #[.int .i64 1, .slice (some ⟨w.heap.size + 1 + 1, 0, none⟩) 3 3, .int .i64 0, .slice none 0 0] 42)).alloc q = W at *
  refine ⟨some ⟨w.heap.size + 1 + 1, 0, none⟩, 3, 3, none, 0, 0, w.heap.size, w.heap.size + 3, 0, 0, h3, ⟨⟨rfl, fun _ => ⟨_, _, rfl, by omega, by omega, fun k hk => ?_⟩⟩, .inl (Nat.le_refl _), by omega, ?_⟩, ⟨RH.nil, .inl (Nat.zero_le _), Nat.zero_le _⟩, Nat.le_refl _, fun k hk => ⟨by omega, .inr (by omega), .inr (Nat.zero_le _)⟩⟩
  · match k, hk with
    | 0, _ => exact ⟨blk_cl (k := 0) h2 rfl, ⟨none, 0, 0, blk_cl (k := 1) h2 rfl, RH.nil⟩, blk_cl (k := 2) h2 rfl⟩
    | 1, _ => exact ⟨blk_cl (k := 3) h2 rfl, ⟨some ⟨w.heap.size, 0, none⟩, 1, 1, blk_cl (k := 4) h2 rfl, rfl, fun _ => ⟨_, _, rfl, Nat.le_refl _, by omega, fun j hj => by (obtain rfl : j = 0 := by omega); exact blk_cl (k := 0) h0 rfl⟩⟩, blk_cl (k := 5) h2 rfl⟩
    | 2, _ => exact ⟨blk_cl (k := 6) h2 rfl, ⟨some ⟨w.heap.size + 1, 0, none⟩, 1, 1, blk_cl (k := 7) h2 rfl, rfl, fun _ => ⟨_, _, rfl, by omega, by omega, fun j hj => by (obtain rfl : j = 0 := by omega); exact blk_cl (k := 0) h1 rfl⟩⟩, blk_cl (k := 8) h2 rfl⟩
  · intro b off e k hk
    injection e with e; injection e with e1 e2
    subst e1; subst e2
    match k, hk with
    | 0, _ => exact ⟨_, _, _, (blk_cl (k := 1) h2 rfl).1, Nat.le_refl _⟩
    | 1, _ => exact ⟨_, _, _, (blk_cl (k := 4) h2 rfl).1, Nat.le_refl _⟩
    | 2, _ => exact ⟨_, _, _, (blk_cl (k := 7) h2 rfl).1, Nat.le_refl _⟩

theorem all_size {t : Str} {j : Nat} (h : j < ((cutW 10 (bs t)).map ofBs).length) : (nth ((cutW 10 (bs t)).map ofBs) j).size ≤ t.size := by
  rw [List.length_map] at h
  rw [nth_map_ofBs _ j h, ofBs_size]
  have := cutW_mem 10 (bs t) _ (List.getElem_mem h)
  rw [bs_len] at this
  exact this
theorem allL_at {t : Str} {j : Nat} (h : j < (allL t).length) : nth (allL t) j = nth ((cutW 10 (bs t)).map ofBs) j := by
  unfold allL at *
  rw [List.length_dropLast] at h
  rw [nth_eq (by rw [List.length_dropLast]; exact h), nth_eq (by omega), List.getElem_dropLast]
theorem word_le {l : Str} {j : Nat} (h : j < ((cutW 32 (bs l)).map ofBs).length) : (nth ((cutW 32 (bs l)).map ofBs) j).size ≤ l.size := by
  rw [List.length_map] at h
  rw [nth_map_ofBs _ j h, ofBs_size]
  have := cutW_mem 32 (bs l) _ (List.getElem_mem h)
  rw [bs_len] at this
  exact this
theorem lines_next {s : St} {ls : List Str} {k : Nat} (h : k < ls.length) : linesX s (ls.take (k + 1)) = ((lineX (linesX s (ls.take k)).1 (nth ls k)).1, (linesX s (ls.take k)).2 ++ (lineX (linesX s (ls.take k)).1 (nth ls k)).2) := by
  have e : ls.take (k + 1) = ls.take k ++ [nth ls k] := by
    rw [nth_eq h, List.take_succ_eq_append_getElem h]
  rw [e, linesX_app]
  show (_, _ ++ ((lineX (linesX s (ls.take k)).1 (nth ls k)).2 ++ ⟨#[]⟩)) = _
  rw [app_nil]
  rfl
theorem Out.below0' {lo hi B : Nat} {w w' : World} (h : Out lo hi w w') (hl : B ≤ lo) (hs : B ≤ w.heap.size) : Below B w w' := ⟨h.os, h.tape, h.output, h.size, fun i hi => h.block i (by omega) (.inl (by omega))⟩
theorem bk_new {w : World} : BK w.heap.size (.pointer none) (.slice none 0 0) [] (w.alloc (.cells #[.pointer none, .slice none 0 0] 45)) :=
  ⟨heap_new rfl, World.ownsRow_nil _ _ _ _, by simp [Value.ownBlock]⟩

set_option maxRecDepth 100000 in
set_option maxHeartbeats 8000000 in
theorem exeI_any (t : Str) (w : World) (hM : HasMax w) (hMP : Maps w) : Calls Tryz.prog 14 #[.string t] w fun e w' => e = .returned (.string (exe t)) ∧ Below w.heap.size w w' := by
  by_cases hsz : 400 < t.size
  · have HE := Lib.hid (show exe t = longT by unfold exe; rw [if_pos hsz])
    go_enter Tryz.func14, Tryz.ntmps14
    go_wp2_with fail
    go_ret
    exact ⟨ret_s HE.out.symm, Below.refl _ _⟩
  have HE := Lib.hid (show exe t = endX (linesX st0 (allL t)) by unfold exe; rw [if_neg hsz])
  have ht : t.size ≤ 400 := by omega
  have hall : allL t = ((cutW 10 (bs t)).map ofBs).dropLast := rfl
  have HSES := Lib.hid (first_ses w (.cells #[.pointer none, .slice none 0 0] 45))
  have HBK := Lib.hid (bk_new (w := ((((w.alloc (.cells #[.string ⟨#[98, 111, 111, 107]⟩] 9)).alloc (.cells #[.string ⟨#[112, 97, 121]⟩] 9)).alloc (.cells #[.string ⟨#[98, 111, 111, 107]⟩, .slice none 0 0, .bool true, .string ⟨#[112, 97, 121]⟩, .slice (some ⟨w.heap.size, 0, none⟩) 1 1, .bool true, .string ⟨#[115, 104, 105, 112]⟩, .slice (some ⟨w.heap.size + 1, 0, none⟩) 1 1, .bool false] 35)).alloc (.cells #[.int .i64 1, .slice (some ⟨w.heap.size + 1 + 1, 0, none⟩) 3 3, .int .i64 0, .slice none 0 0] 42))))
  have HB0 : Hid (Below w.heap.size w (((((w.alloc (.cells #[.string ⟨#[98, 111, 111, 107]⟩] 9)).alloc (.cells #[.string ⟨#[112, 97, 121]⟩] 9)).alloc (.cells #[.string ⟨#[98, 111, 111, 107]⟩, .slice none 0 0, .bool true, .string ⟨#[112, 97, 121]⟩, .slice (some ⟨w.heap.size, 0, none⟩) 1 1, .bool true, .string ⟨#[115, 104, 105, 112]⟩, .slice (some ⟨w.heap.size + 1, 0, none⟩) 1 1, .bool false] 35)).alloc (.cells #[.int .i64 1, .slice (some ⟨w.heap.size + 1 + 1, 0, none⟩) 3 3, .int .i64 0, .slice none 0 0] 42)).alloc (.cells #[.pointer none, .slice none 0 0] 45))) := Lib.hid (((((Below.refl w.heap.size w).alloc (Nat.le_refl _) _).alloc (by simp) _).alloc (by simp; omega) _).alloc (by simp; omega) _ |>.alloc (by simp; omega) _)
  have HM := Lib.hid (hM.below HB0.out rfl)
  have HMO := Lib.hid hM
  have HPO := Lib.hid hMP
  clear hM hMP
  go_enter Tryz.func14, Tryz.ntmps14
  go_upto_region 5 with fail
  have hW0 : (((((w.alloc (.cells #[.string ⟨#[98, 111, 111, 107]⟩] 9)).alloc (.cells #[.string ⟨#[112, 97, 121]⟩] 9)).alloc (.cells #[.string ⟨#[98, 111, 111, 107]⟩, .slice none 0 0, .bool true, .string ⟨#[112, 97, 121]⟩, .slice (some ⟨w.heap.size, 0, none⟩) 1 1, .bool true, .string ⟨#[115, 104, 105, 112]⟩, .slice (some ⟨w.heap.size + 1, 0, none⟩) 1 1, .bool false] 35)).alloc (.cells #[.int .i64 1, .slice (some ⟨w.heap.size + 1 + 1, 0, none⟩) 3 3, .int .i64 0, .slice none 0 0] 42)).alloc (.cells #[.pointer none, .slice none 0 0] 45)).heap.size = w.heap.size + 5 := by simp
  have hb4 : ((((w.alloc (.cells #[.string ⟨#[98, 111, 111, 107]⟩] 9)).alloc (.cells #[.string ⟨#[112, 97, 121]⟩] 9)).alloc (.cells #[.string ⟨#[98, 111, 111, 107]⟩, .slice none 0 0, .bool true, .string ⟨#[112, 97, 121]⟩, .slice (some ⟨w.heap.size, 0, none⟩) 1 1, .bool true, .string ⟨#[115, 104, 105, 112]⟩, .slice (some ⟨w.heap.size + 1, 0, none⟩) 1 1, .bool false] 35)).alloc (.cells #[.int .i64 1, .slice (some ⟨w.heap.size + 1 + 1, 0, none⟩) 3 3, .int .i64 0, .slice none 0 0] 42)).heap.size = w.heap.size + 4 := by simp
  have HBK' : Hid (BK (w.heap.size + 4) (.pointer none) (.slice none 0 0) [] (((((w.alloc (.cells #[.string ⟨#[98, 111, 111, 107]⟩] 9)).alloc (.cells #[.string ⟨#[112, 97, 121]⟩] 9)).alloc (.cells #[.string ⟨#[98, 111, 111, 107]⟩, .slice none 0 0, .bool true, .string ⟨#[112, 97, 121]⟩, .slice (some ⟨w.heap.size, 0, none⟩) 1 1, .bool true, .string ⟨#[115, 104, 105, 112]⟩, .slice (some ⟨w.heap.size + 1, 0, none⟩) 1 1, .bool false] 35)).alloc (.cells #[.int .i64 1, .slice (some ⟨w.heap.size + 1 + 1, 0, none⟩) 3 3, .int .i64 0, .slice none 0 0] 42)).alloc (.cells #[.pointer none, .slice none 0 0] 45))) := Lib.hid (hb4 ▸ HBK.out)
  clear HBK hb4
  generalize (((((w.alloc (.cells #[.string ⟨#[98, 111, 111, 107]⟩] 9)).alloc (.cells #[.string ⟨#[112, 97, 121]⟩] 9)).alloc (.cells #[.string ⟨#[98, 111, 111, 107]⟩, .slice none 0 0, .bool true, .string ⟨#[112, 97, 121]⟩, .slice (some ⟨w.heap.size, 0, none⟩) 1 1, .bool true, .string ⟨#[115, 104, 105, 112]⟩, .slice (some ⟨w.heap.size + 1, 0, none⟩) 1 1, .bool false] 35)).alloc (.cells #[.int .i64 1, .slice (some ⟨w.heap.size + 1 + 1, 0, none⟩) 3 3, .int .i64 0, .slice none 0 0] 42)).alloc (.cells #[.pointer none, .slice none 0 0] 45)) = W at *
  rw [show w.heap.size + 1 + 1 + 1 + 1 = w.heap.size + 4 from rfl, show w.heap.size + 1 + 1 + 1 = w.heap.size + 3 from rfl]
  have hwp : w.heap.size ≤ w.heap.size + 3 := by omega
  have hpb : w.heap.size + 3 < w.heap.size + 4 := by omega
  have hbW : w.heap.size + 4 < W.heap.size := by omega
  have hLb : W.heap.size ≠ w.heap.size + 4 := by omega
  have hLp : W.heap.size ≠ w.heap.size + 3 := by omega
  clear hW0
  generalize w.heap.size + 4 = b at *
  generalize w.heap.size + 3 = p at *
  obtain ⟨mx, hmx⟩ := HM.out
  go_wp2_with fail
  refine (Tryz.strings_Split t ⟨#[10]⟩ mx _ (by omega) hmx (by decide)).mono ?_
  rintro e w1 ⟨rfl, rfl⟩
  clear hmx
  have hcnt : Lib.countB t ⟨#[10]⟩ + 1 = ((cutW 10 (bs t)).map ofBs).length := by rw [countB_cut, List.length_map]
  have hspl := splitB_cut 10 t
  rw [hcnt, hspl]
  have hlen : ((cutW 10 (bs t)).map ofBs).length = (allL t).length + 1 := by
    rw [hall, List.length_dropLast, ← hcnt]
    rfl
  have hat : ∀ j, j < (allL t).length → nth (allL t) j = nth ((cutW 10 (bs t)).map ofBs) j := fun j hj => allL_at hj
  have hsz' : ∀ j, j < (allL t).length → (nth (allL t) j).size ≤ 400 := fun j hj => by
    rw [hat j hj]
    exact Nat.le_trans (all_size (by omega)) ht
  have hln : (allL t).length ≤ 400 := by
    have := cutW_len 10 (bs t)
    rw [bs_len] at this
    rw [List.length_map] at hlen
    omega
  have HSZ := Lib.hid hsz'
  clear hall hcnt hspl hsz'
  have HAT := Lib.hid hat; clear hat
  rw [hlen]
  generalize (cutW 10 (bs t)).map ofBs = all at *
  generalize hAL : allL t = ls at *
  have HBL : Hid (Below w.heap.size w (W.alloc (.cells (all.map Value.string).toArray 9))) := Lib.hid (HB0.out.alloc HB0.out.size _)
  have HL : Hid ((W.alloc (.cells (all.map Value.string).toArray 9)).heap[W.heap.size]? = some (.cells (all.map Value.string).toArray 9 (0, 0))) := Lib.hid (heap_new rfl)
  have HSL := Lib.hid (HSES.out.below ((Below.refl W.heap.size W).alloc (Nat.le_refl _) (.cells (all.map Value.string).toArray 9)))
  have HBKL : Hid (BK b (.pointer none) (.slice none 0 0) [] (W.alloc (.cells (all.map Value.string).toArray 9))) := Lib.hid (HBK'.out.keep (fun k hk _ => Lib.alloc_old W _ k hk))
  have hLW : W.heap.size < (W.alloc (.cells (all.map Value.string).toArray 9)).heap.size := by simp
  generalize W.alloc (.cells (all.map Value.string).toArray 9) = V at *
  generalize W.heap.size = L at *
  clear HB0 HSES HBK' HM
  go_wp2_with fail
  go_loopw [28] (fun i wr => ∃ (k : Nat) (q v : Value), k ≤ ls.length ∧ i = .int .i64 (k : Int) ∧ BK b q v (Lib.strCells (linesX st0 (ls.take k)).2) wr ∧ (q = .pointer none ∨ q = .pointer (some ⟨b, 0, none⟩)) ∧ Ses (fun x => x = b ∨ v.ownBlock = some x) p (linesX st0 (ls.take k)).1 wr ∧ v.ownBlock ≠ some L ∧ wr.heap[L]? = some (.cells (all.map Value.string).toArray 9 (0, 0)) ∧ Below w.heap.size w wr) (fun i _ => ls.length - (intOf i).toNat)
  case atStart => exact ⟨0, _, _, Nat.zero_le _, rfl, HBKL.out, .inl rfl, HSL.out.write (Nat.le_refl _) (fun _ _ _ => rfl) (by omega) (fun k hk => by
    rcases hk with rfl | hk
    · exact ⟨by omega, .inl rfl⟩
    · simp [Value.ownBlock] at hk), by simp [Value.ownBlock], HL.out, HBL.out⟩
  case round =>
    obtain ⟨k, q, v, hk, rfl, hbk, hq, hses, hvL, hL, hb⟩ := hrel
    have HBKr := Lib.hid hbk; clear hbk
    have HSr := Lib.hid hses; clear hses
    have HLr := Lib.hid hL; clear hL
    have HBr := Lib.hid hb; clear hb
    have HQ := Lib.hid hq; clear hq
    have HGD := Lib.hid (good_lines (ls.take k) good0)
    by_cases hlt : k < ls.length
    · have HN := Lib.hid (lines_next (s := st0) hlt)
      have HZ := Lib.hid (linesX_size st0 (ls.take k))
      have hc0 := (blk_cl (k := k) HLr.out (v := .string (nth ls k)) (by rw [HAT.out k hlt, nth_eq (by omega)]; simp [List.getElem?_eq_getElem (show k < all.length by omega)])).1
      obtain ⟨mx, hmx⟩ := HMO.out.below HBr.out rfl
      have hzl := HSZ.out k hlt
      generalize hline : nth ls k = line at *
      go_wp2_with fail
      refine (Tryz.strings_Split line ⟨#[32]⟩ mx _ (by omega) hmx (by decide)).mono ?_
      rintro e w2 ⟨rfl, rfl⟩
      clear hmx
      rw [countB_cut, splitB_cut]
      have hHW : RStr (wr.alloc (.cells (((cutW 32 (bs line)).map ofBs).map Value.string).toArray 9)) wr.heap.size (some ⟨wr.heap.size, 0, none⟩) (cutW 32 (bs line)).length ((cutW 32 (bs line)).map ofBs) := by
        have e := (sstr_block (w := wr.alloc (.cells (((cutW 32 (bs line)).map ofBs).map Value.string).toArray 9)) (b := wr.heap.size) (xs := (cutW 32 (bs line)).map ofBs) (heap_new rfl)).hat
        rw [List.length_map] at e
        exact e
      have hwz : ∀ j, j < (cutW 32 (bs line)).length → (nth ((cutW 32 (bs line)).map ofBs) j).size ≤ 400 := fun j hj => Nat.le_trans (word_le (by rw [List.length_map]; exact hj)) hzl
      have HBA := Lib.hid ((Below.refl wr.heap.size wr).alloc (Nat.le_refl _) (.cells (((cutW 32 (bs line)).map ofBs).map Value.string).toArray 9))
      have HLX : Hid (wordsX (linesX st0 (ls.take k)).1 ((cutW 32 (bs line)).map ofBs) = lineX (linesX st0 (ls.take k)).1 line) := Lib.hid rfl
      have HHW := Lib.hid hHW; clear hHW
      have HWZ := Lib.hid hwz; clear hwz
      have hlz := line_size (linesX st0 (ls.take k)).1 line
      generalize (cutW 32 (bs line)).map ofBs = ws at *
      generalize (cutW 32 (bs line)).length = nw at *
      generalize wr.alloc (.cells (ws.map Value.string).toArray 9) = wa at *
      go_wp2_with fail
      refine (line_any (fun x => x = b ∨ v.ownBlock = some x) p (linesX st0 (ls.take k)).1 ws _ nw _ wr.heap.size wa (HSr.out.below HBA.out) HGD.out HHW.out HWZ.out (HMO.out.below (HBr.out.trans (HBA.out.mono HBr.out.size)) rfl) (HPO.out.below (HBr.out.trans (HBA.out.mono HBr.out.size)))).mono ?_
      rintro e w3 ⟨rfl, hs3, ho3⟩
      rw [HLX.out] at hs3
      rw [HLX.out]
      have hs0 := HBr.out.size
      have hsa := HBA.out.size
      have hs30 := ho3.size
      have hbl := heap_lt HBKr.out.1
      have hgl : ∀ g, v.ownBlock = some g → b ≤ g ∧ g < wr.heap.size := fun g e => HBKr.out.row_lt e
      have HGL := Lib.hid hgl
      have HK3 := Lib.hid (HBKr.out.keep (w' := w3) (fun x hx e => by
        have hxp : x < p ∨ p + 1 ≤ x := by
          rcases e with rfl | e
          · exact .inr hpb
          · have := hgl x e; exact .inr (by omega)
        exact (ho3.block x (by omega) hxp).trans (HBA.out.block x hx)))
      have HL3 := Lib.hid ((ho3.block L (by have := heap_lt HLr.out; omega) (by omega)).trans ((HBA.out.block L (heap_lt HLr.out)).trans HLr.out))
      have HB3 := Lib.hid (HBr.out.trans ((HBA.out.mono hs0).trans (ho3.below0' hwp (by omega))))
      have HS3 := Lib.hid hs3
      clear hs3 ho3 hgl
      have hbz : (Lib.strCells (linesX st0 (ls.take k)).2).length + (lineX (linesX st0 (ls.take k)).1 line).2.size ≤ 140737488355328 := by
        rw [Lib.strCells_length]
        have h1 := HZ.out
        have h2 : (ls.take k).length ≤ 400 := by rw [List.length_take]; omega
        have h3 : (ls.take k).length * 900 ≤ 400 * 900 := Nat.mul_le_mul_right _ h2
        omega
      have HBZ := Lib.hid hbz; clear hbz hlz
      have hwe : w.heap.size < b := by omega
      go_wp2_with fail
      refine (writeStringK b q v _ _ w3 HK3.out HQ.out HBZ.out).mono ?_
      rintro e w4 ⟨rfl, v', hk4, hn4, h4o, h4t, h4u, h4s, h4k⟩
      have HK4 := Lib.hid hk4
      have hbl4 := heap_lt hk4.1
      clear hk4
      have hgl4 : ∀ g, v'.ownBlock = some g → g < w4.heap.size := fun g e => (HK4.out.row_lt e).2
      have HR4 : Hid (∃ (q' v' : Value), BK b q' v' (Lib.strCells (linesX st0 (ls.take (k + 1))).2) w4 ∧ (q' = .pointer none ∨ q' = .pointer (some ⟨b, 0, none⟩)) ∧ Ses (fun x => x = b ∨ v'.ownBlock = some x) p (linesX st0 (ls.take (k + 1))).1 w4 ∧ v'.ownBlock ≠ some L ∧ w4.heap[L]? = some (.cells (all.map Value.string).toArray 9 (0, 0)) ∧ Below w.heap.size w w4) := Lib.hid (by
        refine ⟨_, v', by rw [HN.out, strCells_app]; exact HK4.out, .inr rfl, ?_, ?_, ?_, ?_⟩
        · rw [HN.out]
          refine HS3.out.write h4s (fun x hx hnk => h4k x hx (fun e => hnk (.inl e)) (fun e => hnk (.inr e))) ?_ (fun x hx => ?_)
          · rintro (e | e)
            · omega
            · have := HGL.out p e; omega
          · rcases hx with rfl | hx
            · exact ⟨hbl4, .inl (.inl rfl)⟩
            · refine ⟨hgl4 x hx, ?_⟩
              rcases hn4 with e | ⟨g, e, hg⟩
              · exact .inl (.inr (e ▸ hx))
              · rw [e] at hx; injection hx with hx; exact .inr (by omega)
        · rcases hn4 with e | ⟨g, e, hg⟩
          · rw [e]; exact hvL
          · rw [e]; intro e2; injection e2 with e2; have := heap_lt HL3.out; omega
        · exact (h4k L (heap_lt HL3.out) hLb hvL).trans HL3.out
        · have hs5 := HB3.out.size
          exact HB3.out.trans ⟨h4o, h4t, h4u, h4s, fun i hi => h4k i (by omega) (by omega) (fun e => by have := HGL.out i e; omega)⟩)
      clear hn4 h4k HK3 HS3 HL3 HB3 HGL
      go_wp2_with fail
      go_roundw
      case rel =>
        obtain ⟨q', v', r1, r2, r3, r4, r5, r6⟩ := HR4.out
        exact ⟨k + 1, q', v', by omega, by go_num, r1, r2, r3, r4, r5, r6⟩
      case measure => simp [intOf]; omega
    · obtain rfl : k = ls.length := by omega
      rw [List.take_length] at HBKr HSr HGD
      have hlz := linesX_size st0 ls
      have hl9 : ls.length * 900 ≤ 400 * 900 := Nat.mul_le_mul_right _ hln
      have HEE := Lib.hid (HE.out.trans (show endX (linesX st0 ls) = (linesX st0 ls).2 ++ (rtT (linesX st0 ls).1.1 (linesX st0 ls).1.2.1 (linesX st0 ls).1.2.2 ++ ⟨#[10]⟩) by unfold endX; rw [ByteArray.append_assoc]))
      have HSL2 := HSr.out
      generalize (linesX st0 ls).2 = o at *
      generalize (linesX st0 ls).1 = y at *
      obtain ⟨f, st, done⟩ := y
      have HOK := Lib.hid (okSteps_of HGD.out.1)
      obtain ⟨A, n, c, B, m, d, lo, hi, lo', hi', h1, ⟨h3, h4, h5, h5c⟩, ⟨h6, h7, h8⟩, h9, hKK⟩ := HSL2
      have hm : m ≤ 1048576 := by have e := h6.1; have := (run_sizes HGD.out.2).1; rw [← e]; exact Nat.le_trans this (by omega)
      have HP := Lib.hid h1
      have hpl := heap_lt h1
      have HRT := Lib.hid (fun (cur : World) (h : Below wr.heap.size wr cur) => (runTextI_any A B n c m d f st done 0 0 cur (((h3.below h h5).up (Nat.le_trans h5 h.size)).lower (Nat.zero_le _)) HOK.out (((h6.below h h8).up (Nat.le_trans h8 h.size)).lower (Nat.zero_le _)) hm h9).mono (R' := fun e w' => e = .returned (.string (rtT f st done)) ∧ Below wr.heap.size wr w') (by
        rintro e w' ⟨h1, h2⟩
        exact ⟨h1, h.trans (h2.mono h.size)⟩))
      have HSB : Hid (∀ w', Below wr.heap.size wr w' → w'.cell? ⟨p, 0, none⟩ = some (.int .i64 f.ver) ∧ w'.cell? ⟨p, 1, none⟩ = some (.slice A n c) ∧ w'.cell? ⟨p, 2, none⟩ = some (.int .i64 st) ∧ w'.cell? ⟨p, 3, none⟩ = some (.slice B m d)) := Lib.hid (fun w' h => by
        have e1 := (h.block _ hpl).trans HP.out
        exact ⟨(blk_cl (k := 0) e1 rfl).1, (blk_cl (k := 1) e1 rfl).1, (blk_cl (k := 2) e1 rfl).1, (blk_cl (k := 3) e1 rfl).1⟩)
      have hrz := rtT_size f st done
      have k1 : ¬ (9223372036854775807 < (rtT f st done).size + 1) := by omega
      have HBKX := Lib.hid (fun (cur : World) (h : Below wr.heap.size wr cur) => HBKr.out.keep (w' := cur) (fun x hx _ => h.block x hx))
      have hbl := heap_lt HBKr.out.1
      have HGR := Lib.hid (fun (g : Nat) (e : v.ownBlock = some g) => HBKr.out.row_lt e)
      have HWS := Lib.hid (fun (cur : World) (h : Below wr.heap.size wr cur) => (writeStringK b q v (Lib.strCells o) (rtT f st done ++ ⟨#[10]⟩) cur (HBKX.out cur h) HQ.out (by rw [Lib.strCells_length, bsz_app]; show _ + (_ + 1) ≤ _; omega)).mono (R' := fun e w' => e = .returned (.tuple #[.int .i64 (rtT f st done ++ ⟨#[10]⟩ : Str).size, .nilIface]) ∧ ∃ v', BK b (.pointer (some ⟨b, 0, none⟩)) v' (Lib.strCells (exe t)) w' ∧ Below w.heap.size w w' ∧ (w'.cell? ⟨p, 0, none⟩ = some (.int .i64 f.ver) ∧ w'.cell? ⟨p, 1, none⟩ = some (.slice A n c) ∧ w'.cell? ⟨p, 2, none⟩ = some (.int .i64 st) ∧ w'.cell? ⟨p, 3, none⟩ = some (.slice B m d))) (by
        rintro e w' ⟨h1, v', h2, h3, h4o, h4t, h4u, h4s, h4k⟩
        have hs0 := HBr.out.size
        have hs1 := h.size
        have hkp : w'.heap[p]? = cur.heap[p]? := h4k p (by omega) (by omega) (fun e => by have := (HGR.out p e).1; omega)
        have e1 := hkp.trans ((h.block _ hpl).trans HP.out)
        refine ⟨h1, v', by rw [HEE.out, strCells_app]; exact h2, ?_, (blk_cl (k := 0) e1 rfl).1, (blk_cl (k := 1) e1 rfl).1, (blk_cl (k := 2) e1 rfl).1, (blk_cl (k := 3) e1 rfl).1⟩
        exact HBr.out.trans ((h.mono hs0).trans ⟨h4o, h4t, h4u, h4s, fun i hi => h4k i (by omega) (by omega) (fun e => by have := (HGR.out i e).1; omega)⟩)))
      clear h1 h3 h4 h5 h5c h6 h7 h8 hKK HBKr HSr
      go_upto_region 11 with fail
      go_region_held3 (fun w' => w'.cell? ⟨p, 0, none⟩ = some (.int .i64 f.ver) ∧ w'.cell? ⟨p, 1, none⟩ = some (.slice A n c) ∧ w'.cell? ⟨p, 2, none⟩ = some (.int .i64 st) ∧ w'.cell? ⟨p, 3, none⟩ = some (.slice B m d))
        ((first | exact hS5 | (refine HSB.out _ ?_; (repeat (first | with_reducible exact hbw | with_reducible exact Below.refl _ _ | apply Below.drew | apply Below.al2_ | fail "x")); done)))
        (first
          | (go_at_call 25; refine (HRT.out _ (by (repeat (first | with_reducible exact hbw | with_reducible exact Below.refl _ _ | apply Below.drew | apply Below.al2_ | fail "x")))).mono ?_; rintro e w4 ⟨rfl, hbw⟩)
          | (go_at_call 23; refine (HWS.out _ (by (repeat (first | with_reducible exact hbw | with_reducible exact Below.refl _ _ | apply Below.drew | apply Below.al2_ | fail "x")))).mono ?_; rintro e w5 ⟨rfl, v', hk5, hbw5, hS5⟩)
          | fail "no arm")
      go_wp2_with fail
      refine (Tryz.Builder_String_any b b (exe t).data.toList _ (.inr hk5.at_) (by have := heap_lt hk5.1; omega)).mono ?_
      rintro e w6 ⟨rfl, hb6⟩
      go_wp2_with fail
      go_ret
      exact ⟨ret_s rfl, hbw5.trans (hb6.mono (by omega))⟩
end Go.Proofs.YthdfefgianokgaaGreatDoor

/- A script drawn. -/
namespace Go.Proofs.YthdfefgianokgaaGreatDoor
open Go.RowKit

theorem lits_small {L : List Str} {x : Str} {m : Nat} (h : L.all (fun s => decide (s.size ≤ m)) = true) (hx : x ∈ L) : x.size ≤ m := by
  have := List.all_eq_true.1 h x hx
  simpa using this
def LineQ (w0 : World) (g q : Nat) (w : World) (e : Ending) (w' : World) : Prop :=
  ∃ x : Str, e = .returned (.string x) ∧ x.size ≤ 40 ∧ Dr 60 w0 g (q + 10) w' ∧ On g w w'
theorem on_new {g : Nat} {w w' : World} {o : Obj} (_hg : g < w.heap.size) (h : On g (w.alloc o) w') : On g w w' := (On.of_below ((Below.refl w.heap.size w).alloc (Nat.le_refl _) o)).trans h

set_option maxRecDepth 100000 in
set_option maxHeartbeats 4000000 in
theorem l92Line_any (w0 : World) (g q : Nat) (w : World) (h : Dr 60 w0 g q w) (hq : q ≤ 1099511600000) :
    Calls Tryz.prog 20 #[.pointer (some ⟨g, 0, none⟩)] w (LineQ w0 g q w) := by
  have HD := Lib.hid h
  go_enter Tryz.func20, Tryz.ntmps20
  go_wp2_with fail
  refine (pick w0 g _ _ _ HD.out (by omega) (by omega)).mono ?_
  rintro e w1 ⟨v, rfl, a0, a1, a2, hd1, hon1⟩
  have hv9 := a1 (by omega)
  have hg1 := hd1.lt
  clear a1 a2
  have hv : v = 0 ∨ v = 1 ∨ v = 2 ∨ v = 3 ∨ v = 4 ∨ v = 5 ∨ v = 6 ∨ v = 7 ∨ v = 8 := by omega
  clear a0 hv9
  rcases hv with rfl | rfl | rfl | rfl | rfl | rfl | rfl | rfl | rfl
  · go_wp2_with fail
    refine (of_ w0 g _ _ _ _ [⟨#[98, 111, 111, 107]⟩, ⟨#[112, 97, 121]⟩, ⟨#[115, 104, 105, 112]⟩, ⟨#[98, 111, 111, 107]⟩] _ _ (hd1.alloc _) (by omega) (lit_str _ 4 rfl rfl) (by omega) (by omega) (Dr.lt hd1)).mono ?_
    rintro e w2 ⟨x2, rfl, hm2, hd2, hon2⟩
    have hz2 : x2.size ≤ 15 := lits_small (L := [⟨#[98, 111, 111, 107]⟩, ⟨#[112, 97, 121]⟩, ⟨#[115, 104, 105, 112]⟩, ⟨#[98, 111, 111, 107]⟩]) (by decide) hm2
    have hk : ¬ (9223372036854775807 < 3 + x2.size) := by omega
    go_wp2_with fail
    go_ret
    exact ⟨_, rfl, by rw [bsz_app]; show 3 + _ ≤ _; omega, hd2.more (by omega), hon1.trans (on_new hg1 hon2)⟩
  · go_wp2_with fail
    refine (of_ w0 g _ _ _ _ [⟨#[98, 111, 111, 107]⟩, ⟨#[112, 97, 121]⟩, ⟨#[115, 104, 105, 112]⟩, ⟨#[98, 111, 111, 107]⟩] _ _ (hd1.alloc _) (by omega) (lit_str _ 4 rfl rfl) (by omega) (by omega) (Dr.lt hd1)).mono ?_
    rintro e w2 ⟨x2, rfl, hm2, hd2, hon2⟩
    have hz2 : x2.size ≤ 15 := lits_small (L := [⟨#[98, 111, 111, 107]⟩, ⟨#[112, 97, 121]⟩, ⟨#[115, 104, 105, 112]⟩, ⟨#[98, 111, 111, 107]⟩]) (by decide) hm2
    have hk : ¬ (9223372036854775807 < 3 + x2.size) := by omega
    go_wp2_with fail
    go_ret
    exact ⟨_, rfl, by rw [bsz_app]; show 3 + _ ≤ _; omega, hd2.more (by omega), hon1.trans (on_new hg1 hon2)⟩
  · go_wp2_with fail
    refine (of_ w0 g _ _ _ _ [⟨#[98, 111, 111, 107]⟩, ⟨#[112, 97, 121]⟩, ⟨#[115, 104, 105, 112]⟩, ⟨#[98, 111, 111, 107]⟩] _ _ (hd1.alloc _) (by omega) (lit_str _ 4 rfl rfl) (by omega) (by omega) (Dr.lt hd1)).mono ?_
    rintro e w2 ⟨x2, rfl, hm2, hd2, hon2⟩
    have hz2 : x2.size ≤ 15 := lits_small (L := [⟨#[98, 111, 111, 107]⟩, ⟨#[112, 97, 121]⟩, ⟨#[115, 104, 105, 112]⟩, ⟨#[98, 111, 111, 107]⟩]) (by decide) hm2
    have hk : ¬ (9223372036854775807 < 3 + x2.size) := by omega
    go_wp2_with fail
    go_ret
    exact ⟨_, rfl, by rw [bsz_app]; show 3 + _ ≤ _; omega, hd2.more (by omega), hon1.trans (on_new hg1 hon2)⟩
  · go_wp2_with fail
    refine (of_ w0 g _ _ _ _ [⟨#[102, 97, 105, 108, 32]⟩, ⟨#[117, 110, 100, 111, 32]⟩] _ _ (hd1.alloc _) (by omega) (lit_str _ 2 rfl rfl) (by omega) (by omega) (Dr.lt hd1)).mono ?_
    rintro e w2 ⟨x2, rfl, hm2, hd2, hon2⟩
    have hz2 : x2.size ≤ 15 := lits_small (L := [⟨#[102, 97, 105, 108, 32]⟩, ⟨#[117, 110, 100, 111, 32]⟩]) (by decide) hm2
    have hg2 := hd2.lt
    go_wp2_with fail
    refine (of_ w0 g _ _ _ _ [⟨#[98, 111, 111, 107]⟩, ⟨#[112, 97, 121]⟩, ⟨#[115, 104, 105, 112]⟩] _ _ (hd2.alloc _) (by omega) (lit_str _ 3 rfl rfl) (by omega) (by omega) (Dr.lt hd2)).mono ?_
    rintro e w3 ⟨x3, rfl, hm3, hd3, hon3⟩
    have hz3 : x3.size ≤ 15 := lits_small (L := [⟨#[98, 111, 111, 107]⟩, ⟨#[112, 97, 121]⟩, ⟨#[115, 104, 105, 112]⟩]) (by decide) hm3
    have hk : ¬ (9223372036854775807 < x2.size + x3.size) := by omega
    go_wp2_with fail
    go_ret
    exact ⟨_, rfl, by rw [bsz_app]; omega, hd3.more (by omega), hon1.trans ((on_new hg1 hon2).trans (on_new hg2 hon3))⟩
  · go_wp2_with fail
    refine (of_ w0 g _ _ _ _ [⟨#[97, 100, 100, 32, 120, 58, 98, 111, 111, 107]⟩, ⟨#[97, 100, 100, 32, 121, 58, 45, 33]⟩, ⟨#[100, 114, 111, 112, 32, 112, 97, 121, 58, 45]⟩, ⟨#[97, 102, 116, 101, 114, 32, 115, 104, 105, 112, 58, 98, 111, 111, 107]⟩, ⟨#[109, 97, 114, 107, 32, 115, 104, 105, 112, 58, 45]⟩, ⟨#[97, 102, 116, 101, 114, 32, 112, 97, 121, 58, 45]⟩, ⟨#[100, 114, 111, 112, 32, 98, 111, 111, 107, 58, 45]⟩] _ _ (hd1.alloc _) (by omega) (lit_str _ 7 rfl rfl) (by omega) (by omega) (Dr.lt hd1)).mono ?_
    rintro e w2 ⟨x2, rfl, hm2, hd2, hon2⟩
    have hz2 : x2.size ≤ 15 := lits_small (L := [⟨#[97, 100, 100, 32, 120, 58, 98, 111, 111, 107]⟩, ⟨#[97, 100, 100, 32, 121, 58, 45, 33]⟩, ⟨#[100, 114, 111, 112, 32, 112, 97, 121, 58, 45]⟩, ⟨#[97, 102, 116, 101, 114, 32, 115, 104, 105, 112, 58, 98, 111, 111, 107]⟩, ⟨#[109, 97, 114, 107, 32, 115, 104, 105, 112, 58, 45]⟩, ⟨#[97, 102, 116, 101, 114, 32, 112, 97, 121, 58, 45]⟩, ⟨#[100, 114, 111, 112, 32, 98, 111, 111, 107, 58, 45]⟩]) (by decide) hm2
    go_wp2_with fail
    go_ret
    exact ⟨_, rfl, by omega, hd2.more (by omega), hon1.trans (on_new hg1 hon2)⟩
  · go_wp2_with fail
    go_ret
    exact ⟨_, rfl, by decide, hd1.more (by omega), hon1⟩
  · go_wp2_with fail
    refine (of_ w0 g _ _ _ _ [⟨#[115, 104, 111, 119]⟩, ⟨#[110, 101, 119]⟩] _ _ (hd1.alloc _) (by omega) (lit_str _ 2 rfl rfl) (by omega) (by omega) (Dr.lt hd1)).mono ?_
    rintro e w2 ⟨x2, rfl, hm2, hd2, hon2⟩
    have hz2 : x2.size ≤ 15 := lits_small (L := [⟨#[115, 104, 111, 119]⟩, ⟨#[110, 101, 119]⟩]) (by decide) hm2
    go_wp2_with fail
    go_ret
    exact ⟨_, rfl, by omega, hd2.more (by omega), hon1.trans (on_new hg1 hon2)⟩
  · go_wp2_with fail
    refine (of_ w0 g _ _ _ _ [⟨#[119, 104, 97, 116]⟩, ⟨#[]⟩, ⟨#[100, 111]⟩, ⟨#[100, 111, 32, 120, 32, 121]⟩, ⟨#[97, 100, 100, 32, 120]⟩, ⟨#[100, 114, 111, 112, 32, 122, 122, 58, 45]⟩, ⟨#[115, 104, 111, 119, 32, 49]⟩] _ _ (hd1.alloc _) (by omega) (lit_str _ 7 rfl rfl) (by omega) (by omega) (Dr.lt hd1)).mono ?_
    rintro e w2 ⟨x2, rfl, hm2, hd2, hon2⟩
    have hz2 : x2.size ≤ 15 := lits_small (L := [⟨#[119, 104, 97, 116]⟩, ⟨#[]⟩, ⟨#[100, 111]⟩, ⟨#[100, 111, 32, 120, 32, 121]⟩, ⟨#[97, 100, 100, 32, 120]⟩, ⟨#[100, 114, 111, 112, 32, 122, 122, 58, 45]⟩, ⟨#[115, 104, 111, 119, 32, 49]⟩]) (by decide) hm2
    go_wp2_with fail
    go_ret
    exact ⟨_, rfl, by omega, hd2.more (by omega), hon1.trans (on_new hg1 hon2)⟩
  · go_wp2_with fail
    go_ret
    exact ⟨_, rfl, by decide, hd1.more (by omega), hon1⟩

set_option maxRecDepth 100000 in
set_option maxHeartbeats 4000000 in
theorem l6Many_any (t : Str) (n : Nat) (w : World) (hn : t.size * n ≤ 1048576) (ht : t.size ≤ 1048576) (hn2 : n ≤ 1048576) :
    Calls Tryz.prog 21 #[.string t, .int .i64 (n : Int)] w fun e w' => ∃ x : Str, e = .returned (.string x) ∧ x.size ≤ t.size * n ∧ w = w' := by
  go_enter Tryz.func21, Tryz.ntmps21
  go_wp2_with fail
  go_loopw [0, 1, 5] (fun a i o wr => ∃ (m : Nat) (u x : Str), a = .string u ∧ i = .int .i64 (m : Int) ∧ o = .string x ∧ m ≤ n ∧ x.size + u.size * m ≤ t.size * n ∧ u.size ≤ 2097152 ∧ w = wr) (fun _ i _ _ => (intOf i).toNat)
  case atStart => exact ⟨n, t, ⟨#[]⟩, rfl, rfl, rfl, Nat.le_refl _, by show 0 + _ ≤ _; omega, by omega, rfl⟩
  case round =>
    obtain ⟨m, u, x, rfl, rfl, rfl, hm, hs, hu, rfl⟩ := hrel
    by_cases h0 : 0 < m
    · have hum : u.size ≤ u.size * m := Nat.le_mul_of_pos_right _ h0
      have k2 : ¬ (9223372036854775807 < u.size + u.size) := by omega
      obtain ⟨d, hd⟩ : ∃ d, d = m / 2 := ⟨_, rfl⟩
      by_cases hr : m % 2 = 1
      · have hmd : m = 2 * d + 1 := by omega
        have hmul : u.size * m = u.size * (2 * d) + u.size := by rw [hmd, Nat.mul_add, Nat.mul_one]
        have hmul2 : (u.size + u.size) * d = u.size * (2 * d) := by rw [← Nat.mul_two, Nat.mul_assoc]
        have k1 : ¬ (9223372036854775807 < x.size + u.size) := by omega
        have q1 : ((m : Int).tmod 2 == 1) = true := by rw [show (m : Int).tmod 2 = ((m % 2 : Nat) : Int) from rfl, hr]; rfl
        have q2 : (m : Int).tdiv 2 = (d : Int) := by rw [show (m : Int).tdiv 2 = ((m / 2 : Nat) : Int) from rfl, hd]
        clear hd
        go_wp2_with fail
        go_roundw
        case rel => exact ⟨d, u ++ u, x ++ u, rfl, by go_num, rfl, by omega, by rw [bsz_app, bsz_app]; omega, by rw [bsz_app]; omega, trivial⟩
        case measure => simp [intOf]; omega
      · have hmd : m = 2 * d := by omega
        have hmul : u.size * m = u.size * (2 * d) := by rw [hmd]
        have hmul2 : (u.size + u.size) * d = u.size * (2 * d) := by rw [← Nat.mul_two, Nat.mul_assoc]
        have q1 : ((m : Int).tmod 2 == 1) = false := by rw [show (m : Int).tmod 2 = ((m % 2 : Nat) : Int) from rfl]; rw [beq_eq_false_iff_ne]; omega
        have q2 : (m : Int).tdiv 2 = (d : Int) := by rw [show (m : Int).tdiv 2 = ((m / 2 : Nat) : Int) from rfl, hd]
        clear hd
        go_wp2_with fail
        go_roundw
        case rel => exact ⟨d, u ++ u, x, rfl, by go_num, rfl, by omega, by rw [bsz_app]; omega, by rw [bsz_app]; omega, trivial⟩
        case measure => simp [intOf]; omega
    · obtain rfl : m = 0 := by omega
      go_wp2_with fail
      go_ret
      exact ⟨x, rfl, by omega, rfl⟩

def ScriptD (w : World) (e : Ending) (w' : World) : Prop := ∃ x : Str, e = .returned (.string x) ∧ x.size ≤ 1048576 ∧ Below w.heap.size w w'

set_option maxRecDepth 100000 in
set_option maxHeartbeats 4000000 in
theorem drawExecute_any (A : Option Addr) (n c : Nat) (w : World) (hr : RByte w A n) (hc : n ≤ c) (hn : n ≤ 1048576) : Calls Tryz.prog 13 #[.slice A n c] w (ScriptD w) := by
  have HR := Lib.hid hr; clear hr
  go_enter Tryz.func13, Tryz.ntmps13
  go_wp2_with fail
  refine (open_any _ _ _ _ HR.out hc hn).mono ?_
  rintro e w1 ⟨rfl, hrd, hb1⟩
  have hd0 : Dr 60 w1 w.heap.size 0 w1 := ⟨On.refl _ _, 0, Nat.le_refl _, hrd⟩
  have HB1 := Lib.hid hb1
  have hl1 := hrd.lt
  clear hrd hb1
  go_wp2_with fail
  refine (pick w1 _ _ _ _ hd0 (by omega) (by omega)).mono ?_
  rintro e w2 ⟨v, rfl, a0, a1, a2, hd2, hon2⟩
  obtain ⟨k, rfl⟩ := Int.eq_ofNat_of_zero_le a0
  have hk : k < 12 := by have := a1 (by omega); omega
  have HD2 := Lib.hid hd2
  clear a0 a1 a2 hd2 hon2 hd0
  generalize hge : w.heap.size = g at *
  have HG := Lib.hid hge; clear hge
  go_wp2_with fail
  go_loopw [4, 6] (fun a i wr => ∃ (j : Nat) (x : Str), j ≤ k ∧ a = .string x ∧ i = .int .i64 (j : Int) ∧ x.size ≤ j * 41 ∧ Dr 60 w1 g (1 + j * 10) wr) (fun _ i _ => k - (intOf i).toNat)
  case atStart => exact ⟨0, ⟨#[]⟩, Nat.zero_le _, rfl, rfl, Nat.le_refl _, HD2.out⟩
  case round =>
    obtain ⟨j, x, hj, rfl, rfl, hx, hd⟩ := hrel
    have HD := Lib.hid hd; clear hd
    by_cases hlt : j < k
    · go_wp2_with fail
      refine (l92Line_any w1 g _ _ HD.out (by omega)).mono ?_
      rintro e w3 ⟨y, rfl, hy, hd3, _⟩
      have k1 : ¬ (9223372036854775807 < x.size + y.size) := by omega
      have k2 : ¬ (9223372036854775807 < x.size + y.size + 1) := by omega
      have HD3 := Lib.hid hd3; clear hd3
      go_wp2_with fail
      go_roundw
      case rel => exact ⟨j + 1, x ++ y ++ ⟨#[10]⟩, by omega, rfl, by go_num, by rw [bsz_app, bsz_app]; show _ + 1 ≤ _; omega, HD3.out.more (by omega)⟩
      case measure => simp [intOf]; omega
    · obtain rfl : j = k := by omega
      go_wp2_with fail
      refine (pick w1 _ _ _ _ HD.out (by omega) (by omega)).mono ?_
      rintro e w3 ⟨v, rfl, a0, a1, a2, hd3, _⟩
      have HD3 := Lib.hid hd3
      clear a1 a2 hd3
      have hfin : ∀ w', Dr 60 w1 g (1 + j * 10 + 2) w' → Below g w w' := fun w' h => HB1.out.trans (h.on.low (by omega))
      have HF := Lib.hid hfin; clear hfin
      by_cases h0 : v = 0
      · subst h0
        go_wp2_with fail
        refine (pick w1 _ _ _ _ HD3.out (by omega) (by omega)).mono ?_
        rintro e w4 ⟨v, rfl, b0, b1, b2, hd4, _⟩
        obtain ⟨z, rfl⟩ := Int.eq_ofNat_of_zero_le b0
        have hz : z < 8 := by have := b1 (by omega); omega
        have HD4 := Lib.hid hd4
        clear a0 b0 b1 b2 hd4
        have e3 : (0 : Int) ≤ (z : Int) := by omega
        have e4 : (z : Int) < 8 := by omega
        go_wp2_with fail
        rw [show (76 : Int) + (z : Int) = ((76 + z : Nat) : Int) by omega]
        refine (l6Many_any ⟨#[115, 104, 111, 119, 10]⟩ (76 + z) w4 (by show 5 * _ ≤ _; omega) (by decide) (by omega)).mono ?_
        rintro e w5 ⟨y, rfl, hy, rfl⟩
        have hy2 : y.size ≤ 5 * (76 + z) := hy
        have k1 : ¬ (9223372036854775807 < x.size + y.size) := by omega
        go_wp2_with fail
        go_ret
        exact ⟨_, rfl, by rw [bsz_app]; omega, by rw [HG.out]; exact HF.out _ (HD4.out.more (by omega))⟩
      · by_cases h12 : v = 1 ∨ v = 2
        · rcases h12 with rfl | rfl
          · have k1 : ¬ (9223372036854775807 < x.size + 4) := by omega
            go_wp2_with fail
            go_ret
            exact ⟨_, rfl, by rw [bsz_app]; show _ + 4 ≤ _; omega, by rw [HG.out]; exact HF.out _ (HD3.out.more (by omega))⟩
          · have k1 : ¬ (9223372036854775807 < x.size + 4) := by omega
            go_wp2_with fail
            go_ret
            exact ⟨_, rfl, by rw [bsz_app]; show _ + 4 ≤ _; omega, by rw [HG.out]; exact HF.out _ (HD3.out.more (by omega))⟩
        · have q0 : (v == 0) = false := by rw [beq_eq_false_iff_ne]; exact h0
          have q1 : (v == 1) = false := by rw [beq_eq_false_iff_ne]; exact fun h => h12 (.inl h)
          have q2 : (v == 2) = false := by rw [beq_eq_false_iff_ne]; exact fun h => h12 (.inr h)
          clear h0 h12
          go_wp2_with fail
          go_ret
          exact ⟨_, rfl, by omega, by rw [HG.out]; exact HF.out _ (HD3.out.more (by omega))⟩
end Go.Proofs.YthdfefgianokgaaGreatDoor
