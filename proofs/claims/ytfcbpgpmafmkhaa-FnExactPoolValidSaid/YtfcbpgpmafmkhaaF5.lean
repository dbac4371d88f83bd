/- Flows that are valid: the reference. -/
import Derived.Test.YtfcbpgpmafmkhaaF4
namespace Go.Proofs.Ytfcbpgpmafmkhaa
open Go.RowKit

/-- A world in which memory was made beside w's. -/
structure Bl (w : World) where
  to : World
  below : Below w.heap.size w to

instance (w : World) : Nonempty (Bl w) := ⟨⟨w, Below.refl _ _⟩⟩

theorem region_bl {id : Nat} {Q : Exit → Act → World → Prop} {a : Act} {w : World} {l : List Oper} {P : Program} (hm : P.follows .mixedOrders = true) (hB : Region.lexB .any l.toArray = true)
    (h : wpQuiet P l.toArray (fun w' => ∃ x : Bl w, w' = x.to) (fun a' => ∀ w', (∃ x : Bl w, w' = x.to) → Q .normal a' w') l a) : (Code.region id l.toArray true).wp P Q a w :=
  wp_region_quiet (C := fun w' => ∃ x : Bl w, w' = x.to) hm hB ⟨⟨_, (Below.refl _ _).drew⟩, rfl⟩ (by simpa using h)

theorem q_bl {P : Program} {wk : World} {x : Bl wk} {f : FuncId} {args : Array Value} {v : Value} (h : Calls P f args x.to fun e w' => e = .returned v ∧ Below x.to.heap.size x.to w') :
    Calls P f args x.to fun e w' => e = .returned v ∧ ∃ y : Bl wk, w' = y.to :=
  h.mono fun _ w' ⟨he, hb⟩ => ⟨he, ⟨w', x.below.trans (hb.mono x.below.size)⟩, rfl⟩
theorem q_bl_same {P : Program} {wk : World} {x : Bl wk} {f : FuncId} {args : Array Value} {v : Value} (h : Calls P f args x.to fun e w' => e = .returned v ∧ x.to = w') :
    Calls P f args x.to fun e w' => e = .returned v ∧ ∃ y : Bl wk, w' = y.to :=
  h.mono fun _ _ ⟨he, hb⟩ => ⟨he, x, hb.symm⟩

theorem flowS_no {f : Flow} {k : Nat} (hk : k < f.steps.length) (h : stepAt f.steps k = false) : flowB f = false := by
  unfold flowB
  rw [allN_false hk h]; rfl

theorem stepAt_ways (ss : List Step) (k : Nat) : (stepB (nth ss k) = false ∧ stepAt ss k = false) ∨ (stepB (nth ss k) = true ∧
    ((k = 0 ∧ haveB (namesOf ss) (nth ss k).after = stepAt ss k) ∨ (0 < k ∧ ((strLt (nth ss (k - 1)).name (nth ss k).name = false ∧ stepAt ss k = false) ∨ (strLt (nth ss (k - 1)).name (nth ss k).name = true ∧ haveB (namesOf ss) (nth ss k).after = stepAt ss k))))) := by
  unfold stepAt
  cases h1 : stepB (nth ss k)
  · left; simp
  · right
    refine ⟨rfl, ?_⟩
    by_cases h0 : k = 0
    · left; refine ⟨h0, ?_⟩; simp [h0]
    · right
      refine ⟨by omega, ?_⟩
      cases h2 : strLt (nth ss (k - 1)).name (nth ss k).name
      · left; simp [h0]
      · right; simp

theorem name_size {ss : List Step} {j : Nat} (h : stepAt ss j = true) : 1 ≤ (nth ss j).name.size := by
  simp only [stepAt, stepB, nameB, Bool.and_eq_true, decide_eq_true_eq] at h
  omega

theorem have_bad {xs ys : List Str} {k : Nat} (hk : k < ys.length) (h : hasB xs (nth ys k) = false) : haveB xs ys = false := allN_false hk h

set_option maxRecDepth 100000 in
set_option maxHeartbeats 1000000 in
theorem flowS_any (A : Option Addr) (n c : Nat) (f : Flow) (lo : Nat) (w : World) (hr : RStep w lo A n f.steps) (hok : okSteps f.steps) :
    Calls Try.prog 50 #[.agg #[.int .i64 f.ver, .slice A n c]] w fun e w' => e = .returned (.bool (flowB f)) ∧ Below w.heap.size w w' := by
  have hn : n ≤ 1048576 := by have := hok.1; rw [hr.1] at this; exact this
  have HO := Lib.hid hok; clear hok
  have HR := Lib.hid hr; clear hr
  have HL := Lib.hid (show f.steps.length = n from HR.out.1)
  go_enter Try.func50, Try.ntmps50
  go_wp2_with fail
  go_loopw [3] (fun i wr => ∃ k : Nat, k ≤ n ∧ i = .int .i64 k ∧ wr.heap[w.heap.size]? = some (.cells #[.int .i64 f.ver, .slice A n c] 29 (0, 0)) ∧ Below w.heap.size w wr ∧ ∀ j, j < k → stepAt f.steps j = true) (fun i _ => n - (intOf i).toNat)
  case atStart => exact ⟨0, Nat.zero_le _, rfl, heap_new rfl, (Below.refl _ _).alloc (Nat.le_refl _) _, fa_zero⟩
  case round =>
    obtain ⟨k, hk, rfl, hx, hb, hp⟩ := hrel
    have HX := Lib.hid hx; clear hx
    have HBR := Lib.hid hb; clear hb
    have HP := Lib.hid hp; clear hp
    have b1 := (blk_cl (k := 0) HX.out rfl).1
    have b2 := (blk_cl (k := 1) HX.out rfl).1
    by_cases hlt : k < n
    · obtain ⟨b, off, rfl, ⟨_, hbr⟩, hc⟩ := RStep.at_ (HR.out.below HBR.out) hlt
      obtain ⟨A', n', c', ⟨c1, c2, c3⟩, ha, _⟩ := hc k hlt
      have hcp : 0 < k → wr.cell? ⟨b, off + (k - 1) * 3, none⟩ = some (.string (nth f.steps (k - 1)).name) := by
        intro h0
        obtain ⟨_, _, _, ⟨d1, _⟩, _⟩ := hc (k - 1) (by omega)
        exact d1
      clear hc
      have HCP := Lib.hid hcp; clear hcp
      have HL1 := Lib.hid (show k < f.steps.length by rw [HL.out]; exact hlt)
      have hso := HO.out.2 k HL1.out
      have hn' : n' ≤ 1048576 := by have := hso.2.1; rw [ha.1] at this; exact this
      have HSO := Lib.hid hso; clear hso
      have HA := Lib.hid (ha.alloc (.cells #[.string (nth f.steps k).name, .slice A' n' c', .bool (nth f.steps k).undo] 50)); clear ha
      have HRK := Lib.hid ((HR.out.below HBR.out).alloc (.cells #[.string (nth f.steps k).name, .slice A' n' c', .bool (nth f.steps k).undo] 50))
      have HBW := Lib.hid (HBR.out.alloc HBR.out.size (.cells #[.string (nth f.steps k).name, .slice A' n' c', .bool (nth f.steps k).undo] 50))
      have HXK := Lib.hid (show (wr.alloc (.cells #[.string (nth f.steps k).name, .slice A' n' c', .bool (nth f.steps k).undo] 50)).heap[w.heap.size]? = some (.cells #[.int .i64 f.ver, .slice (some ⟨b, off, none⟩) n c] 29 (0, 0)) from heap_old HX.out)
      have HYK := Lib.hid (show (wr.alloc (.cells #[.string (nth f.steps k).name, .slice A' n' c', .bool (nth f.steps k).undo] 50)).heap[wr.heap.size]? = some (.cells #[.string (nth f.steps k).name, .slice A' n' c', .bool (nth f.steps k).undo] 50 (0, 0)) from heap_new rfl)
      have HCK : Hid (0 < k → (wr.alloc (.cells #[.string (nth f.steps k).name, .slice A' n' c', .bool (nth f.steps k).undo] 50)).cell? ⟨b, off + (k - 1) * 3, none⟩ = some (.string (nth f.steps (k - 1)).name)) := fun h0 =>
        (((Below.refl wr.heap.size wr).alloc (Nat.le_refl _) (.cells #[.string (nth f.steps k).name, .slice A' n' c', .bool (nth f.steps k).undo] 50)).cell (p := ⟨b, _, none⟩) hbr).trans (HCP.out h0)
      have hwx : w.heap.size < (wr.alloc (.cells #[.string (nth f.steps k).name, .slice A' n' c', .bool (nth f.steps k).undo] 50)).heap.size := heap_lt HXK.out
      have hwy : wr.heap.size < (wr.alloc (.cells #[.string (nth f.steps k).name, .slice A' n' c', .bool (nth f.steps k).undo] 50)).heap.size := heap_lt HYK.out
      have hwb : b < (wr.alloc (.cells #[.string (nth f.steps k).name, .slice A' n' c', .bool (nth f.steps k).undo] 50)).heap.size := Nat.lt_trans hbr hwy
      go_wp2_with fail
      clear c1 c2 c3 b1 b2
      generalize ewk : wr.alloc (.cells #[.string (nth f.steps k).name, .slice A' n' c', .bool (nth f.steps k).undo] 50) = wk at *
      have X1 : ∀ x : Bl wk, x.to.cell? ⟨w.heap.size, 0, none⟩ = some (.int .i64 f.ver) := fun x => (blk_cl (k := 0) ((x.below.block _ hwx).trans HXK.out) rfl).1
      have X2 : ∀ x : Bl wk, x.to.cell? ⟨w.heap.size, 1, none⟩ = some (.slice (some ⟨b, off, none⟩) n c) := fun x => (blk_cl (k := 1) ((x.below.block _ hwx).trans HXK.out) rfl).1
      have Y1 : ∀ x : Bl wk, x.to.cell? ⟨wr.heap.size, 0, none⟩ = some (.string (nth f.steps k).name) := fun x => (blk_cl (k := 0) ((x.below.block _ hwy).trans HYK.out) rfl).1
      have Y2 : ∀ x : Bl wk, x.to.cell? ⟨wr.heap.size, 1, none⟩ = some (.slice A' n' c') := fun x => (blk_cl (k := 1) ((x.below.block _ hwy).trans HYK.out) rfl).1
      have Y3 : ∀ x : Bl wk, x.to.cell? ⟨wr.heap.size, 2, none⟩ = some (.bool (nth f.steps k).undo) := fun x => (blk_cl (k := 2) ((x.below.block _ hwy).trans HYK.out) rfl).1
      have HSV := Lib.hid (fun x : Bl wk => stepS_any _ _ c' (nth f.steps k) _ _ (HA.out.below x.below) HSO.out)
      rcases stepAt_ways f.steps k with ⟨h1, h2⟩ | ⟨h1, ⟨h0, h2⟩ | ⟨h0, ⟨h3, h2⟩ | ⟨h3, h2⟩⟩⟩
      · have HG := Lib.hid (flowS_no HL1.out h2)
        rw [h1] at HSV
        clear h1 h2
        refine region_bl (by kernel_rfl) (by kernel_rfl) ?_
        repeat (go_big_quiet_step ((go_at_call 81; exact q_bl (HSV.out _))))
        refine wpQuiet_nil ?_
        intro _ hw'
        obtain ⟨x, rfl⟩ := hw'
        go_wp2_with fail
        go_ret
        exact ⟨ret_b (by rw [HG.out]), HBW.out.trans (x.below.mono HBW.out.size)⟩
      · have h5 : decide ((0 : Int) < (k : Int)) = false := by simp; omega
        have h6 : decide (0 < k) = false := by simp; omega
        have H2 := Lib.hid h2; clear h2
        rw [h1] at HSV
        clear h1 h0
        refine region_bl (by kernel_rfl) (by kernel_rfl) ?_
        repeat (go_big_quiet_step ((go_at_call 81; exact q_bl (HSV.out _))))
        refine wpQuiet_nil ?_
        intro _ hw'
        obtain ⟨x, rfl⟩ := hw'
        have HA2 := Lib.hid (HA.out.below x.below)
        have HB2 := Lib.hid (HBW.out.trans (x.below.mono HBW.out.size))
        have HX2 := Lib.hid ((x.below.block _ hwx).trans HXK.out)
        have HY2 := Lib.hid ((x.below.block _ hwy).trans HYK.out)
        have HRS := Lib.hid (HRK.out.below x.below)
        generalize x.to = wi at *
        clear X1 X2 Y1 Y2 Y3 x HSV
        go_wp2_with fail
        go_loopw [5] (fun j wj => ∃ q m : Nat, q ≤ n' ∧ j = .int .i64 q ∧ wj = wi.drewN m ∧ ∀ i, i < q → hasB (namesOf f.steps) (nth (nth f.steps k).after i) = true) (fun j _ => n' - (intOf j).toNat)
        case atStart => exact ⟨0, 0, Nat.zero_le _, rfl, rfl, fa_zero⟩
        case round =>
          obtain ⟨q, m, hq, rfl, rfl, hp2⟩ := hrel
          have HP2 := Lib.hid hp2; clear hp2
          have y2 := (blk_cl (k := 1) HY2.out rfl).1
          have x2 := (blk_cl (k := 1) HX2.out rfl).1
          by_cases hj : q < n'
          · obtain ⟨b', off', rfl, ⟨_, hbr'⟩, hc⟩ := RStr.at_ HA2.out hj
            have e1 := (hc q hj).1
            clear hc
            have HL2 := Lib.hid (show q < (nth f.steps k).after.length by rw [HA2.out.1]; exact hj)
            have HAT := Lib.hid (fun z => l2At_any _ _ c f.steps (nth (nth f.steps k).after q) _ _ (HRS.out.drewN z) hn)
            cases h7 : hasB (namesOf f.steps) (nth (nth f.steps k).after q)
            · have HG := Lib.hid (flowS_no HL1.out (H2.out.symm.trans (have_bad HL2.out h7)))
              have h8 : decide (idxI (namesOf f.steps) (nth (nth f.steps k).after q) < 0) = true := by
                have := hasB_idx (namesOf f.steps) (nth (nth f.steps k).after q); rw [h7] at this
                simp only [decide_eq_false_iff_not, decide_eq_true_eq] at this ⊢; omega
              have h9 : idxI (namesOf f.steps) (nth (nth f.steps k).after q) < 0 := by simpa using h8
              clear h7
              go_wp2_with fail
              go_quiet ((go_at_call 82; exact q_same2 (HAT.out _)))
              go_wp2_with fail
              go_ret
              exact ⟨ret_b (by rw [HG.out]), by rw [World.drewN_drewN]; exact below_drewN HB2.out _⟩
            · have H7 := Lib.hid h7
              have h8 : decide (idxI (namesOf f.steps) (nth (nth f.steps k).after q) < 0) = false := by
                have := hasB_idx (namesOf f.steps) (nth (nth f.steps k).after q); rw [h7] at this
                simp only [decide_eq_false_iff_not, decide_eq_true_eq] at this ⊢; omega
              have h9 : 0 ≤ idxI (namesOf f.steps) (nth (nth f.steps k).after q) := by simpa using h8
              clear h7
              go_wp2_with fail
              go_quiet ((go_at_call 82; exact q_same2 (HAT.out _)))
              go_wp2_with fail
              go_roundw
              case rel => exact ⟨q + 1, _, by omega, by go_num, rfl, fa_succ HP2.out H7.out⟩
              case measure => simp [intOf]; omega
          · have HT := Lib.hid (show stepAt f.steps k = true by rw [← H2.out]; exact allN_true (fun j hj => HP2.out j (by have := HA2.out.1; omega)))
            go_wp2_with fail
            go_roundw
            case rel => exact ⟨k + 1, by omega, by go_num, by rw [World.heap_drewN]; exact HX2.out, below_drewN HB2.out _, fa_succ HP.out HT.out⟩
            case measure => simp [intOf]; omega
      · have h5 : decide ((0 : Int) < (k : Int)) = true := by simp; omega
        have h6 : decide (0 < k) = true := by simp; omega
        have h8 : Op.bytesLess (ByteArray.toList (nth f.steps (k - 1)).name) (ByteArray.toList (nth f.steps k).name) = false := h3
        have Z1 : ∀ x : Bl wk, x.to.cell? ⟨b, off + (k - 1) * 3, none⟩ = some (.string (nth f.steps (k - 1)).name) := fun x => (x.below.cell (p := ⟨b, _, none⟩) hwb).trans (HCK.out h0)
        have HG := Lib.hid (flowS_no HL1.out h2)
        rw [h1] at HSV
        clear h1 h2 h3
        refine region_bl (by kernel_rfl) (by kernel_rfl) ?_
        repeat (go_big_quiet_step ((go_at_call 81; exact q_bl (HSV.out _))))
        refine wpQuiet_nil ?_
        intro _ hw'
        obtain ⟨x, rfl⟩ := hw'
        clear h8
        go_wp2_with fail
        go_ret
        exact ⟨ret_b (by rw [HG.out]), HBW.out.trans (x.below.mono HBW.out.size)⟩
      · have h5 : decide ((0 : Int) < (k : Int)) = true := by simp; omega
        have h6 : decide (0 < k) = true := by simp; omega
        have h8 : Op.bytesLess (ByteArray.toList (nth f.steps (k - 1)).name) (ByteArray.toList (nth f.steps k).name) = true := h3
        have Z1 : ∀ x : Bl wk, x.to.cell? ⟨b, off + (k - 1) * 3, none⟩ = some (.string (nth f.steps (k - 1)).name) := fun x => (x.below.cell (p := ⟨b, _, none⟩) hwb).trans (HCK.out h0)
        have H2 := Lib.hid h2
        rw [h1] at HSV
        clear h1 h2 h3
        refine region_bl (by kernel_rfl) (by kernel_rfl) ?_
        repeat (go_big_quiet_step ((go_at_call 81; exact q_bl (HSV.out _))))
        refine wpQuiet_nil ?_
        intro _ hw'
        obtain ⟨x, rfl⟩ := hw'
        have HA2 := Lib.hid (HA.out.below x.below)
        have HB2 := Lib.hid (HBW.out.trans (x.below.mono HBW.out.size))
        have HX2 := Lib.hid ((x.below.block _ hwx).trans HXK.out)
        have HY2 := Lib.hid ((x.below.block _ hwy).trans HYK.out)
        have HRS := Lib.hid (HRK.out.below x.below)
        generalize x.to = wi at *
        clear X1 X2 Y1 Y2 Y3 Z1 x HSV h8 h5 h6
        go_wp2_with fail
        go_loopw [5] (fun j wj => ∃ q m : Nat, q ≤ n' ∧ j = .int .i64 q ∧ wj = wi.drewN m ∧ ∀ i, i < q → hasB (namesOf f.steps) (nth (nth f.steps k).after i) = true) (fun j _ => n' - (intOf j).toNat)
        case atStart => exact ⟨0, 0, Nat.zero_le _, rfl, rfl, fa_zero⟩
        case round =>
          obtain ⟨q, m, hq, rfl, rfl, hp2⟩ := hrel
          have HP2 := Lib.hid hp2; clear hp2
          have y2 := (blk_cl (k := 1) HY2.out rfl).1
          have x2 := (blk_cl (k := 1) HX2.out rfl).1
          by_cases hj : q < n'
          · obtain ⟨b', off', rfl, ⟨_, hbr'⟩, hc⟩ := RStr.at_ HA2.out hj
            have e1 := (hc q hj).1
            clear hc
            have HL2 := Lib.hid (show q < (nth f.steps k).after.length by rw [HA2.out.1]; exact hj)
            have HAT := Lib.hid (fun z => l2At_any _ _ c f.steps (nth (nth f.steps k).after q) _ _ (HRS.out.drewN z) hn)
            cases h7 : hasB (namesOf f.steps) (nth (nth f.steps k).after q)
            · have HG := Lib.hid (flowS_no HL1.out (H2.out.symm.trans (have_bad HL2.out h7)))
              have h8 : decide (idxI (namesOf f.steps) (nth (nth f.steps k).after q) < 0) = true := by
                have := hasB_idx (namesOf f.steps) (nth (nth f.steps k).after q); rw [h7] at this
                simp only [decide_eq_false_iff_not, decide_eq_true_eq] at this ⊢; omega
              have h9 : idxI (namesOf f.steps) (nth (nth f.steps k).after q) < 0 := by simpa using h8
              clear h7
              go_wp2_with fail
              go_quiet ((go_at_call 82; exact q_same2 (HAT.out _)))
              go_wp2_with fail
              go_ret
              exact ⟨ret_b (by rw [HG.out]), by rw [World.drewN_drewN]; exact below_drewN HB2.out _⟩
            · have H7 := Lib.hid h7
              have h8 : decide (idxI (namesOf f.steps) (nth (nth f.steps k).after q) < 0) = false := by
                have := hasB_idx (namesOf f.steps) (nth (nth f.steps k).after q); rw [h7] at this
                simp only [decide_eq_false_iff_not, decide_eq_true_eq] at this ⊢; omega
              have h9 : 0 ≤ idxI (namesOf f.steps) (nth (nth f.steps k).after q) := by simpa using h8
              clear h7
              go_wp2_with fail
              go_quiet ((go_at_call 82; exact q_same2 (HAT.out _)))
              go_wp2_with fail
              go_roundw
              case rel => exact ⟨q + 1, _, by omega, by go_num, rfl, fa_succ HP2.out H7.out⟩
              case measure => simp [intOf]; omega
          · have HT := Lib.hid (show stepAt f.steps k = true by rw [← H2.out]; exact allN_true (fun j hj => HP2.out j (by have := HA2.out.1; omega)))
            go_wp2_with fail
            go_roundw
            case rel => exact ⟨k + 1, by omega, by go_num, by rw [World.heap_drewN]; exact HX2.out, below_drewN HB2.out _, fa_succ HP.out HT.out⟩
            case measure => simp [intOf]; omega
    · have HP' := Lib.hid (fun j (hj : j < f.steps.length) => HP.out j (by have := HL.out; omega))
      have HAL := Lib.hid (show allN f.steps.length (stepAt f.steps) = true from allN_true HP'.out)
      have HRK := Lib.hid (HR.out.below HBR.out)
      have hwx : w.heap.size < wr.heap.size := heap_lt HX.out
      have HNE := Lib.hid (fun j (hj : j < n) => name_size (HP'.out j (by rw [HL.out]; exact hj)))
      have HG := Lib.hid (show flowB f = (inB f.ver 1 99 && inB n 1 8 && decide ((ordL f.steps).length = n)) by unfold flowB; rw [HAL.out, HL.out, Bool.true_and])
      cases h1 : inB f.ver 1 99
      · have H1 := Lib.hid (fun z => l6In_any f.ver 1 99 (wr.drewN z)) 
        rw [h1] at H1 HG
        clear h1
        go_wp2_with fail
        go_quiet ((go_at_call 83; exact q_same (H1.out _)))
        go_wp2_with fail
        go_ret
        exact ⟨ret_b (by rw [HG.out]; rfl), below_drewN HBR.out _⟩
      have H1 := Lib.hid (fun z : World => l6In_any f.ver 1 99 z)
      have H2 := Lib.hid (fun z : World => l6In_any n 1 8 z)
      rw [h1] at H1 HG
      clear h1
      cases h2 : inB n 1 8
      · rw [h2] at H2 HG
        clear h2
        go_wp2_with fail
        go_quiet ((first | (go_at_call_of 83 (Value.int .i64 f.ver); exact q_same (H1.out _)) | (go_at_call 83; exact q_same (H2.out _))))
        go_wp2_with fail
        go_ret
        exact ⟨ret_b (by rw [HG.out]; rfl), below_drewN HBR.out _⟩
      · rw [h2] at H2 HG
        clear h2
        have HSB : Hid (∀ w', Below wr.heap.size wr w' →
            (w'.cell? ⟨w.heap.size, 0, none⟩ = some (.int .i64 f.ver) ∧ w'.cell? ⟨w.heap.size, 1, none⟩ = some (.slice A n c)) ∧ Below wr.heap.size wr w') := by
          intro w' hb
          have e1 := (hb.block _ hwx).trans HX.out
          exact ⟨⟨(blk_cl (k := 0) e1 rfl).1, (blk_cl (k := 1) e1 rfl).1⟩, hb⟩
        go_wp2_with fail
        clear b1 b2
        go_region_held3 (fun w' => (w'.cell? ⟨w.heap.size, 0, none⟩ = some (.int .i64 f.ver) ∧ w'.cell? ⟨w.heap.size, 1, none⟩ = some (.slice A n c)) ∧ Below wr.heap.size wr w')
          (first | exact HSB.out _ (Below.refl _ _).drew | exact HSB.out _ ((Below.refl _ _).drew.trans (hbw.mono (Nat.le_refl _))) | (go_split_ands; exact HSB.out _ ((show Below wr.heap.size wr _ by assumption).trans (hbw.mono (show Below wr.heap.size wr _ by assumption).size))) | go_keep)
          (first | (go_at_call_of 83 (Value.int .i64 f.ver); refine (H1.out _).mono ?_; rintro e w1 ⟨rfl, rfl⟩) | (go_at_call 83; refine (H2.out _).mono ?_; rintro e w1 ⟨rfl, rfl⟩) | (go_at_call 84; refine (l2Order_any _ _ _ f.steps _ _ (HRK.out.below (by first | exact (Below.refl _ _).drew | (go_split_ands; assumption))) HO.out HNE.out).mono ?_; rintro e w1 ⟨A2, c2, rfl, hr2, hbw⟩))
        go_wp2_with fail
        go_ret
        have hbk := (show Below wr.heap.size wr w1 by (go_split_ands; assumption))
        refine ⟨ret_b ?_, HBR.out.trans (hbk.mono HBR.out.size)⟩
        rw [HG.out, Bool.true_and, Bool.true_and]
        rw [Bool.eq_iff_iff, beq_iff_eq, decide_eq_true_eq]
        omega
end Go.Proofs.Ytfcbpgpmafmkhaa
