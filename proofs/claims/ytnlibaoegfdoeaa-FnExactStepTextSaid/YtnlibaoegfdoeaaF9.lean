/- Counting orders: the reference. -/
import Derived.Test.YtnlibaoegfdoeaaF8
namespace Go.Proofs.Ytnlibaoegfdoeaa
open Go.RowKit

theorem sapps_step {w : World} {ops : Array Oper} {o : Oper} {a : Act} {K : Act → World → Prop} {Q : Exit → Act → World → Prop} {E : Prop} (w0 : World) (v : Value) (n : Nat) (cs : List Str) (lo : Nat) (A : Option Addr) (m c : Nat) (ys : List Str) (hown : Own 9 1 w0 w v n (cs.map Value.string))
    (hr : RStr w lo A m ys) (hgd : o.guard = none) (l x : Operand) (ho : o.op = .call { callee := .builtin .append, args := #[l, x], argTypes := #[27, 27] })
    (hs : a.eval l = v) (hx : a.eval x = .slice A m c) (hn : n + m ≤ 4194304)
    (h : ∀ v' w', Own 9 1 w0 w' v' (n + m) ((cs ++ ys).map Value.string) → w.grownBy w' v.ownBlock → K (a.put o.dst v') w') :
    if Region.wanted o (yielded ops a.tmps) = true then Oper.wp Try.prog o a w K Q else E := by
  have hw : Region.wanted o (yielded ops a.tmps) = true := by simp [Region.wanted, hgd]
  rw [if_pos hw]
  exact wappl 27 9 1 16 _ Try.underlying27 info_str rfl (by omega) (by omega) w0.heap.size v n _ (ys.map Value.string) A m c hown.row l x ho hs hx (by rw [List.length_map, hr.1]; omega) (news_str hr) (by simp [Value.oneCell']) hn hown.below.size
    fun v' w' h2 h3 _ => h v' w' (hown.next (by rw [List.map_append]; exact h2) h3) h3

theorem own_new {w0 w : World} {b : Nat} (hb : Below w0.heap.size w0 w) (e : b = w.heap.size) : Own 9 1 w0 (w.alloc (.cells #[] 9)) (.slice (some ⟨b, 0, none⟩) 0 0) 0 (([] : List Str).map Value.string) := by
  subst e
  exact ⟨World.ownsRow_made w #[] 0 hb.size (Nat.zero_le _) rfl, hb.alloc hb.size _⟩

/-- The orders behind those of the first i steps that are ready. -/
def cntS (ss : List Step) (k : Nat) (done : List Str) (i : Nat) : Nat := ((rdyTo ss done i).map fun x => cnt ss k (done ++ [x])).sum
theorem cntS_yes {ss : List Step} {k : Nat} {done : List Str} {i : Nat} (hi : i < ss.length) (h : rdyB done (nth ss i) = true) :
    cntS ss k done (i + 1) = cntS ss k done i + cnt ss k (done ++ [(nth ss i).name]) := by
  unfold cntS; rw [rdyTo_yes hi h, List.map_append, List.sum_append]; simp
theorem cntS_no {ss : List Step} {k : Nat} {done : List Str} {i : Nat} (hi : i < ss.length) (h : rdyB done (nth ss i) = false) : cntS ss k done (i + 1) = cntS ss k done i := by
  unfold cntS; rw [rdyTo_no hi h]
theorem cntS_all {ss : List Step} {k : Nat} {done : List Str} {i : Nat} (hi : ss.length ≤ i) : cntS ss k done i = cnt ss (k + 1) done := by
  unfold cntS; rw [rdyTo_all hi]; rfl
theorem cntS_le {ss : List Step} (hn : (namesOf ss).Nodup) {k : Nat} {done : List Str} (hd : Done ss done) (hk : k + 1 + done.length = ss.length) (i : Nat) : cntS ss k done i ≤ i * fact k := by
  unfold cntS
  have := sum_le_mul (xs := (rdyTo ss done i).map fun x => cnt ss k (done ++ [x])) (m := fact k) (by
    intro y hy
    obtain ⟨x, hx, rfl⟩ := List.mem_map.1 hy
    refine cnt_le hn k _ (hd.next ?_) (by rw [List.length_append]; simp; omega)
    unfold rdyTo at hx
    obtain ⟨s, hs, rfl⟩ := List.mem_map.1 hx
    obtain ⟨h1, h2⟩ := List.mem_filter.1 hs
    exact rdyL_mem.2 ⟨s, List.mem_of_mem_take h1, h2, rfl⟩)
  rw [List.length_map] at this
  exact Nat.le_trans this (Nat.mul_le_mul_right _ (rdyTo_len ss done i))

set_option maxRecDepth 100000 in
set_option maxHeartbeats 1000000 in
theorem l42Orders_any (f : Flow) (hok : okSteps f.steps) (hnd : (namesOf f.steps).Nodup) (n : Nat) (hnl : f.steps.length = n) (hn : n ≤ 6) : ∀ (k : Nat) (A B : Option Addr) (c m d : Nat) (done : List Str) (lo lo' : Nat) (w : World), RStep w lo A n f.steps → RStr w lo' B m done →
    Done f.steps done → k + m = n →
    Calls Try.prog 71 #[.agg #[.int .i64 f.ver, .slice A n c], .slice B m d] w fun e w' => e = .returned (.int .i64 (cnt f.steps k done)) ∧ Below w.heap.size w w' := by
  have HO := Lib.hid hok; clear hok
  have HN := Lib.hid hnd; clear hnd
  have HL := Lib.hid hnl; clear hnl
  intro k
  induction k with
  | zero =>
    intro A B c m d done lo lo' w hr hd hD hk
    have hmn : ((m : Int) == (n : Int)) = true := by rw [beq_iff_eq]; omega
    clear hk
    go_enter Try.func71, Try.ntmps71
    go_wp2_with fail
    go_ret
    exact ⟨rfl, (Below.refl _ _).alloc (Nat.le_refl _) _⟩
  | succ k ih =>
    intro A B c m d done lo lo' w hr hd hD hk
    have HR := Lib.hid hr; clear hr
    have HD := Lib.hid hd; clear hd
    have HDN := Lib.hid hD; clear hD
    have HI := Lib.hid ih; clear ih
    have hmn : ((m : Int) == (n : Int)) = false := by rw [beq_eq_false_iff_ne]; omega
    have HK := Lib.hid hk
    have hm6 : m < 6 := by omega
    clear hk
    go_enter Try.func71, Try.ntmps71
    go_wp2_with fail
    go_loopw [5, 6] (fun s i wr => ∃ q : Nat, q ≤ n ∧ i = .int .i64 q ∧ s = .int .i64 (cntS f.steps k done q : Nat) ∧ wr.heap[w.heap.size]? = some (.cells #[.int .i64 f.ver, .slice A n c] 57 (0, 0)) ∧ Below w.heap.size w wr) (fun _ i _ => n - (intOf i).toNat)
    case atStart => exact ⟨0, Nat.zero_le _, rfl, rfl, heap_new rfl, (Below.refl _ _).alloc (Nat.le_refl _) _⟩
    case round =>
      obtain ⟨q, hq, rfl, rfl, hx, hb⟩ := hrel
      have HX := Lib.hid hx; clear hx
      have HBR := Lib.hid hb; clear hb
      have b1 := (blk_cl (k := 0) HX.out rfl).1
      have b2 := (blk_cl (k := 1) HX.out rfl).1
      by_cases hlt : q < n
      · obtain ⟨b, off, rfl, ⟨_, hbr⟩, hc⟩ := RStep.at_ (HR.out.below HBR.out) hlt
        obtain ⟨A', n', c', ⟨c1, c2, c3⟩, ha, _⟩ := hc q hlt
        clear hc
        have HL1 := Lib.hid (show q < f.steps.length by rw [HL.out]; exact hlt)
        have hn' : n' ≤ 1048576 := by have := (HO.out.2 q HL1.out).2.1; rw [ha.1] at this; exact this
        have HA := Lib.hid (ha.alloc (.cells #[.string (nth f.steps q).name, .slice A' n' c', .bool (nth f.steps q).undo] 47)); clear ha
        have HD1 := Lib.hid ((HD.out.below HBR.out).alloc (.cells #[.string (nth f.steps q).name, .slice A' n' c', .bool (nth f.steps q).undo] 47))
        have HXK := Lib.hid (show (wr.alloc (.cells #[.string (nth f.steps q).name, .slice A' n' c', .bool (nth f.steps q).undo] 47)).heap[w.heap.size]? = some (.cells #[.int .i64 f.ver, .slice (some ⟨b, off, none⟩) n c] 57 (0, 0)) from heap_old HX.out)
        have HYK := Lib.hid (show (wr.alloc (.cells #[.string (nth f.steps q).name, .slice A' n' c', .bool (nth f.steps q).undo] 47)).heap[wr.heap.size]? = some (.cells #[.string (nth f.steps q).name, .slice A' n' c', .bool (nth f.steps q).undo] 47 (0, 0)) from heap_new rfl)
        have HBK := Lib.hid (HBR.out.alloc HBR.out.size (.cells #[.string (nth f.steps q).name, .slice A' n' c', .bool (nth f.steps q).undo] 47))
        rcases rdyB_ways done (nth f.steps q) with ⟨h1, h2⟩ | ⟨h1, h2⟩
        · have h3 := idx_pos h1
          have HT := Lib.hid (cntS_no (k := k) HL1.out h2); clear h1 h2
          go_wp2_with (go_at_call 84; refine (l1At_any _ _ _ done _ _ _ HD1.out (by omega)).mono ?_; rintro e w' ⟨rfl, rfl⟩)
          go_roundw
          case rel => exact ⟨q + 1, by omega, by go_num, by rw [HT.out], HXK.out, HBK.out⟩
          case measure => simp [intOf]; omega
        · have h3 := idx_neg h1
          have H2 := Lib.hid h2; clear h1 h2
          cases h4 : haveB done (nth f.steps q).after
          · have HT := Lib.hid (cntS_no (k := k) HL1.out (H2.out.symm.trans h4))
            go_wp2_with (first | (go_at_call 84; refine (l1At_any _ _ _ done _ _ _ HD1.out (by omega)).mono ?_; rintro e w' ⟨rfl, rfl⟩) | (go_at_call 91; refine (l1Have_any _ _ _ _ _ _ done _ _ _ _ HD1.out (by omega) HA.out hn').mono ?_; rintro e w' ⟨rfl, rfl⟩))
            go_roundw
            case rel => exact ⟨q + 1, by omega, by go_num, by rw [HT.out], HXK.out, HBK.out⟩
            case measure => simp [intOf]; omega
          · have HT := Lib.hid (cntS_yes (k := k) HL1.out (H2.out.symm.trans h4))
            go_wp2_with (first | (go_at_call 84; refine (l1At_any _ _ _ done _ _ _ HD1.out (by omega)).mono ?_; rintro e w' ⟨rfl, rfl⟩) | (go_at_call 91; refine (l1Have_any _ _ _ _ _ _ done _ _ _ _ HD1.out (by omega) HA.out hn').mono ?_; rintro e w' ⟨rfl, rfl⟩))
            have HWR := Lib.hid (wrap_nat (a := cntS f.steps k done q) (b := cnt f.steps k (done ++ [(nth f.steps q).name])) (by
              have h1 := cntS_le HN.out HDN.out (k := k) (by rw [HD.out.1, HL.out]; exact HK.out) q
              have h2 := cnt_le HN.out k _ (HDN.out.next (rdyL_mem.2 ⟨nth f.steps q, mem_nth HL1.out, H2.out.symm.trans h4, rfl⟩)) (by rw [List.length_append, HD.out.1, HL.out]; have := HK.out; simp; omega)
              have h3 : fact k ≤ fact 5 := fact_le (by have := HK.out; omega)
              have h4 : fact 5 = 120 := rfl
              have h5 : q * fact k ≤ 6 * 120 := Nat.mul_le_mul (by omega) (by omega)
              omega))
            have hwx : w.heap.size < (wr.alloc (.cells #[.string (nth f.steps q).name, .slice A' n' c', .bool (nth f.steps q).undo] 47)).heap.size := heap_lt HXK.out
            have hwy : wr.heap.size < (wr.alloc (.cells #[.string (nth f.steps q).name, .slice A' n' c', .bool (nth f.steps q).undo] 47)).heap.size := heap_lt HYK.out
            have HRK := Lib.hid ((HR.out.below HBK.out))
            have HKK := Lib.hid (show k + (m + 1) = n by have := HK.out; omega)
            have HDX := Lib.hid (show Done f.steps (done ++ [(nth f.steps q).name]) from
              HDN.out.next (rdyL_mem.2 ⟨nth f.steps q, mem_nth HL1.out, H2.out.symm.trans h4, rfl⟩))
            generalize ewk : wr.alloc (.cells #[.string (nth f.steps q).name, .slice A' n' c', .bool (nth f.steps q).undo] 47) = wk at *
            have HSB : Hid (∀ w', Below wk.heap.size wk w' →
                ((w'.cell? ⟨w.heap.size, 0, none⟩ = some (.int .i64 f.ver) ∧ w'.cell? ⟨w.heap.size, 1, none⟩ = some (.slice (some ⟨b, off, none⟩) n c)) ∧ w'.cell? ⟨wr.heap.size, 0, none⟩ = some (.string (nth f.steps q).name)) ∧ Below wk.heap.size wk w') := by
              intro w' hb
              have e1 := (hb.block _ hwx).trans HXK.out
              have e2 := (hb.block _ hwy).trans HYK.out
              exact ⟨⟨⟨(blk_cl (k := 0) e1 rfl).1, (blk_cl (k := 1) e1 rfl).1⟩, (blk_cl (k := 0) e2 rfl).1⟩, hb⟩
            go_region_held3 (fun w' => ((w'.cell? ⟨w.heap.size, 0, none⟩ = some (.int .i64 f.ver) ∧ w'.cell? ⟨w.heap.size, 1, none⟩ = some (.slice (some ⟨b, off, none⟩) n c)) ∧ w'.cell? ⟨wr.heap.size, 0, none⟩ = some (.string (nth f.steps q).name)) ∧ Below wk.heap.size wk w')
              (first | exact HSB.out _ (Below.refl _ _).drew | exact HSB.out _ ((Below.refl _ _).drew.alloc (Nat.le_refl _) _) | exact HSB.out _ hbw | exact HSB.out _ (((Below.refl wk.heap.size wk).alloc (Nat.le_refl _) _).alloc (by simp) _).drew | exact HSB.out _ (hbw.alloc hbw.size _) | (go_split_ands; exact HSB.out _ ((show Below wk.heap.size wk _ by assumption).alloc (show Below wk.heap.size wk _ by assumption).size _)) | fail "keep")
              (first
                | (go_at_call 71; refine (HI.out _ _ c _ c4 _ _ _ _ (HRK.out.below hbw) hrs4 HDX.out HKK.out).mono ?_; rintro e w5 ⟨rfl, hb5⟩; replace hbw := hbw.trans (hb5.mono hbw.size))
                | (refine sapps_step (o := ⟨some 41, _, _, _, _, _⟩) wk _ 0 [] _ B m d done (by first | exact own_new (b := wk.heap.size) (Below.refl wk.heap.size wk).drew rfl | exact (own_new (b := wk.heap.size) (Below.refl wk.heap.size wk).drew rfl).alloc _ | exact own_new (b := wk.heap.size + 1) ((Below.refl wk.heap.size wk).drew.alloc (Nat.le_refl wk.heap.size) _) (by simp)) (HD1.out.below (by go_split_ands; assumption)) (by rfl) (.tmp 39) (.tmp 40) (by rfl) (by rfl) (by rfl) (by omega) ?_; intro v' w3 how hg3; rw [Nat.zero_add, List.nil_append] at how; have hbw := how.below)
                | (refine sapp_step (o := ⟨some 45, _, _, _, _, _⟩) wk _ m done _ (nth f.steps q).name (by first | exact how.alloc _ | exact how) (by rfl) (.tmp 41) (.tmp 44) (by rfl) (by rfl) (by rfl) (by first | exact heap_new rfl | exact grown_blk hg3 (heap_old (heap_new rfl)) (by simp [Value.ownBlock]) | exact grown_blk hg3 (heap_new (by simp)) (by simp [Value.ownBlock])) (by omega) ?_; intro v'' w4 how4 hg4; have hbw := how4.below; obtain ⟨A4, c4, rfl, hrs4⟩ := own_str how4.row)
                | fail "no arm")
            all_goals rw [HWR.out]
            all_goals go_wp2_with fail
            all_goals go_roundw
            all_goals first
              | exact ⟨q + 1, by omega, by go_num, by rw [HT.out], (hbw.block _ hwx).trans HXK.out, HBK.out.trans (hbw.mono HBK.out.size)⟩
              | (simp [intOf]; omega)
      · have HT := Lib.hid (show cntS f.steps k done q = cnt f.steps (k + 1) done from cntS_all (by rw [HL.out]; omega))
        go_wp2_with fail
        go_ret
        exact ⟨ret_i (by rw [HT.out]), HBR.out⟩
end Go.Proofs.Ytnlibaoegfdoeaa
