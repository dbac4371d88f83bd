/- Contracts of functions and plain lemmas, joined. No condition but those that each states. -/
import Derived.Deep.DeepCutAuto
import Derived.Deep.RegionHeld3
import Derived.Lib.SlicesCompact
import Derived.Lib.Strings
import Derived.Lib.SliceRun
import Derived.Deep.RegionLaw
import Derived.Test.YthdfefgianokgaaGreatDoorShelf
import Derived.Shelf.SlSortCmp.SmallK
import Derived.Sort.OwnSorted
import Derived.Lib.OwnBridge
import Derived.Shelf.Sort.Plain
import Derived.Shelf.Slices.CompactS
import Derived.Shelf.SlicesE.DeleteFunc
import Derived.Test.YthdfefgianokgaaGreatDoorBA
import Derived.Test.YthdfefgianokgaaGreatDoorBB

/- Runs of another flow: both sides. -/
namespace Go.Proofs.YthdfefgianokgaaGreatDoor
open Go.RowKit

set_option maxRecDepth 100000 in
set_option maxHeartbeats 1000000 in
theorem bad_any (A B : Option Addr) (n c m d : Nat) (ver : Int) (ss : List Step) (done : List Str) (lo lo' : Nat) (w : World) (hr : RStep w lo A n ss) (hok : okSteps ss) (hd : RStr w lo' B m done) (hm : m ≤ 1048576) (hmd : m ≤ d) :
    Calls Tryz.prog 101 #[.agg #[.int .i64 ver, .slice A n c], .slice B m d] w fun e w' => ∃ s : Str, e = .returned (.tuple #[.string s, .bool (!ordB ss done)]) ∧ Below w.heap.size w w' := by
  have hn : n ≤ 1048576 := by have := hok.1; rw [hr.1] at this; exact this
  have HO := Lib.hid hok; clear hok
  have HX0 := Lib.hid (heap_new (w := w) (o := .cells #[.int .i64 ver, .slice A n c] 38) rfl)
  have HB0 := Lib.hid ((Below.refl w.heap.size w).alloc (Nat.le_refl _) (.cells #[.int .i64 ver, .slice A n c] 38))
  have HR := Lib.hid (hr.alloc (.cells #[.int .i64 ver, .slice A n c] 38)); clear hr
  have HD := Lib.hid (hd.alloc (.cells #[.int .i64 ver, .slice A n c] 38)); clear hd
  have HL := Lib.hid HD.out.1
  go_enter Tryz.func101, Tryz.ntmps101
  go_wp2_with fail
  generalize ew0 : w.alloc (.cells #[.int .i64 ver, .slice A n c] 38) = w0 at *
  clear ew0
  go_loopw [11] (fun i wr => ∃ k : Nat, k ≤ m ∧ i = .int .i64 k ∧ Below w0.heap.size w0 wr ∧ ∀ j, j < k → ordAt ss done j = true) (fun i _ => m - (intOf i).toNat)
  case atStart => exact ⟨0, Nat.zero_le _, rfl, Below.refl _ _, fa_zero⟩
  case round =>
    obtain ⟨k, hk, rfl, hbw, hp⟩ := hrel
    have HP := Lib.hid hp; clear hp
    have HBW := Lib.hid hbw; clear hbw
    have hsw := HBW.out.size
    have HXW := Lib.hid ((HBW.out.block _ (heap_lt HX0.out)).trans HX0.out)
    by_cases hlt : k < m
    · obtain ⟨b, off, rfl, _, hc⟩ := RStr.at_ (HD.out.below HBW.out) hlt
      have x1 := (hc k hlt).1
      clear hc
      have hkl : k < done.length := by rw [HL.out]; exact hlt
      have z0 := (blk_cl (k := 0) HXW.out rfl).1
      have z1 := (blk_cl (k := 1) HXW.out rfl).1
      go_wp2_with fail
      refine (at_any _ _ _ ver ss (nth done k) _ _ (HR.out.below HBW.out) hn).mono ?_
      rintro e w1 ⟨rfl, hb1⟩
      have HB1 := Lib.hid (HBW.out.trans (hb1.mono hsw))
      have HX1 := Lib.hid ((hb1.block _ (heap_lt HXW.out)).trans HXW.out)
      clear hb1 z0 z1 x1
      have y0 := (blk_cl (k := 0) HX1.out rfl).1
      have y1 := (blk_cl (k := 1) HX1.out rfl).1
      have hkk : (k : Int) ≤ (d : Int) := by omega
      have hk0 : (0 : Int) ≤ (k : Int) := by omega
      have hkd : k ≤ d := by omega
      cases h1 : hasB (namesOf ss) (nth done k)
      · have h9 := idx_neg h1
        have h10 : decide (idxI (namesOf ss) (nth done k) < 0) = true := by rw [decide_eq_true_iff]; exact h9
        have HBB : Hid (ordB ss done = false) := allN_false hkl (by unfold ordAt; rw [h1]; rfl)
        clear h1
        generalize idxI (namesOf ss) (nth done k) = zi at *
        go_wp2_with fail
        go_quiet (fail)
        go_wp2_with fail
        exact bodyPost_ret (v := .tuple #[.string (nth done k), .bool true]) (by simp [results, Tryz.results101, go_sem]) rfl ⟨_, by rw [HBB.out]; rfl, HB0.out.trans ((below_drewN HB1.out _).mono HB0.out.size)⟩
      · obtain ⟨hpl, hidx, hnm⟩ := plc_ex h1
        have HPA := Lib.hid (show ordAt ss done k = (!hasB (done.take k) (nth done k) && haveB (done.take k) (nth ss (plc ss (nth done k))).after) by unfold ordAt; rw [h1]; rfl)
        have HS := Lib.hid (HO.out.2 _ hpl).2
        rw [hidx]
        clear h1 hnm hidx
        generalize plc ss (nth done k) = p at *
        have hpn : p < n := by rw [← HR.out.1]; exact hpl
        have hp0 : decide ((p : Int) < 0) = false := by rw [decide_eq_false_iff_not]; omega
        have hp1 : (0 : Int) ≤ (p : Int) := by omega
        have hp2 : (p : Int) < (n : Int) := by omega
        obtain ⟨b1, off1, rfl, ⟨_, hbr⟩, hc⟩ := RStep.at_ (HR.out.below HB1.out) hpn
        obtain ⟨A', n', c', ⟨u1, u2, u3⟩, ha, _⟩ := hc p hpn
        clear hc hpl
        have hn' : n' ≤ 1048576 := by have := HS.out.1; rw [ha.1] at this; exact this
        have H1 := Lib.hid (fun z => contains_any (some ⟨b, off, none⟩) k d (done.take k) (nth done k) _ (w1.drewN z) (((HD.out.below HB1.out).drewN z).take hk) (by omega))
        have H2 := Lib.hid (fun z => namesHave_any (some ⟨b, off, none⟩) A' k d n' c' (done.take k) (nth ss p).after _ _ (w1.drewN z) (((HD.out.below HB1.out).drewN z).take hk) (by omega) (ha.drewN z) hn')
        clear ha
        cases hf : hasB (done.take k) (nth done k)
        · rw [hf] at H1 HPA
          clear hf
          cases hh : haveB (done.take k) (nth ss p).after
          · rw [hh] at H2
            have HBB : Hid (ordB ss done = false) := allN_false hkl (by rw [HPA.out, hh]; rfl)
            clear hh
            go_wp2_with fail
            go_quiet ((first | (go_at_call 67; exact q_same (H1.out _)) | (go_at_call 104; exact q_same (H2.out _))))
            go_wp2_with fail
            exact bodyPost_ret (v := .tuple #[.string (nth done k), .bool true]) (by simp [results, Tryz.results101, go_sem]) rfl ⟨_, by rw [HBB.out]; rfl, HB0.out.trans ((below_drewN HB1.out _).mono HB0.out.size)⟩
          · rw [hh] at H2
            have HBB : Hid (ordAt ss done k = true) := by rw [HPA.out, hh]; rfl
            clear hh
            go_wp2_with fail
            go_quiet ((first | (go_at_call 67; exact q_same (H1.out _)) | (go_at_call 104; exact q_same (H2.out _))))
            go_wp2_with fail
            go_roundw
            case rel => exact ⟨k + 1, by omega, by go_num, below_drewN HB1.out _, fa_succ HP.out HBB.out⟩
            case measure => simp [intOf]; omega
        · rw [hf] at H1
          have HBB : Hid (ordB ss done = false) := allN_false hkl (by rw [HPA.out, hf]; rfl)
          clear hf
          go_wp2_with fail
          go_quiet ((first | (go_at_call 67; exact q_same (H1.out _)) | (go_at_call 104; exact q_same (H2.out _))))
          go_wp2_with fail
          exact bodyPost_ret (v := .tuple #[.string (nth done k), .bool true]) (by simp [results, Tryz.results101, go_sem]) rfl ⟨_, by rw [HBB.out]; rfl, HB0.out.trans ((below_drewN HB1.out _).mono HB0.out.size)⟩
    · obtain rfl : k = m := by omega
      have HBB : Hid (ordB ss done = true) := allN_true (fun j hj => HP.out j (by rw [HL.out] at hj; omega))
      go_wp2_with fail
      exact bodyPost_ret (v := .tuple #[.string ⟨#[]⟩, .bool false]) (by simp [results, Tryz.results101, go_sem]) rfl ⟨_, by rw [HBB.out]; rfl, HB0.out.trans (HBW.out.mono HB0.out.size)⟩

end Go.Proofs.YthdfefgianokgaaGreatDoor

/- Runs moved to another flow: both sides. -/
namespace Go.Proofs.YthdfefgianokgaaGreatDoor
open Go.RowKit

set_option maxRecDepth 100000 in
set_option maxHeartbeats 2000000 in
theorem fitI_any (A G B : Option Addr) (n c ng cg m d : Nat) (f g : Flow) (st : Int) (done : List Str) (lo log lo' : Nat) (w : World) (hr : RStep w lo A n f.steps) (hok : okSteps f.steps) (hg : RStep w log G ng g.steps) (hokg : okSteps g.steps) (hd : RStr w lo' B m done) (hm : m ≤ 1048576) (hmd : m ≤ d) :
    Calls Tryz.prog 61 #[.agg #[.int .i64 f.ver, .slice A n c], .agg #[.int .i64 g.ver, .slice G ng cg], .agg #[.int .i64 st, .slice B m d]] w fun e w' => ∃ B' n' d', e = .returned (.tuple #[.agg #[.int .i64 (fitR f g st done).1, .slice B' n' d'], .bool (fitB f g st done)]) ∧
      w'.ownsRow w.heap.size 9 1 (.slice B' n' d') n' ((fitR f g st done).2.map Value.string) ∧ Below w.heap.size w w' := by
  have HX := Lib.hid (heap_old (o := .cells #[.int .i64 0, .slice none 0 0] 40) (heap_old (o := .cells #[.int .i64 st, .slice B m d] 40) (heap_old (o := .cells #[.int .i64 g.ver, .slice G ng cg] 38) (heap_new (w := w) (o := .cells #[.int .i64 f.ver, .slice A n c] 38) rfl))))
  have HG := Lib.hid (heap_old (o := .cells #[.int .i64 0, .slice none 0 0] 40) (heap_old (o := .cells #[.int .i64 st, .slice B m d] 40) (heap_new (w := w.alloc (.cells #[.int .i64 f.ver, .slice A n c] 38)) (b := w.heap.size + 1) (o := .cells #[.int .i64 g.ver, .slice G ng cg] 38) (by simp))))
  have HY := Lib.hid (heap_old (o := .cells #[.int .i64 0, .slice none 0 0] 40) (heap_new (w := (w.alloc (.cells #[.int .i64 f.ver, .slice A n c] 38)).alloc (.cells #[.int .i64 g.ver, .slice G ng cg] 38)) (b := w.heap.size + 1 + 1) (o := .cells #[.int .i64 st, .slice B m d] 40) (by simp)))
  have HZ := Lib.hid (heap_new (w := ((w.alloc (.cells #[.int .i64 f.ver, .slice A n c] 38)).alloc (.cells #[.int .i64 g.ver, .slice G ng cg] 38)).alloc (.cells #[.int .i64 st, .slice B m d] 40)) (b := w.heap.size + 1 + 1 + 1) (o := .cells #[.int .i64 0, .slice none 0 0] 40) (by simp))
  have HB := Lib.hid (((((Below.refl w.heap.size w).alloc (Nat.le_refl _) (.cells #[.int .i64 f.ver, .slice A n c] 38)).alloc (by simp) (.cells #[.int .i64 g.ver, .slice G ng cg] 38)).alloc (by simp; omega) (.cells #[.int .i64 st, .slice B m d] 40)).alloc (by simp; omega) (.cells #[.int .i64 0, .slice none 0 0] 40))
  have HR := Lib.hid ((((hr.alloc (.cells #[.int .i64 f.ver, .slice A n c] 38)).alloc (.cells #[.int .i64 g.ver, .slice G ng cg] 38)).alloc (.cells #[.int .i64 st, .slice B m d] 40)).alloc (.cells #[.int .i64 0, .slice none 0 0] 40)); clear hr
  have HGR := Lib.hid ((((hg.alloc (.cells #[.int .i64 f.ver, .slice A n c] 38)).alloc (.cells #[.int .i64 g.ver, .slice G ng cg] 38)).alloc (.cells #[.int .i64 st, .slice B m d] 40)).alloc (.cells #[.int .i64 0, .slice none 0 0] 40)); clear hg
  have HD := Lib.hid ((((hd.alloc (.cells #[.int .i64 f.ver, .slice A n c] 38)).alloc (.cells #[.int .i64 g.ver, .slice G ng cg] 38)).alloc (.cells #[.int .i64 st, .slice B m d] 40)).alloc (.cells #[.int .i64 0, .slice none 0 0] 40)); clear hd
  have HLm := Lib.hid HD.out.1
  have HLg := Lib.hid HGR.out.1
  have hng : ng ≤ 1048576 := by have := hokg.1; rw [HLg.out] at this; exact this
  go_enter Tryz.func61, Tryz.ntmps61
  go_wp2_with fail
  refine (runI_any _ _ _ _ _ _ f st done _ _ _ HR.out hok HD.out hm hmd).mono ?_
  rintro e w1 ⟨rfl, hb⟩
  have HX1 := Lib.hid ((hb.block _ (heap_lt HX.out)).trans HX.out)
  have HG1 := Lib.hid ((hb.block _ (heap_lt HG.out)).trans HG.out)
  have HY1 := Lib.hid ((hb.block _ (heap_lt HY.out)).trans HY.out)
  have HZ1 := Lib.hid ((hb.block _ (heap_lt HZ.out)).trans HZ.out)
  have HB1 := Lib.hid (HB.out.trans (hb.mono HB.out.size))
  have HR1 := Lib.hid (HR.out.below hb)
  have HGR1 := Lib.hid (HGR.out.below hb)
  have HD1 := Lib.hid (HD.out.below hb)
  clear hb
  cases hrun : runB f st done
  · have hfb : fitB f g st done = false := by unfold fitB; rw [hrun]; rfl
    have HE := Lib.hid (show fitR f g st done = (0, []) ∧ fitB f g st done = false from ⟨fitR_no hfb, hfb⟩)
    clear hrun hfb
    have z0 := (blk_cl (k := 0) HZ1.out rfl).1
    have z0' := (blk_cl (k := 0) HZ1.out rfl).2
    have z1 := (blk_cl (k := 1) HZ1.out rfl).1
    have z1' := (blk_cl (k := 1) HZ1.out rfl).2
    go_wp2_with fail
    have hres := set21 (u := .slice none 0 0) (set20 (u := .int .i64 0) HZ1.out)
    have e0 := (blk_cl (k := 0) hres rfl).1
    have e1 := (blk_cl (k := 1) hres rfl).1
    exact bodyPost_ret (v := .tuple #[.agg #[.int .i64 0, .slice none 0 0], .bool false]) (by simp [results, Tryz.results61, go_sem, e0, e1]) rfl ⟨none, 0, 0, by rw [HE.out.1, HE.out.2], by rw [HE.out.1]; exact own_nil, (HB1.out.setCell (p := ⟨w.heap.size + 1 + 1 + 1, 0, none⟩) (by show w.heap.size ≤ w.heap.size + 1 + 1 + 1; omega) _).setCell (p := ⟨w.heap.size + 1 + 1 + 1, 1, none⟩) (by show w.heap.size ≤ w.heap.size + 1 + 1 + 1; omega) _⟩
  have x0 := (blk_cl (k := 0) HX1.out rfl).1
  have x1 := (blk_cl (k := 1) HX1.out rfl).1
  have g0 := (blk_cl (k := 0) HG1.out rfl).1
  have g1 := (blk_cl (k := 1) HG1.out rfl).1
  have y0 := (blk_cl (k := 0) HY1.out rfl).1
  have y1 := (blk_cl (k := 1) HY1.out rfl).1
  go_wp2_with fail
  refine (flowI_any _ _ _ g _ _ HGR1.out hokg).mono ?_
  rintro e w2 ⟨rfl, hb⟩
  have HX2 := Lib.hid ((hb.block _ (heap_lt HX1.out)).trans HX1.out)
  have HG2 := Lib.hid ((hb.block _ (heap_lt HG1.out)).trans HG1.out)
  have HY2 := Lib.hid ((hb.block _ (heap_lt HY1.out)).trans HY1.out)
  have HZ2 := Lib.hid ((hb.block _ (heap_lt HZ1.out)).trans HZ1.out)
  have HB2 := Lib.hid (HB1.out.trans (hb.mono HB1.out.size))
  have HR2 := Lib.hid (HR1.out.below hb)
  have HGR2 := Lib.hid (HGR1.out.below hb)
  have HD2 := Lib.hid (HD1.out.below hb)
  clear hb
  clear x0 x1 g0 g1 y0 y1
  cases hfg : flowB g
  · have hfb : fitB f g st done = false := by unfold fitB; rw [hrun, hfg]; rfl
    have HE := Lib.hid (show fitR f g st done = (0, []) ∧ fitB f g st done = false from ⟨fitR_no hfb, hfb⟩)
    clear hrun hfb hfg
    have z0 := (blk_cl (k := 0) HZ2.out rfl).1
    have z0' := (blk_cl (k := 0) HZ2.out rfl).2
    have z1 := (blk_cl (k := 1) HZ2.out rfl).1
    have z1' := (blk_cl (k := 1) HZ2.out rfl).2
    go_wp2_with fail
    have hres := set21 (u := .slice none 0 0) (set20 (u := .int .i64 0) HZ2.out)
    have e0 := (blk_cl (k := 0) hres rfl).1
    have e1 := (blk_cl (k := 1) hres rfl).1
    exact bodyPost_ret (v := .tuple #[.agg #[.int .i64 0, .slice none 0 0], .bool false]) (by simp [results, Tryz.results61, go_sem, e0, e1]) rfl ⟨none, 0, 0, by rw [HE.out.1, HE.out.2], by rw [HE.out.1]; exact own_nil, (HB2.out.setCell (p := ⟨w.heap.size + 1 + 1 + 1, 0, none⟩) (by show w.heap.size ≤ w.heap.size + 1 + 1 + 1; omega) _).setCell (p := ⟨w.heap.size + 1 + 1 + 1, 1, none⟩) (by show w.heap.size ≤ w.heap.size + 1 + 1 + 1; omega) _⟩
  have x0 := (blk_cl (k := 0) HX2.out rfl).1
  have x1 := (blk_cl (k := 1) HX2.out rfl).1
  have g0 := (blk_cl (k := 0) HG2.out rfl).1
  have g1 := (blk_cl (k := 1) HG2.out rfl).1
  have y0 := (blk_cl (k := 0) HY2.out rfl).1
  have y1 := (blk_cl (k := 1) HY2.out rfl).1
  go_wp2_with fail
  refine (bad_any _ _ _ _ _ _ g.ver g.steps done _ _ _ HGR2.out hokg HD2.out hm hmd).mono ?_
  rintro e w3 ⟨s3, rfl, hb⟩
  have HX3 := Lib.hid ((hb.block _ (heap_lt HX2.out)).trans HX2.out)
  have HG3 := Lib.hid ((hb.block _ (heap_lt HG2.out)).trans HG2.out)
  have HY3 := Lib.hid ((hb.block _ (heap_lt HY2.out)).trans HY2.out)
  have HZ3 := Lib.hid ((hb.block _ (heap_lt HZ2.out)).trans HZ2.out)
  have HB3 := Lib.hid (HB2.out.trans (hb.mono HB2.out.size))
  have HR3 := Lib.hid (HR2.out.below hb)
  have HGR3 := Lib.hid (HGR2.out.below hb)
  have HD3 := Lib.hid (HD2.out.below hb)
  clear hb
  clear x0 x1 g0 g1 y0 y1
  cases ho : ordB g.steps done
  · have hfb : fitB f g st done = false := by unfold fitB; rw [hrun, hfg, ho]; rfl
    have HE := Lib.hid (show fitR f g st done = (0, []) ∧ fitB f g st done = false from ⟨fitR_no hfb, hfb⟩)
    clear hrun hfb hfg ho
    have z0 := (blk_cl (k := 0) HZ3.out rfl).1
    have z0' := (blk_cl (k := 0) HZ3.out rfl).2
    have z1 := (blk_cl (k := 1) HZ3.out rfl).1
    have z1' := (blk_cl (k := 1) HZ3.out rfl).2
    go_wp2_with fail
    have hres := set21 (u := .slice none 0 0) (set20 (u := .int .i64 0) HZ3.out)
    have e0 := (blk_cl (k := 0) hres rfl).1
    have e1 := (blk_cl (k := 1) hres rfl).1
    exact bodyPost_ret (v := .tuple #[.agg #[.int .i64 0, .slice none 0 0], .bool false]) (by simp [results, Tryz.results61, go_sem, e0, e1]) rfl ⟨none, 0, 0, by rw [HE.out.1, HE.out.2], by rw [HE.out.1]; exact own_nil, (HB3.out.setCell (p := ⟨w.heap.size + 1 + 1 + 1, 0, none⟩) (by show w.heap.size ≤ w.heap.size + 1 + 1 + 1; omega) _).setCell (p := ⟨w.heap.size + 1 + 1 + 1, 1, none⟩) (by show w.heap.size ≤ w.heap.size + 1 + 1 + 1; omega) _⟩
  have x0 := (blk_cl (k := 0) HX3.out rfl).1
  have x1 := (blk_cl (k := 1) HX3.out rfl).1
  have g0 := (blk_cl (k := 0) HG3.out rfl).1
  have g1 := (blk_cl (k := 1) HG3.out rfl).1
  have y0 := (blk_cl (k := 0) HY3.out rfl).1
  have y1 := (blk_cl (k := 1) HY3.out rfl).1
  go_wp2_with fail
  refine (cloneNames_any _ _ _ done _ _ HD3.out hm).mono ?_
  rintro e w4 ⟨v4, rfl, how4⟩
  have hb := how4.below
  obtain ⟨A4, c4, rfl, hrs4⟩ := own_str how4.row
  have HROW := Lib.hid how4.row; clear how4
  have HRS := Lib.hid hrs4; clear hrs4
  have HBASE := Lib.hid HB3.out.size
  have HX4 := Lib.hid ((hb.block _ (heap_lt HX3.out)).trans HX3.out)
  have HG4 := Lib.hid ((hb.block _ (heap_lt HG3.out)).trans HG3.out)
  have HY4 := Lib.hid ((hb.block _ (heap_lt HY3.out)).trans HY3.out)
  have HZ4 := Lib.hid ((hb.block _ (heap_lt HZ3.out)).trans HZ3.out)
  have HB4 := Lib.hid (HB3.out.trans (hb.mono HB3.out.size))
  have HR4 := Lib.hid (HR3.out.below hb)
  have HGR4 := Lib.hid (HGR3.out.below hb)
  have HD4 := Lib.hid (HD3.out.below hb)
  clear hb
  clear x0 x1 g0 g1 y0 y1
  have hst := run_state hrun
  have hall : ∀ j, j < m → hasB (namesOf g.steps) (nth done j) = true := fun j hj => ord_all ho j (by rw [HLm.out]; exact hj)
  have HALL := Lib.hid hall; clear hall
  by_cases hs : st = 0 ∨ st = 2
  · have hfb : fitB f g st done = true := by unfold fitB; rw [hrun, hfg, ho]; rcases hs with rfl | rfl <;> simp
    have HE := Lib.hid (show fitR f g st done = (forthI m ng, done) ∧ fitB f g st done = true from ⟨by rw [fitR_yes hfb, if_pos hs, HLm.out, HLg.out], hfb⟩)
    clear hrun hfb hfg ho hst
    have x0 := (blk_cl (k := 0) HX4.out rfl).1
    have x1 := (blk_cl (k := 1) HX4.out rfl).1
    have g0 := (blk_cl (k := 0) HG4.out rfl).1
    have g1 := (blk_cl (k := 1) HG4.out rfl).1
    have y0 := (blk_cl (k := 0) HY4.out rfl).1
    have y1 := (blk_cl (k := 1) HY4.out rfl).1
    rcases hs with rfl | rfl
    · go_wp2_with fail
      refine (forth_any _ _ _ _ _ _ g.ver _).mono ?_
      rintro e w5 ⟨rfl, hb⟩
      have HROW5 := Lib.hid (row_below HROW.out hb)
      have HX5 := Lib.hid ((hb.block _ (heap_lt HX4.out)).trans HX4.out)
      have HG5 := Lib.hid ((hb.block _ (heap_lt HG4.out)).trans HG4.out)
      have HY5 := Lib.hid ((hb.block _ (heap_lt HY4.out)).trans HY4.out)
      have HZ5 := Lib.hid ((hb.block _ (heap_lt HZ4.out)).trans HZ4.out)
      have HB5 := Lib.hid (HB4.out.trans (hb.mono HB4.out.size))
      have HR5 := Lib.hid (HR4.out.below hb)
      have HGR5 := Lib.hid (HGR4.out.below hb)
      have HD5 := Lib.hid (HD4.out.below hb)
      clear hb
      clear x0 x1 g0 g1 y0 y1
      generalize forthI m ng = zz at *
      have z0 := (blk_cl (k := 0) HZ5.out rfl).1
      have z0' := (blk_cl (k := 0) HZ5.out rfl).2
      have z1 := (blk_cl (k := 1) HZ5.out rfl).1
      have z1' := (blk_cl (k := 1) HZ5.out rfl).2
      go_wp2_with fail
      have hres := set21 (u := .slice A4 m c4) (set20 (u := .int .i64 zz) HZ5.out)
      have e0 := (blk_cl (k := 0) hres rfl).1
      have e1 := (blk_cl (k := 1) hres rfl).1
      exact bodyPost_ret (v := .tuple #[.agg #[.int .i64 zz, .slice A4 m c4], .bool true]) (by simp [results, Tryz.results61, go_sem, e0, e1]) rfl ⟨_, _, _, by rw [HE.out.1, HE.out.2], by rw [HE.out.1]; exact row_mono (row_set (row_set HROW5.out HZ5.out (by decide)) (set20 HZ5.out) (by decide)) HBASE.out, (HB5.out.setCell (p := ⟨w.heap.size + 1 + 1 + 1, 0, none⟩) (by show w.heap.size ≤ w.heap.size + 1 + 1 + 1; omega) _).setCell (p := ⟨w.heap.size + 1 + 1 + 1, 1, none⟩) (by show w.heap.size ≤ w.heap.size + 1 + 1 + 1; omega) _⟩
    · go_wp2_with fail
      refine (forth_any _ _ _ _ _ _ g.ver _).mono ?_
      rintro e w5 ⟨rfl, hb⟩
      have HROW5 := Lib.hid (row_below HROW.out hb)
      have HX5 := Lib.hid ((hb.block _ (heap_lt HX4.out)).trans HX4.out)
      have HG5 := Lib.hid ((hb.block _ (heap_lt HG4.out)).trans HG4.out)
      have HY5 := Lib.hid ((hb.block _ (heap_lt HY4.out)).trans HY4.out)
      have HZ5 := Lib.hid ((hb.block _ (heap_lt HZ4.out)).trans HZ4.out)
      have HB5 := Lib.hid (HB4.out.trans (hb.mono HB4.out.size))
      have HR5 := Lib.hid (HR4.out.below hb)
      have HGR5 := Lib.hid (HGR4.out.below hb)
      have HD5 := Lib.hid (HD4.out.below hb)
      clear hb
      clear x0 x1 g0 g1 y0 y1
      generalize forthI m ng = zz at *
      have z0 := (blk_cl (k := 0) HZ5.out rfl).1
      have z0' := (blk_cl (k := 0) HZ5.out rfl).2
      have z1 := (blk_cl (k := 1) HZ5.out rfl).1
      have z1' := (blk_cl (k := 1) HZ5.out rfl).2
      go_wp2_with fail
      have hres := set21 (u := .slice A4 m c4) (set20 (u := .int .i64 zz) HZ5.out)
      have e0 := (blk_cl (k := 0) hres rfl).1
      have e1 := (blk_cl (k := 1) hres rfl).1
      exact bodyPost_ret (v := .tuple #[.agg #[.int .i64 zz, .slice A4 m c4], .bool true]) (by simp [results, Tryz.results61, go_sem, e0, e1]) rfl ⟨_, _, _, by rw [HE.out.1, HE.out.2], by rw [HE.out.1]; exact row_mono (row_set (row_set HROW5.out HZ5.out (by decide)) (set20 HZ5.out) (by decide)) HBASE.out, (HB5.out.setCell (p := ⟨w.heap.size + 1 + 1 + 1, 0, none⟩) (by show w.heap.size ≤ w.heap.size + 1 + 1 + 1; omega) _).setCell (p := ⟨w.heap.size + 1 + 1 + 1, 1, none⟩) (by show w.heap.size ≤ w.heap.size + 1 + 1 + 1; omega) _⟩
  · have q0 : (st == 0) = false := by rw [beq_eq_false_iff_ne]; omega
    have q2 : (st == 2) = false := by rw [beq_eq_false_iff_ne]; omega
    by_cases hmn : m = ng
    · have hfb : fitB f g st done = false := by
        unfold fitB
        have e0 : decide (st = 0) = false := by rw [decide_eq_false_iff_not]; omega
        have e2 : decide (st = 2) = false := by rw [decide_eq_false_iff_not]; omega
        have e3 : decide (done.length = g.steps.length) = true := by rw [decide_eq_true_iff, HLm.out, HLg.out]; exact hmn
        rw [e0, e2, e3]; simp
      have HE := Lib.hid (show fitR f g st done = (0, []) ∧ fitB f g st done = false from ⟨fitR_no hfb, hfb⟩)
      clear hrun hfb hfg ho hst hs
      have qm : ((m : Int) == (ng : Int)) = true := by rw [beq_iff_eq]; omega
      have x0 := (blk_cl (k := 0) HX4.out rfl).1
      have x1 := (blk_cl (k := 1) HX4.out rfl).1
      have g0 := (blk_cl (k := 0) HG4.out rfl).1
      have g1 := (blk_cl (k := 1) HG4.out rfl).1
      have y0 := (blk_cl (k := 0) HY4.out rfl).1
      have y1 := (blk_cl (k := 1) HY4.out rfl).1
      have z0 := (blk_cl (k := 0) HZ4.out rfl).1
      have z0' := (blk_cl (k := 0) HZ4.out rfl).2
      have z1 := (blk_cl (k := 1) HZ4.out rfl).1
      have z1' := (blk_cl (k := 1) HZ4.out rfl).2
      go_wp2_with fail
      have hres := set21 (u := .slice none 0 0) (set20 (u := .int .i64 0) HZ4.out)
      have e0 := (blk_cl (k := 0) hres rfl).1
      have e1 := (blk_cl (k := 1) hres rfl).1
      exact bodyPost_ret (v := .tuple #[.agg #[.int .i64 0, .slice none 0 0], .bool false]) (by simp [results, Tryz.results61, go_sem, e0, e1]) rfl ⟨none, 0, 0, by rw [HE.out.1, HE.out.2], by rw [HE.out.1]; exact own_nil, (HB4.out.setCell (p := ⟨w.heap.size + 1 + 1 + 1, 0, none⟩) (by show w.heap.size ≤ w.heap.size + 1 + 1 + 1; omega) _).setCell (p := ⟨w.heap.size + 1 + 1 + 1, 1, none⟩) (by show w.heap.size ≤ w.heap.size + 1 + 1 + 1; omega) _⟩
    · have hfb : fitB f g st done = true := by
        unfold fitB
        have e3 : decide (done.length = g.steps.length) = false := by rw [decide_eq_false_iff_not, HLm.out, HLg.out]; exact hmn
        rw [hrun, hfg, ho, e3]; simp
      have HE := Lib.hid (show fitR f g st done = (backI g.steps done m, done) ∧ fitB f g st done = true from ⟨by rw [fitR_yes hfb, if_neg hs, HLm.out], hfb⟩)
      have qm : ((m : Int) == (ng : Int)) = false := by rw [beq_eq_false_iff_ne]; omega
      clear hrun hfb hfg ho hst hs
      have x0 := (blk_cl (k := 0) HX4.out rfl).1
      have x1 := (blk_cl (k := 1) HX4.out rfl).1
      have g0 := (blk_cl (k := 0) HG4.out rfl).1
      have g1 := (blk_cl (k := 1) HG4.out rfl).1
      have y0 := (blk_cl (k := 0) HY4.out rfl).1
      have y1 := (blk_cl (k := 1) HY4.out rfl).1
      go_wp2_with fail
      refine (back_any _ _ _ _ _ _ g.ver g.steps done _ _ _ HGR4.out hng HRS.out hm HALL.out).mono ?_
      rintro e w5 ⟨rfl, hb⟩
      have HROW5 := Lib.hid (row_below HROW.out hb)
      have HX5 := Lib.hid ((hb.block _ (heap_lt HX4.out)).trans HX4.out)
      have HG5 := Lib.hid ((hb.block _ (heap_lt HG4.out)).trans HG4.out)
      have HY5 := Lib.hid ((hb.block _ (heap_lt HY4.out)).trans HY4.out)
      have HZ5 := Lib.hid ((hb.block _ (heap_lt HZ4.out)).trans HZ4.out)
      have HB5 := Lib.hid (HB4.out.trans (hb.mono HB4.out.size))
      have HR5 := Lib.hid (HR4.out.below hb)
      have HGR5 := Lib.hid (HGR4.out.below hb)
      have HD5 := Lib.hid (HD4.out.below hb)
      clear hb
      clear x0 x1 g0 g1 y0 y1
      generalize backI g.steps done m = zz at *
      have z0 := (blk_cl (k := 0) HZ5.out rfl).1
      have z0' := (blk_cl (k := 0) HZ5.out rfl).2
      have z1 := (blk_cl (k := 1) HZ5.out rfl).1
      have z1' := (blk_cl (k := 1) HZ5.out rfl).2
      go_wp2_with fail
      have hres := set21 (u := .slice A4 m c4) (set20 (u := .int .i64 zz) HZ5.out)
      have e0 := (blk_cl (k := 0) hres rfl).1
      have e1 := (blk_cl (k := 1) hres rfl).1
      exact bodyPost_ret (v := .tuple #[.agg #[.int .i64 zz, .slice A4 m c4], .bool true]) (by simp [results, Tryz.results61, go_sem, e0, e1]) rfl ⟨_, _, _, by rw [HE.out.1, HE.out.2], by rw [HE.out.1]; exact row_mono (row_set (row_set HROW5.out HZ5.out (by decide)) (set20 HZ5.out) (by decide)) HBASE.out, (HB5.out.setCell (p := ⟨w.heap.size + 1 + 1 + 1, 0, none⟩) (by show w.heap.size ≤ w.heap.size + 1 + 1 + 1; omega) _).setCell (p := ⟨w.heap.size + 1 + 1 + 1, 1, none⟩) (by show w.heap.size ≤ w.heap.size + 1 + 1 + 1; omega) _⟩

set_option maxRecDepth 100000 in
set_option maxHeartbeats 2000000 in
theorem fitS_any (A G B : Option Addr) (n c ng cg m d : Nat) (f g : Flow) (st : Int) (done : List Str) (lo log lo' : Nat) (w : World) (hr : RStep w lo A n f.steps) (hok : okSteps f.steps) (hg : RStep w log G ng g.steps) (hokg : okSteps g.steps) (hd : RStr w lo' B m done) (hm : m ≤ 1048576) (hmd : m ≤ d) :
    Calls Tryz.prog 82 #[.agg #[.int .i64 f.ver, .slice A n c], .agg #[.int .i64 g.ver, .slice G ng cg], .agg #[.int .i64 st, .slice B m d]] w fun e w' => ∃ B' n' d', e = .returned (.tuple #[.agg #[.int .i64 (fitR f g st done).1, .slice B' n' d'], .bool (fitB f g st done)]) ∧
      w'.ownsRow w.heap.size 9 1 (.slice B' n' d') n' ((fitR f g st done).2.map Value.string) ∧ Below w.heap.size w w' := by
  have HX := Lib.hid (heap_old (o := .cells #[.int .i64 0, .slice none 0 0] 40) (heap_old (o := .cells #[.int .i64 st, .slice B m d] 40) (heap_old (o := .cells #[.int .i64 g.ver, .slice G ng cg] 38) (heap_new (w := w) (o := .cells #[.int .i64 f.ver, .slice A n c] 38) rfl))))
  have HG := Lib.hid (heap_old (o := .cells #[.int .i64 0, .slice none 0 0] 40) (heap_old (o := .cells #[.int .i64 st, .slice B m d] 40) (heap_new (w := w.alloc (.cells #[.int .i64 f.ver, .slice A n c] 38)) (b := w.heap.size + 1) (o := .cells #[.int .i64 g.ver, .slice G ng cg] 38) (by simp))))
  have HY := Lib.hid (heap_old (o := .cells #[.int .i64 0, .slice none 0 0] 40) (heap_new (w := (w.alloc (.cells #[.int .i64 f.ver, .slice A n c] 38)).alloc (.cells #[.int .i64 g.ver, .slice G ng cg] 38)) (b := w.heap.size + 1 + 1) (o := .cells #[.int .i64 st, .slice B m d] 40) (by simp)))
  have HZ := Lib.hid (heap_new (w := ((w.alloc (.cells #[.int .i64 f.ver, .slice A n c] 38)).alloc (.cells #[.int .i64 g.ver, .slice G ng cg] 38)).alloc (.cells #[.int .i64 st, .slice B m d] 40)) (b := w.heap.size + 1 + 1 + 1) (o := .cells #[.int .i64 0, .slice none 0 0] 40) (by simp))
  have HB := Lib.hid (((((Below.refl w.heap.size w).alloc (Nat.le_refl _) (.cells #[.int .i64 f.ver, .slice A n c] 38)).alloc (by simp) (.cells #[.int .i64 g.ver, .slice G ng cg] 38)).alloc (by simp; omega) (.cells #[.int .i64 st, .slice B m d] 40)).alloc (by simp; omega) (.cells #[.int .i64 0, .slice none 0 0] 40))
  have HR := Lib.hid ((((hr.alloc (.cells #[.int .i64 f.ver, .slice A n c] 38)).alloc (.cells #[.int .i64 g.ver, .slice G ng cg] 38)).alloc (.cells #[.int .i64 st, .slice B m d] 40)).alloc (.cells #[.int .i64 0, .slice none 0 0] 40)); clear hr
  have HGR := Lib.hid ((((hg.alloc (.cells #[.int .i64 f.ver, .slice A n c] 38)).alloc (.cells #[.int .i64 g.ver, .slice G ng cg] 38)).alloc (.cells #[.int .i64 st, .slice B m d] 40)).alloc (.cells #[.int .i64 0, .slice none 0 0] 40)); clear hg
  have HD := Lib.hid ((((hd.alloc (.cells #[.int .i64 f.ver, .slice A n c] 38)).alloc (.cells #[.int .i64 g.ver, .slice G ng cg] 38)).alloc (.cells #[.int .i64 st, .slice B m d] 40)).alloc (.cells #[.int .i64 0, .slice none 0 0] 40)); clear hd
  have HLm := Lib.hid HD.out.1
  have HLg := Lib.hid HGR.out.1
  have hng : ng ≤ 1048576 := by have := hokg.1; rw [HLg.out] at this; exact this
  go_enter Tryz.func82, Tryz.ntmps82
  go_wp2_with fail
  refine (runS_any _ _ _ _ _ _ f st done _ _ _ HR.out hok HD.out hm hmd).mono ?_
  rintro e w1 ⟨rfl, hb⟩
  have HX1 := Lib.hid ((hb.block _ (heap_lt HX.out)).trans HX.out)
  have HG1 := Lib.hid ((hb.block _ (heap_lt HG.out)).trans HG.out)
  have HY1 := Lib.hid ((hb.block _ (heap_lt HY.out)).trans HY.out)
  have HZ1 := Lib.hid ((hb.block _ (heap_lt HZ.out)).trans HZ.out)
  have HB1 := Lib.hid (HB.out.trans (hb.mono HB.out.size))
  have HR1 := Lib.hid (HR.out.below hb)
  have HGR1 := Lib.hid (HGR.out.below hb)
  have HD1 := Lib.hid (HD.out.below hb)
  clear hb
  cases hrun : runB f st done
  · have hfb : fitB f g st done = false := by unfold fitB; rw [hrun]; rfl
    have HE := Lib.hid (show fitR f g st done = (0, []) ∧ fitB f g st done = false from ⟨fitR_no hfb, hfb⟩)
    clear hrun hfb
    have z0 := (blk_cl (k := 0) HZ1.out rfl).1
    have z0' := (blk_cl (k := 0) HZ1.out rfl).2
    have z1 := (blk_cl (k := 1) HZ1.out rfl).1
    have z1' := (blk_cl (k := 1) HZ1.out rfl).2
    go_wp2_with fail
    have hres := set21 (u := .slice none 0 0) (set20 (u := .int .i64 0) HZ1.out)
    have e0 := (blk_cl (k := 0) hres rfl).1
    have e1 := (blk_cl (k := 1) hres rfl).1
    exact bodyPost_ret (v := .tuple #[.agg #[.int .i64 0, .slice none 0 0], .bool false]) (by simp [results, Tryz.results82, go_sem, e0, e1]) rfl ⟨none, 0, 0, by rw [HE.out.1, HE.out.2], by rw [HE.out.1]; exact own_nil, (HB1.out.setCell (p := ⟨w.heap.size + 1 + 1 + 1, 0, none⟩) (by show w.heap.size ≤ w.heap.size + 1 + 1 + 1; omega) _).setCell (p := ⟨w.heap.size + 1 + 1 + 1, 1, none⟩) (by show w.heap.size ≤ w.heap.size + 1 + 1 + 1; omega) _⟩
  have x0 := (blk_cl (k := 0) HX1.out rfl).1
  have x1 := (blk_cl (k := 1) HX1.out rfl).1
  have g0 := (blk_cl (k := 0) HG1.out rfl).1
  have g1 := (blk_cl (k := 1) HG1.out rfl).1
  have y0 := (blk_cl (k := 0) HY1.out rfl).1
  have y1 := (blk_cl (k := 1) HY1.out rfl).1
  go_wp2_with fail
  refine (flowS_any _ _ _ g _ _ HGR1.out hokg).mono ?_
  rintro e w2 ⟨rfl, hb⟩
  have HX2 := Lib.hid ((hb.block _ (heap_lt HX1.out)).trans HX1.out)
  have HG2 := Lib.hid ((hb.block _ (heap_lt HG1.out)).trans HG1.out)
  have HY2 := Lib.hid ((hb.block _ (heap_lt HY1.out)).trans HY1.out)
  have HZ2 := Lib.hid ((hb.block _ (heap_lt HZ1.out)).trans HZ1.out)
  have HB2 := Lib.hid (HB1.out.trans (hb.mono HB1.out.size))
  have HR2 := Lib.hid (HR1.out.below hb)
  have HGR2 := Lib.hid (HGR1.out.below hb)
  have HD2 := Lib.hid (HD1.out.below hb)
  clear hb
  clear x0 x1 g0 g1 y0 y1
  cases hfg : flowB g
  · have hfb : fitB f g st done = false := by unfold fitB; rw [hrun, hfg]; rfl
    have HE := Lib.hid (show fitR f g st done = (0, []) ∧ fitB f g st done = false from ⟨fitR_no hfb, hfb⟩)
    clear hrun hfb hfg
    have z0 := (blk_cl (k := 0) HZ2.out rfl).1
    have z0' := (blk_cl (k := 0) HZ2.out rfl).2
    have z1 := (blk_cl (k := 1) HZ2.out rfl).1
    have z1' := (blk_cl (k := 1) HZ2.out rfl).2
    go_wp2_with fail
    have hres := set21 (u := .slice none 0 0) (set20 (u := .int .i64 0) HZ2.out)
    have e0 := (blk_cl (k := 0) hres rfl).1
    have e1 := (blk_cl (k := 1) hres rfl).1
    exact bodyPost_ret (v := .tuple #[.agg #[.int .i64 0, .slice none 0 0], .bool false]) (by simp [results, Tryz.results82, go_sem, e0, e1]) rfl ⟨none, 0, 0, by rw [HE.out.1, HE.out.2], by rw [HE.out.1]; exact own_nil, (HB2.out.setCell (p := ⟨w.heap.size + 1 + 1 + 1, 0, none⟩) (by show w.heap.size ≤ w.heap.size + 1 + 1 + 1; omega) _).setCell (p := ⟨w.heap.size + 1 + 1 + 1, 1, none⟩) (by show w.heap.size ≤ w.heap.size + 1 + 1 + 1; omega) _⟩
  have x0 := (blk_cl (k := 0) HX2.out rfl).1
  have x1 := (blk_cl (k := 1) HX2.out rfl).1
  have g0 := (blk_cl (k := 0) HG2.out rfl).1
  have g1 := (blk_cl (k := 1) HG2.out rfl).1
  have y0 := (blk_cl (k := 0) HY2.out rfl).1
  have y1 := (blk_cl (k := 1) HY2.out rfl).1
  go_wp2_with fail
  refine (l3Order_any _ _ _ _ _ _ g.steps done _ _ _ HGR2.out hokg HD2.out hm hmd).mono ?_
  rintro e w3 ⟨rfl, q3, hq3⟩
  have hb : Below w2.heap.size w2 w3 := by rw [hq3]; exact below_drewN (Below.refl _ _) _
  clear hq3
  have HX3 := Lib.hid ((hb.block _ (heap_lt HX2.out)).trans HX2.out)
  have HG3 := Lib.hid ((hb.block _ (heap_lt HG2.out)).trans HG2.out)
  have HY3 := Lib.hid ((hb.block _ (heap_lt HY2.out)).trans HY2.out)
  have HZ3 := Lib.hid ((hb.block _ (heap_lt HZ2.out)).trans HZ2.out)
  have HB3 := Lib.hid (HB2.out.trans (hb.mono HB2.out.size))
  have HR3 := Lib.hid (HR2.out.below hb)
  have HGR3 := Lib.hid (HGR2.out.below hb)
  have HD3 := Lib.hid (HD2.out.below hb)
  clear hb
  clear x0 x1 g0 g1 y0 y1
  cases ho : ordB g.steps done
  · have hfb : fitB f g st done = false := by unfold fitB; rw [hrun, hfg, ho]; rfl
    have HE := Lib.hid (show fitR f g st done = (0, []) ∧ fitB f g st done = false from ⟨fitR_no hfb, hfb⟩)
    clear hrun hfb hfg ho
    have z0 := (blk_cl (k := 0) HZ3.out rfl).1
    have z0' := (blk_cl (k := 0) HZ3.out rfl).2
    have z1 := (blk_cl (k := 1) HZ3.out rfl).1
    have z1' := (blk_cl (k := 1) HZ3.out rfl).2
    go_wp2_with fail
    have hres := set21 (u := .slice none 0 0) (set20 (u := .int .i64 0) HZ3.out)
    have e0 := (blk_cl (k := 0) hres rfl).1
    have e1 := (blk_cl (k := 1) hres rfl).1
    exact bodyPost_ret (v := .tuple #[.agg #[.int .i64 0, .slice none 0 0], .bool false]) (by simp [results, Tryz.results82, go_sem, e0, e1]) rfl ⟨none, 0, 0, by rw [HE.out.1, HE.out.2], by rw [HE.out.1]; exact own_nil, (HB3.out.setCell (p := ⟨w.heap.size + 1 + 1 + 1, 0, none⟩) (by show w.heap.size ≤ w.heap.size + 1 + 1 + 1; omega) _).setCell (p := ⟨w.heap.size + 1 + 1 + 1, 1, none⟩) (by show w.heap.size ≤ w.heap.size + 1 + 1 + 1; omega) _⟩
  have hst := run_state hrun
  have HORD := Lib.hid ho
  have HBASE := Lib.hid HB3.out.size
  by_cases hs : st = 1 ∨ st = 3
  · by_cases hmn : m = ng
    · have hfb : fitB f g st done = false := by
        unfold fitB
        have e0 : decide (st = 0) = false := by rw [decide_eq_false_iff_not]; omega
        have e2 : decide (st = 2) = false := by rw [decide_eq_false_iff_not]; omega
        have e3 : decide (done.length = g.steps.length) = true := by rw [decide_eq_true_iff, HLm.out, HLg.out]; exact hmn
        rw [e0, e2, e3]; simp
      have HE := Lib.hid (show fitR f g st done = (0, []) ∧ fitB f g st done = false from ⟨fitR_no hfb, hfb⟩)
      clear hrun hfb hfg ho hst
      have qm : ((m : Int) == (ng : Int)) = true := by rw [beq_iff_eq]; omega
      have x0 := (blk_cl (k := 0) HX3.out rfl).1
      have x1 := (blk_cl (k := 1) HX3.out rfl).1
      have g0 := (blk_cl (k := 0) HG3.out rfl).1
      have g1 := (blk_cl (k := 1) HG3.out rfl).1
      have y0 := (blk_cl (k := 0) HY3.out rfl).1
      have y1 := (blk_cl (k := 1) HY3.out rfl).1
      rcases hs with rfl | rfl
      · have z0 := (blk_cl (k := 0) HZ3.out rfl).1
        have z0' := (blk_cl (k := 0) HZ3.out rfl).2
        have z1 := (blk_cl (k := 1) HZ3.out rfl).1
        have z1' := (blk_cl (k := 1) HZ3.out rfl).2
        go_wp2_with fail
        have hres := set21 (u := .slice none 0 0) (set20 (u := .int .i64 0) HZ3.out)
        have e0 := (blk_cl (k := 0) hres rfl).1
        have e1 := (blk_cl (k := 1) hres rfl).1
        exact bodyPost_ret (v := .tuple #[.agg #[.int .i64 0, .slice none 0 0], .bool false]) (by simp [results, Tryz.results82, go_sem, e0, e1]) rfl ⟨none, 0, 0, by rw [HE.out.1, HE.out.2], by rw [HE.out.1]; exact own_nil, (HB3.out.setCell (p := ⟨w.heap.size + 1 + 1 + 1, 0, none⟩) (by show w.heap.size ≤ w.heap.size + 1 + 1 + 1; omega) _).setCell (p := ⟨w.heap.size + 1 + 1 + 1, 1, none⟩) (by show w.heap.size ≤ w.heap.size + 1 + 1 + 1; omega) _⟩
      · have z0 := (blk_cl (k := 0) HZ3.out rfl).1
        have z0' := (blk_cl (k := 0) HZ3.out rfl).2
        have z1 := (blk_cl (k := 1) HZ3.out rfl).1
        have z1' := (blk_cl (k := 1) HZ3.out rfl).2
        go_wp2_with fail
        have hres := set21 (u := .slice none 0 0) (set20 (u := .int .i64 0) HZ3.out)
        have e0 := (blk_cl (k := 0) hres rfl).1
        have e1 := (blk_cl (k := 1) hres rfl).1
        exact bodyPost_ret (v := .tuple #[.agg #[.int .i64 0, .slice none 0 0], .bool false]) (by simp [results, Tryz.results82, go_sem, e0, e1]) rfl ⟨none, 0, 0, by rw [HE.out.1, HE.out.2], by rw [HE.out.1]; exact own_nil, (HB3.out.setCell (p := ⟨w.heap.size + 1 + 1 + 1, 0, none⟩) (by show w.heap.size ≤ w.heap.size + 1 + 1 + 1; omega) _).setCell (p := ⟨w.heap.size + 1 + 1 + 1, 1, none⟩) (by show w.heap.size ≤ w.heap.size + 1 + 1 + 1; omega) _⟩
    · have hfb : fitB f g st done = true := by
        unfold fitB
        have e3 : decide (done.length = g.steps.length) = false := by rw [decide_eq_false_iff_not, HLm.out, HLg.out]; exact hmn
        rw [hrun, hfg, ho, e3]; simp
      have HE := Lib.hid (show fitR f g st done = (backI g.steps done m, done) ∧ fitB f g st done = true from ⟨by rw [fitR_yes hfb, if_neg (by omega), HLm.out], hfb⟩)
      have qm : ((m : Int) == (ng : Int)) = false := by rw [beq_eq_false_iff_ne]; omega
      clear hrun hfb hfg ho hst
      have x0 := (blk_cl (k := 0) HX3.out rfl).1
      have x1 := (blk_cl (k := 1) HX3.out rfl).1
      have g0 := (blk_cl (k := 0) HG3.out rfl).1
      have g1 := (blk_cl (k := 1) HG3.out rfl).1
      have y0 := (blk_cl (k := 0) HY3.out rfl).1
      have y1 := (blk_cl (k := 1) HY3.out rfl).1
      rcases hs with rfl | rfl
      · go_wp2_with fail
        refine (backS_any _ _ _ _ _ _ g done _ _ _ HGR3.out hokg HD3.out hm HORD.out).mono ?_
        rintro e w5 ⟨A4, c4, rfl, ho5, hb⟩
        have HROW5 := Lib.hid ho5; clear ho5
        have HX5 := Lib.hid ((hb.block _ (heap_lt HX3.out)).trans HX3.out)
        have HG5 := Lib.hid ((hb.block _ (heap_lt HG3.out)).trans HG3.out)
        have HY5 := Lib.hid ((hb.block _ (heap_lt HY3.out)).trans HY3.out)
        have HZ5 := Lib.hid ((hb.block _ (heap_lt HZ3.out)).trans HZ3.out)
        have HB5 := Lib.hid (HB3.out.trans (hb.mono HB3.out.size))
        have HR5 := Lib.hid (HR3.out.below hb)
        have HGR5 := Lib.hid (HGR3.out.below hb)
        have HD5 := Lib.hid (HD3.out.below hb)
        clear hb
        clear x0 x1 g0 g1 y0 y1
        generalize backI g.steps done m = zz at *
        have z0 := (blk_cl (k := 0) HZ5.out rfl).1
        have z0' := (blk_cl (k := 0) HZ5.out rfl).2
        have z1 := (blk_cl (k := 1) HZ5.out rfl).1
        have z1' := (blk_cl (k := 1) HZ5.out rfl).2
        go_wp2_with fail
        have hres := set21 (u := .slice A4 m c4) (set20 (u := .int .i64 zz) HZ5.out)
        have e0 := (blk_cl (k := 0) hres rfl).1
        have e1 := (blk_cl (k := 1) hres rfl).1
        exact bodyPost_ret (v := .tuple #[.agg #[.int .i64 zz, .slice A4 m c4], .bool true]) (by simp [results, Tryz.results82, go_sem, e0, e1]) rfl ⟨_, _, _, by rw [HE.out.1, HE.out.2], by rw [HE.out.1]; exact row_mono (row_set (row_set HROW5.out HZ5.out (by decide)) (set20 HZ5.out) (by decide)) HBASE.out, (HB5.out.setCell (p := ⟨w.heap.size + 1 + 1 + 1, 0, none⟩) (by show w.heap.size ≤ w.heap.size + 1 + 1 + 1; omega) _).setCell (p := ⟨w.heap.size + 1 + 1 + 1, 1, none⟩) (by show w.heap.size ≤ w.heap.size + 1 + 1 + 1; omega) _⟩
      · go_wp2_with fail
        refine (backS_any _ _ _ _ _ _ g done _ _ _ HGR3.out hokg HD3.out hm HORD.out).mono ?_
        rintro e w5 ⟨A4, c4, rfl, ho5, hb⟩
        have HROW5 := Lib.hid ho5; clear ho5
        have HX5 := Lib.hid ((hb.block _ (heap_lt HX3.out)).trans HX3.out)
        have HG5 := Lib.hid ((hb.block _ (heap_lt HG3.out)).trans HG3.out)
        have HY5 := Lib.hid ((hb.block _ (heap_lt HY3.out)).trans HY3.out)
        have HZ5 := Lib.hid ((hb.block _ (heap_lt HZ3.out)).trans HZ3.out)
        have HB5 := Lib.hid (HB3.out.trans (hb.mono HB3.out.size))
        have HR5 := Lib.hid (HR3.out.below hb)
        have HGR5 := Lib.hid (HGR3.out.below hb)
        have HD5 := Lib.hid (HD3.out.below hb)
        clear hb
        clear x0 x1 g0 g1 y0 y1
        generalize backI g.steps done m = zz at *
        have z0 := (blk_cl (k := 0) HZ5.out rfl).1
        have z0' := (blk_cl (k := 0) HZ5.out rfl).2
        have z1 := (blk_cl (k := 1) HZ5.out rfl).1
        have z1' := (blk_cl (k := 1) HZ5.out rfl).2
        go_wp2_with fail
        have hres := set21 (u := .slice A4 m c4) (set20 (u := .int .i64 zz) HZ5.out)
        have e0 := (blk_cl (k := 0) hres rfl).1
        have e1 := (blk_cl (k := 1) hres rfl).1
        exact bodyPost_ret (v := .tuple #[.agg #[.int .i64 zz, .slice A4 m c4], .bool true]) (by simp [results, Tryz.results82, go_sem, e0, e1]) rfl ⟨_, _, _, by rw [HE.out.1, HE.out.2], by rw [HE.out.1]; exact row_mono (row_set (row_set HROW5.out HZ5.out (by decide)) (set20 HZ5.out) (by decide)) HBASE.out, (HB5.out.setCell (p := ⟨w.heap.size + 1 + 1 + 1, 0, none⟩) (by show w.heap.size ≤ w.heap.size + 1 + 1 + 1; omega) _).setCell (p := ⟨w.heap.size + 1 + 1 + 1, 1, none⟩) (by show w.heap.size ≤ w.heap.size + 1 + 1 + 1; omega) _⟩
  · have hs2 : st = 0 ∨ st = 2 := by omega
    have hfb : fitB f g st done = true := by unfold fitB; rw [hrun, hfg, ho]; rcases hs2 with rfl | rfl <;> simp
    have HE1 := Lib.hid (show fitR f g st done = (forthI m ng, done) ∧ fitB f g st done = true from ⟨by rw [fitR_yes hfb, if_pos hs2, HLm.out, HLg.out], hfb⟩)
    clear hrun hfb hfg ho hst
    have q1 : (st == 1) = false := by rw [beq_eq_false_iff_ne]; omega
    have q3 : (st == 3) = false := by rw [beq_eq_false_iff_ne]; omega
    have HN := Lib.hid (own_new (w0 := w) (b := w3.heap.size) HB3.out rfl)
    have HDA := Lib.hid (HD3.out.alloc (.cells #[] 9))
    have HZA := Lib.hid (heap_old (o := .cells #[] 9) HZ3.out)
    have hs3 := heap_lt HZ3.out
    have y1a := (blk_cl (k := 1) (heap_old (o := .cells #[] 9) HY3.out) rfl).1
    have x0 := (blk_cl (k := 0) HX3.out rfl).1
    have x1 := (blk_cl (k := 1) HX3.out rfl).1
    have g0 := (blk_cl (k := 0) HG3.out rfl).1
    have g1 := (blk_cl (k := 1) HG3.out rfl).1
    have y0 := (blk_cl (k := 0) HY3.out rfl).1
    have y1 := (blk_cl (k := 1) HY3.out rfl).1
    by_cases hmn : m = ng
    · have qm : ((m : Int) == (ng : Int)) = true := by rw [beq_iff_eq]; omega
      have HE := Lib.hid (show fitR f g st done = (2, done) ∧ fitB f g st done = true from ⟨by rw [HE1.out.1]; unfold forthI; rw [if_pos hmn], HE1.out.2⟩)
      clear hmn HE1
      go_wp2_with (at_builtin; refine apps_str w _ 0 [] _ B m d done HN.out HDA.out rfl (.tmp 49) (.tmp 51) rfl rfl rfl (by omega) ?_)
      intro v4 w4 how4 hg4
      have HZ4 := Lib.hid (grown_blk hg4 HZA.out (by simp [Value.ownBlock]; omega))
      obtain ⟨A4, c4, rfl, _⟩ := own_str how4.row
      have HO4 := Lib.hid how4.row
      have HB4 := Lib.hid how4.below
      clear how4 hg4
      have HZ5 := Lib.hid (heap_old (o := .cells #[.int .i64 2, .slice A4 m c4] 40) HZ4.out)
      have HB5 := Lib.hid (HB4.out.alloc HB4.out.size (.cells #[.int .i64 2, .slice A4 m c4] 40))
      have HROW5 := Lib.hid (HO4.out.alloc (.cells #[.int .i64 2, .slice A4 m c4] 40))
      have z0 := (blk_cl (k := 0) HZ5.out rfl).1
      have z0' := (blk_cl (k := 0) HZ5.out rfl).2
      have z1 := (blk_cl (k := 1) HZ5.out rfl).1
      have z1' := (blk_cl (k := 1) HZ5.out rfl).2
      go_wp2_with fail
      have hres := set21 (u := .slice A4 m c4) (set20 (u := .int .i64 2) HZ5.out)
      have e0 := (blk_cl (k := 0) hres rfl).1
      have e1 := (blk_cl (k := 1) hres rfl).1
      exact bodyPost_ret (v := .tuple #[.agg #[.int .i64 2, .slice A4 m c4], .bool true]) (by simp [results, Tryz.results82, go_sem, e0, e1]) rfl ⟨_, _, _, by rw [HE.out.1, HE.out.2], by rw [HE.out.1]; exact (row_set (row_set HROW5.out HZ5.out (by decide)) (set20 HZ5.out) (by decide)), (HB5.out.setCell (p := ⟨w.heap.size + 1 + 1 + 1, 0, none⟩) (by show w.heap.size ≤ w.heap.size + 1 + 1 + 1; omega) _).setCell (p := ⟨w.heap.size + 1 + 1 + 1, 1, none⟩) (by show w.heap.size ≤ w.heap.size + 1 + 1 + 1; omega) _⟩
    · have qm : ((m : Int) == (ng : Int)) = false := by rw [beq_eq_false_iff_ne]; omega
      have HE := Lib.hid (show fitR f g st done = (0, done) ∧ fitB f g st done = true from ⟨by rw [HE1.out.1]; unfold forthI; rw [if_neg hmn], HE1.out.2⟩)
      clear hmn HE1
      go_wp2_with (at_builtin; refine apps_str w _ 0 [] _ B m d done HN.out HDA.out rfl (.tmp 49) (.tmp 51) rfl rfl rfl (by omega) ?_)
      intro v4 w4 how4 hg4
      have HZ4 := Lib.hid (grown_blk hg4 HZA.out (by simp [Value.ownBlock]; omega))
      obtain ⟨A4, c4, rfl, _⟩ := own_str how4.row
      have HO4 := Lib.hid how4.row
      have HB4 := Lib.hid how4.below
      clear how4 hg4
      have HZ5 := Lib.hid (heap_old (o := .cells #[.int .i64 0, .slice A4 m c4] 40) HZ4.out)
      have HB5 := Lib.hid (HB4.out.alloc HB4.out.size (.cells #[.int .i64 0, .slice A4 m c4] 40))
      have HROW5 := Lib.hid (HO4.out.alloc (.cells #[.int .i64 0, .slice A4 m c4] 40))
      have z0 := (blk_cl (k := 0) HZ5.out rfl).1
      have z0' := (blk_cl (k := 0) HZ5.out rfl).2
      have z1 := (blk_cl (k := 1) HZ5.out rfl).1
      have z1' := (blk_cl (k := 1) HZ5.out rfl).2
      go_wp2_with fail
      have hres := set21 (u := .slice A4 m c4) (set20 (u := .int .i64 0) HZ5.out)
      have e0 := (blk_cl (k := 0) hres rfl).1
      have e1 := (blk_cl (k := 1) hres rfl).1
      exact bodyPost_ret (v := .tuple #[.agg #[.int .i64 0, .slice A4 m c4], .bool true]) (by simp [results, Tryz.results82, go_sem, e0, e1]) rfl ⟨_, _, _, by rw [HE.out.1, HE.out.2], by rw [HE.out.1]; exact (row_set (row_set HROW5.out HZ5.out (by decide)) (set20 HZ5.out) (by decide)), (HB5.out.setCell (p := ⟨w.heap.size + 1 + 1 + 1, 0, none⟩) (by show w.heap.size ≤ w.heap.size + 1 + 1 + 1; omega) _).setCell (p := ⟨w.heap.size + 1 + 1 + 1, 1, none⟩) (by show w.heap.size ≤ w.heap.size + 1 + 1 + 1; omega) _⟩
end Go.Proofs.YthdfefgianokgaaGreatDoor

/- Steps put at their place, steps taken away, flows changed. No program in sight. -/
namespace Go.Proofs.YthdfefgianokgaaGreatDoor

section
variable {α : Type} (key : α → Str)
/-- One round of putting an element at its place. -/
def putSt (x : α) (s : List α × Bool) (y : α) : List α × Bool :=
  if key y = key x then (if s.2 = false ∧ strLt (key y) (key x) = false then (s.1 ++ [x], true) else s)
  else (if s.2 = false ∧ strLt (key y) (key x) = false then (s.1 ++ [x] ++ [y], true) else (s.1 ++ [y], s.2))
def putTo (xs : List α) (x : α) (k : Nat) : List α × Bool := (xs.take k).foldl (putSt key x) ([], false)
def putR : List α → α → List α
  | [], x => [x]
  | y :: ys, x => if strLt (key y) (key x) = true then y :: putR ys x else x :: (y :: ys).filter fun z => !decide (key z = key x)
theorem putSt_lt {x y : α} {s : List α × Bool} (h : strLt (key y) (key x) = true) : putSt key x s y = (s.1 ++ [y], s.2) := by
  unfold putSt
  rw [if_neg (strLt_ne h), if_neg (by rw [h]; simp)]
theorem putSt_done {x y : α} {a : List α} : putSt key x (a, true) y = (if key y = key x then a else a ++ [y], true) := by
  unfold putSt
  by_cases h : key y = key x <;> simp [h]
theorem putSt_new {x y : α} {a : List α} (h : strLt (key y) (key x) = false) : putSt key x (a, false) y = (if key y = key x then a ++ [x] else a ++ [x] ++ [y], true) := by
  unfold putSt
  by_cases h2 : key y = key x
  · rw [if_pos h2, if_pos h2, if_pos ⟨rfl, h⟩]
  · rw [if_neg h2, if_neg h2, if_pos ⟨rfl, h⟩]
theorem fold_done {x : α} : ∀ (xs : List α) (a : List α), xs.foldl (putSt key x) (a, true) = (a ++ xs.filter (fun z => !decide (key z = key x)), true)
  | [], a => by simp
  | y :: ys, a => by
    rw [List.foldl_cons, putSt_done, fold_done ys, List.filter_cons]
    by_cases h : key y = key x <;> simp [h]
theorem fold_put {x : α} : ∀ (xs : List α) (a : List α), (if (xs.foldl (putSt key x) (a, false)).2 = true then (xs.foldl (putSt key x) (a, false)).1 else (xs.foldl (putSt key x) (a, false)).1 ++ [x]) = a ++ putR key xs x
  | [], a => by simp [putR]
  | y :: ys, a => by
    rw [List.foldl_cons]
    cases h : strLt (key y) (key x)
    · have hn : ¬ strLt (key y) (key x) = true := by rw [h]; simp
      rw [putSt_new key h, fold_done, if_pos rfl, putR, if_neg hn, List.filter_cons]
      by_cases h2 : key y = key x <;> simp [h2]
    · rw [putSt_lt key h, putR, if_pos h, fold_put ys (a ++ [y])]
      simp
theorem putTo_succ [Inhabited α] {xs : List α} {x : α} {k : Nat} (hk : k < xs.length) : putTo key xs x (k + 1) = putSt key x (putTo key xs x k) (nth xs k) := by
  unfold putTo; rw [take_nth hk, List.foldl_append]; rfl
theorem putTo_end {xs : List α} {x : α} {k : Nat} (hk : xs.length ≤ k) : putR key xs x = if (putTo key xs x k).2 = true then (putTo key xs x k).1 else (putTo key xs x k).1 ++ [x] := by
  unfold putTo
  rw [List.take_of_length_le hk]
  have := fold_put key (x := x) xs []
  rw [List.nil_append] at this
  exact this.symm
theorem putSt_len (x : α) (s : List α × Bool) (y : α) : (putSt key x s y).1.length ≤ s.1.length + 2 := by
  unfold putSt
  split <;> split <;> simp
theorem foldSt_len (x : α) : ∀ (xs : List α) (s : List α × Bool), (xs.foldl (putSt key x) s).1.length ≤ s.1.length + 2 * xs.length
  | [], s => by simp
  | y :: ys, s => by
    have h1 := putSt_len key x s y
    have h2 := foldSt_len x ys (putSt key x s y)
    rw [List.foldl_cons, List.length_cons]
    omega
theorem putTo_len (xs : List α) (x : α) (k : Nat) : (putTo key xs x k).1.length ≤ 2 * k := by
  have := foldSt_len key x (xs.take k) ([], false)
  have h2 := List.length_take_le k xs
  unfold putTo
  simp at this
  omega
theorem putR_mem {x z : α} : ∀ {xs : List α}, z ∈ putR key xs x ↔ z = x ∨ (z ∈ xs ∧ key z ≠ key x)
  | [] => by simp [putR]
  | y :: ys => by
    have ih := putR_mem (x := x) (z := z) (xs := ys)
    unfold putR
    by_cases h : strLt (key y) (key x) = true
    · rw [if_pos h, List.mem_cons, ih, List.mem_cons]
      have hne := strLt_ne h
      constructor
      · rintro (rfl | rfl | ⟨h1, h2⟩)
        · exact .inr ⟨.inl rfl, hne⟩
        · exact .inl rfl
        · exact .inr ⟨.inr h1, h2⟩
      · rintro (rfl | ⟨rfl | h1, h2⟩)
        · exact .inr (.inl rfl)
        · exact .inl rfl
        · exact .inr (.inr ⟨h1, h2⟩)
    · rw [if_neg h, List.mem_cons, List.mem_filter]
      simp
theorem putR_len {x : α} : ∀ (xs : List α), (putR key xs x).length ≤ xs.length + 1
  | [] => by simp [putR]
  | y :: ys => by
    have ih := putR_len (x := x) ys
    unfold putR
    split
    · simp; omega
    · have := List.length_filter_le (fun z => !decide (key z = key x)) (y :: ys)
      rw [List.length_cons]
      omega
theorem putR_sorted {x : α} : ∀ {xs : List α}, xs.Pairwise (fun a b => strLt (key a) (key b) = true) → (putR key xs x).Pairwise (fun a b => strLt (key a) (key b) = true)
  | [], _ => by simp [putR]
  | y :: ys, hp => by
    obtain ⟨h1, h2⟩ := List.pairwise_cons.1 hp
    have ih := putR_sorted (x := x) h2
    unfold putR
    by_cases h : strLt (key y) (key x) = true
    · rw [if_pos h]
      refine List.pairwise_cons.2 ⟨fun z hz => ?_, ih⟩
      rcases (putR_mem key).1 hz with rfl | ⟨hz, _⟩
      · exact h
      · exact h1 z hz
    · rw [if_neg h]
      refine List.pairwise_cons.2 ⟨fun z hz => ?_, hp.sublist List.filter_sublist⟩
      obtain ⟨hz, hne⟩ := List.mem_filter.1 hz
      have hne : key z ≠ key x := by simpa using hne
      have hxy : key x = key y ∨ strLt (key x) (key y) = true := by
        rcases strLt_tri (key x) (key y) with h3 | h3 | h3
        · exact .inr h3
        · exact .inl h3
        · exact absurd h3 h
      have hz2 : key z = key y ∨ strLt (key y) (key z) = true := by
        rcases List.mem_cons.1 hz with rfl | hz
        · exact .inl rfl
        · exact .inr (h1 z hz)
      rcases hxy with e1 | e1 <;> rcases hz2 with e2 | e2
      · exact absurd (e2.trans e1.symm) hne
      · rw [e1]; exact e2
      · rw [e2]; exact e1
      · exact strLt_trans e1 e2
end

def putL (xs : List Str) (x : Str) : List Str := putR id xs x
def withL (ss : List Step) (s : Step) : List Step := putR (·.name) ss s
def putAll (acc xs : List Str) : List Str := xs.foldl putL acc
theorem putAll_len : ∀ (xs acc : List Str), (putAll acc xs).length ≤ acc.length + xs.length
  | [], acc => Nat.le_refl _
  | x :: xs, acc => by
    have h1 := putR_len id (x := x) acc
    have h2 := putAll_len xs (putL acc x)
    unfold putAll at h2 ⊢
    rw [List.foldl_cons, List.length_cons]
    unfold putL at h2 h1 ⊢
    omega
theorem putAll_mem {z : Str} : ∀ (xs acc : List Str), z ∈ putAll acc xs ↔ z ∈ acc ∨ z ∈ xs
  | [], acc => by simp [putAll]
  | x :: xs, acc => by
    have h2 := putAll_mem (z := z) xs (putL acc x)
    have h3 : z ∈ putL acc x ↔ z = x ∨ (z ∈ acc ∧ z ≠ x) := putR_mem id
    unfold putAll at h2 ⊢
    rw [List.foldl_cons, h2, h3, List.mem_cons]
    by_cases e : z = x
    · simp [e]
    · simp [e]
def ascP (xs : List Str) : Prop := xs.Pairwise fun a b => strLt a b = true
theorem putAll_sorted : ∀ (xs acc : List Str), ascP acc → ascP (putAll acc xs)
  | [], _, h => h
  | x :: xs, acc, h => putAll_sorted xs (putL acc x) (putR_sorted id h)
theorem putAll_snoc (acc xs : List Str) (x : Str) : putAll acc (xs ++ [x]) = putL (putAll acc xs) x := by
  unfold putAll; rw [List.foldl_append]; rfl

/-- What a step comes after, behind the taking away of another one. -/
def notName (name : Str) (xs : List Str) : List Str := xs.filter fun a => !decide (a = name)
def woAfter (name : Str) (gone after : List Str) : List Str := if hasB after name = true then putAll (putAll [] (notName name after)) gone else after
def woStep (name : Str) (gone : List Str) (s : Step) : Step := { s with after := woAfter name gone s.after }
def goneOf (ss : List Step) (name : Str) : List Str := (nth ss (plc ss name)).after
def woTo (ss : List Step) (name : Str) (gone : List Str) (k : Nat) : List Step := ((ss.take k).filter fun s => !decide (s.name = name)).map (woStep name gone)
def woL (ss : List Step) (name : Str) : List Step := (ss.filter fun s => !decide (s.name = name)).map (woStep name (goneOf ss name))
theorem woTo_yes {ss : List Step} {name : Str} {gone : List Str} {k : Nat} (hk : k < ss.length) (h : (nth ss k).name ≠ name) : woTo ss name gone (k + 1) = woTo ss name gone k ++ [woStep name gone (nth ss k)] := by
  unfold woTo; rw [take_nth hk, List.filter_append, List.map_append]; simp [h]
theorem woTo_no {ss : List Step} {name : Str} {gone : List Str} {k : Nat} (hk : k < ss.length) (h : (nth ss k).name = name) : woTo ss name gone (k + 1) = woTo ss name gone k := by
  unfold woTo; rw [take_nth hk, List.filter_append, List.map_append]; simp [h]
theorem woTo_all {ss : List Step} {name : Str} {k : Nat} (hk : ss.length ≤ k) : woTo ss name (goneOf ss name) k = woL ss name := by
  unfold woTo woL; rw [List.take_of_length_le hk]
theorem woTo_len (ss : List Step) (name : Str) (gone : List Str) (k : Nat) : (woTo ss name gone k).length ≤ k := by
  unfold woTo; rw [List.length_map]
  exact Nat.le_trans (List.length_filter_le _ _) (List.length_take_le _ _)
theorem woAfter_len (name : Str) (gone after : List Str) : (woAfter name gone after).length ≤ after.length + gone.length := by
  unfold woAfter
  split
  · have h1 := putAll_len gone (putAll [] (notName name after))
    have h2 := putAll_len (notName name after) []
    have h3 := List.length_filter_le (fun a : Str => !decide (a = name)) after
    unfold notName at *
    simp at h2
    omega
  · omega
theorem woAfter_mem {name : Str} {gone after : List Str} {z : Str} (h : z ∈ woAfter name gone after) : z ∈ after ∨ z ∈ gone := by
  unfold woAfter at h
  split at h
  · rcases (putAll_mem _ _).1 h with h | h
    · rcases (putAll_mem _ _).1 h with h | h
      · cases h
      · exact .inl (List.mem_filter.1 h).1
    · exact .inr h
  · exact .inl h

/-- A change of a flow's steps. -/
def chgS (k : Int) (s : Step) (ss : List Step) : List Step × Bool :=
  if hasB (namesOf ss) s.name = false then (if k = 1 then (withL ss s, true) else ([], false))
  else if k = 2 then (woL ss s.name, true)
  else if k = 3 then (withL ss ⟨s.name, s.after, (nth ss (plc ss s.name)).undo⟩, true)
  else if k = 4 then (withL ss ⟨s.name, (nth ss (plc ss s.name)).after, s.undo⟩, true)
  else ([], false)
def chgB (f : Flow) (k : Int) (s : Step) : Bool := flowB f && (stepB s && ((chgS k s f.steps).2 && flowB ⟨f.ver + 1, (chgS k s f.steps).1⟩))
def chgF (f : Flow) (k : Int) (s : Step) : Flow := if chgB f k s = true then ⟨f.ver + 1, (chgS k s f.steps).1⟩ else ⟨0, []⟩
theorem chgF_no {f : Flow} {k : Int} {s : Step} (h : chgB f k s = false) : chgF f k s = ⟨0, []⟩ := by unfold chgF; rw [if_neg (by rw [h]; simp)]
theorem chgF_yes {f : Flow} {k : Int} {s : Step} (h : chgB f k s = true) : chgF f k s = ⟨f.ver + 1, (chgS k s f.steps).1⟩ := if_pos h

theorem okSteps_iff {ss : List Step} : okSteps ss ↔ ss.length ≤ 1048576 ∧ ∀ s ∈ ss, okStep s :=
  ⟨fun h => ⟨h.1, fun s hs => by obtain ⟨j, hj, rfl⟩ := nth_of_mem hs; exact h.2 j hj⟩, fun h => ⟨h.1, fun j hj => h.2 _ (mem_nth hj)⟩⟩
theorem okS_iff {xs : List Str} : okS xs ↔ xs.length ≤ 1048576 ∧ ∀ s ∈ xs, s.size ≤ maxLen :=
  ⟨fun h => ⟨h.1, fun s hs => by obtain ⟨j, hj, rfl⟩ := nth_of_mem hs; exact h.2 j hj⟩, fun h => ⟨h.1, fun j hj => h.2 _ (mem_nth hj)⟩⟩
theorem nameB_small {s : Str} (h : nameB s = true) : s.size ≤ 5 := by
  unfold nameB at h
  simp only [Bool.and_eq_true, decide_eq_true_eq] at h
  omega
theorem stepB_names {s : Step} (h : stepB s = true) : nameB s.name = true ∧ s.after.length ≤ 4 ∧ ∀ a ∈ s.after, nameB a = true := by
  unfold stepB at h
  simp only [Bool.and_eq_true, decide_eq_true_eq] at h
  refine ⟨h.1.1.2, h.2, fun a ha => ?_⟩
  obtain ⟨j, hj, rfl⟩ := nth_of_mem ha
  have := allN_iff.1 h.1.1.1 j hj
  unfold ascAt at this
  simp only [Bool.and_eq_true] at this
  exact this.1
theorem okStep_of {s : Step} (h : stepB s = true) : okStep s := by
  obtain ⟨h1, h2, h3⟩ := stepB_names h
  exact ⟨by have := nameB_small h1; unfold maxLen; omega, okS_iff.2 ⟨by omega, fun a ha => by have := nameB_small (h3 a ha); unfold maxLen; omega⟩⟩
theorem okSteps_of {f : Flow} (h : flowB f = true) : okSteps f.steps :=
  okSteps_iff.2 ⟨by have := (flowB_iff.1 h).2.2.1; omega, fun s hs => by
    obtain ⟨j, hj, rfl⟩ := nth_of_mem hs
    exact okStep_of (step_ok h hj)⟩
theorem withL_ok {ss : List Step} {s : Step} (h : okSteps ss) (hl : ss.length ≤ 1000) (hs : okStep s) : okSteps (withL ss s) := by
  refine okSteps_iff.2 ⟨by have := putR_len (fun s : Step => s.name) (x := s) ss; unfold withL; omega, fun t ht => ?_⟩
  rcases (putR_mem (fun s : Step => s.name)).1 ht with rfl | ⟨ht, _⟩
  · exact hs
  · exact (okSteps_iff.1 h).2 t ht
theorem woL_ok {ss : List Step} {name : Str} (h : okSteps ss) (hs : ∀ s ∈ ss, s.after.length ≤ 1000) : okSteps (woL ss name) := by
  obtain ⟨h1, h2⟩ := okSteps_iff.1 h
  have hg : okS (goneOf ss name) ∧ (goneOf ss name).length ≤ 1000 := by
    unfold goneOf
    by_cases hp : plc ss name < ss.length
    · exact ⟨(h.2 _ hp).2, hs _ (mem_nth hp)⟩
    · have e : nth ss (plc ss name) = default := by unfold nth; rw [List.getD_eq_getElem?_getD, List.getElem?_eq_none (by omega)]; rfl
      have e2 : (default : Step).after = [] := rfl
      rw [e, e2]
      exact ⟨⟨by simp, fun j hj => absurd hj (by simp)⟩, Nat.zero_le _⟩
  refine okSteps_iff.2 ⟨by unfold woL; rw [List.length_map]; exact Nat.le_trans (List.length_filter_le _ _) h1, fun t ht => ?_⟩
  unfold woL at ht
  obtain ⟨s, hs1, rfl⟩ := List.mem_map.1 ht
  have hs2 := (List.mem_filter.1 hs1).1
  have hok := h2 s hs2
  refine ⟨hok.1, okS_iff.2 ⟨?_, fun a ha => ?_⟩⟩
  · have := woAfter_len name (goneOf ss name) s.after
    have h3 := hs s hs2
    show (woAfter name (goneOf ss name) s.after).length ≤ _
    omega
  · rcases woAfter_mem ha with ha | ha
    · exact (okS_iff.1 hok.2).2 a ha
    · exact (okS_iff.1 hg.1).2 a ha
theorem chgS_ok {f : Flow} {k : Int} {s : Step} (hf : flowB f = true) (hs : stepB s = true) : okSteps (chgS k s f.steps).1 := by
  have h := okSteps_of hf
  have hl : f.steps.length ≤ 8 := (flowB_iff.1 hf).2.2.1.2
  have ho := okStep_of hs
  have hnil : okSteps [] := ⟨by simp, fun j hj => absurd hj (by simp)⟩
  unfold chgS
  split
  · split
    · exact withL_ok h (by omega) ho
    · exact hnil
  · rename_i hh
    have hh' : hasB (namesOf f.steps) s.name = true := by simpa using hh
    have hp := (plc_ex hh').1
    split
    · exact woL_ok h fun t ht => by
        obtain ⟨j, hj, rfl⟩ := nth_of_mem ht
        have := (stepB_names (step_ok hf hj)).2.1
        omega
    · split
      · exact withL_ok h (by omega) ⟨ho.1, ho.2⟩
      · split
        · exact withL_ok h (by omega) ⟨ho.1, (h.2 _ hp).2⟩
        · exact hnil
end Go.Proofs.YthdfefgianokgaaGreatDoor

/- Names and steps put at their place, the reference's side. -/
namespace Go.Proofs.YthdfefgianokgaaGreatDoor
open Go.RowKit

theorem putL_new {x y : Str} {a : List Str} (h : strLt y x = false) : putSt id x (a, false) y = (if y = x then a ++ [x] else a ++ [x] ++ [y], true) := putSt_new id h
theorem putL_lt {x y : Str} {s : List Str × Bool} (h : strLt y x = true) : putSt id x s y = (s.1 ++ [y], s.2) := putSt_lt id h
theorem putL_done {x y : Str} {a : List Str} : putSt id x (a, true) y = (if y = x then a else a ++ [y], true) := putSt_done id
set_option maxRecDepth 100000 in
set_option maxHeartbeats 2000000 in
theorem l1Put_any (A : Option Addr) (n c : Nat) (xs : List Str) (x : Str) (lo : Nat) (w : World) (hr : RStr w lo A n xs) (hn : n ≤ 1000) :
    Calls Tryz.prog 160 #[.slice A n c, .string x] w fun e w' => ∃ B m d, e = .returned (.slice B m d) ∧ w'.ownsRow w.heap.size 9 1 (.slice B m d) m ((putL xs x).map Value.string) ∧ Below w.heap.size w w' := by
  have HL := Lib.hid hr.1
  have HR := Lib.hid hr; clear hr
  have HN0 := Lib.hid (World.ownsRow_made (base := w.heap.size) (e := 9) (size := 1) w #[] 0 (Nat.le_refl _) (Nat.zero_le _) rfl)
  have HB0 := Lib.hid ((Below.refl w.heap.size w).alloc (Nat.le_refl _) (.cells #[] 9))
  go_enter Tryz.func160, Tryz.ntmps160
  go_wp2_with fail
  go_loopw [5, 6, 7] (fun v dn i wr => ∃ k n1 : Nat, k ≤ n ∧ i = .int .i64 (k : Int) ∧ dn = .bool (putTo id xs x k).2 ∧ wr.ownsRow w.heap.size 9 1 v n1 ((putTo id xs x k).1.map Value.string) ∧ Below w.heap.size w wr) (fun _ _ i _ => n - (intOf i).toNat)
  case atStart => exact ⟨0, 0, Nat.zero_le _, rfl, rfl, HN0.out, HB0.out⟩
  case round =>
    obtain ⟨wo, rfl⟩ : ∃ wo : World, wo = wr := ⟨_, rfl⟩
    obtain ⟨k, n1, hk, rfl, rfl, hrow, hbw⟩ := hrel
    have HROW := Lib.hid hrow; clear hrow
    have HBW := Lib.hid hbw; clear hbw
    have hsw := HBW.out.size
    have hn1 : n1 ≤ 2 * k := by
      have h1 := HROW.out.1
      have h2 := putTo_len id xs x k
      simp at h1
      omega
    have HSuc := Lib.hid (fun hk => putTo_succ id (xs := xs) (x := x) (k := k) hk)
    have HEnd := Lib.hid (fun hk => putTo_end id (xs := xs) (x := x) (k := k) hk)
    generalize putTo id xs x k = S at *
    obtain ⟨A1, c1, rfl, _⟩ := own_str HROW.out
    by_cases hlt : k < n
    · obtain ⟨b, off, rfl, ⟨_, hbl⟩, hc⟩ := RStr.at_ HR.out hlt
      have HDK := Lib.hid (fun (w' : World) (h : Below w.heap.size w w') => (h.cell (p := ⟨b, off + k, none⟩) hbl).trans (hc k hlt).1)
      clear hc
      have d1 := HDK.out wo HBW.out
      have hkl : k < xs.length := by rw [HL.out]; exact hlt
      have h8 := str_le (nth xs k) x
      have h9 : Op.bytesLess (nth xs k).toList x.toList = strLt (nth xs k) x := rfl
      have HS1 := HSuc.out hkl
      have hk0 : (0 : Int) ≤ (k : Int) := by omega
      have hk1 : (k : Int) < (n : Int) := by omega
      have hk2 : ¬ ((k : Int) < 0) := by omega
      obtain ⟨a, dn⟩ := S
      clear HSuc HEnd
      obtain ⟨S, hS⟩ : ∃ S : List Str × Bool, S.1 = a := ⟨(a, dn), rfl⟩
      subst hS
      cases dn
      · cases hL : strLt (nth xs k) x
        · rw [hL] at h8 h9
          rw [putL_new hL] at HS1
          by_cases he : nth xs k = x
          · rw [if_pos he] at HS1
            have HT := Lib.hid HS1
            have hq := seq_t he
            clear HS1 he hL
            go_wp2_with (at_builtin; refine app_strW w.heap.size (.slice A1 n1 c1) n1 S.1 _ x ?c0 rfl (.tmp 25) (.tmp 27) rfl rfl rfl ?c1 (by omega) ?c2 ?_)
            case c0 => exact HROW.out.alloc _
            case c1 => first | exact heap_new rfl | exact Array.getElem_push_eq
            case c2 => (try simp); omega
            intro v7 w7 how7 hg7 hat7
            replace how7 : w7.ownsRow w.heap.size 9 1 v7 (n1 + 1) ((S.1 ++ [x]).map Value.string) := by rw [List.map_append]; exact how7
            have HB7 := Lib.hid ((HBW.out.alloc hsw (.cells #[.string x] 9)).grown hg7 (by simp; omega) (fun b hb => (HROW.out.lt b hb).1))
            have HR7 := Lib.hid how7
            have hs7 := HB7.out.size
            clear how7 hg7 hat7 d1
            have d1 := HDK.out w7 HB7.out
            obtain ⟨A7, c7, rfl, _⟩ := own_str HR7.out
            go_wp2_with fail
            go_roundw
            case rel => exact ⟨k + 1, (n1 + 1), by omega, by go_num, by rw [HT.out], by rw [HT.out]; exact HR7.out, HB7.out⟩
            case measure => simp [intOf]; omega
          · rw [if_neg he] at HS1
            have HT := Lib.hid HS1
            have hq := seq_f he
            clear HS1 he hL
            go_wp2_with (at_builtin; refine app_strW w.heap.size (.slice A1 n1 c1) n1 S.1 _ x ?c0 rfl (.tmp 25) (.tmp 27) rfl rfl rfl ?c1 (by omega) ?c2 ?_)
            case c0 => exact HROW.out.alloc _
            case c1 => first | exact heap_new rfl | exact Array.getElem_push_eq
            case c2 => (try simp); omega
            intro v7 w7 how7 hg7 hat7
            replace how7 : w7.ownsRow w.heap.size 9 1 v7 (n1 + 1) ((S.1 ++ [x]).map Value.string) := by rw [List.map_append]; exact how7
            have HB7 := Lib.hid ((HBW.out.alloc hsw (.cells #[.string x] 9)).grown hg7 (by simp; omega) (fun b hb => (HROW.out.lt b hb).1))
            have HR7 := Lib.hid how7
            have hs7 := HB7.out.size
            clear how7 hg7 hat7 d1
            have d1 := HDK.out w7 HB7.out
            obtain ⟨A7, c7, rfl, _⟩ := own_str HR7.out
            go_wp2_with (at_builtin; refine app_strW w.heap.size (.slice A7 (n1 + 1) c7) (n1 + 1) (S.1 ++ [x]) _ (nth xs k) ?c0 rfl (.tmp 35) (.tmp 40) rfl rfl rfl ?c1 (by omega) ?c2 ?_)
            case c0 => exact HR7.out.alloc _
            case c1 => first | exact heap_new rfl | exact Array.getElem_push_eq
            case c2 => (try simp); omega
            intro v9 w9 how9 hg9 hat9
            replace how9 : w9.ownsRow w.heap.size 9 1 v9 ((n1 + 1) + 1) (((S.1 ++ [x]) ++ [nth xs k]).map Value.string) := by first | (rw [List.map_append]; exact how9) | (rw [List.map_append, List.map_append, List.append_assoc]; exact how9)
            have HB9 := Lib.hid ((HB7.out.alloc hs7 (.cells #[.string (nth xs k)] 9)).grown hg9 (by simp; omega) (fun b hb => (HR7.out.lt b hb).1))
            have HR9 := Lib.hid how9
            clear how9 hg9 hat9
            go_wp2_with fail
            go_roundw
            case rel => exact ⟨k + 1, (n1 + 1) + 1, by omega, by go_num, by rw [HT.out], by rw [HT.out]; exact HR9.out, HB9.out⟩
            case measure => simp [intOf]; omega
        · rw [hL] at h8 h9
          rw [putL_lt hL] at HS1
          have HT := Lib.hid HS1
          have hq := seq_f (strLt_ne hL)
          clear HS1 hL
          go_wp2_with (at_builtin; refine app_strW w.heap.size (.slice A1 n1 c1) n1 S.1 _ (nth xs k) ?c0 rfl (.tmp 35) (.tmp 40) rfl rfl rfl ?c1 (by omega) ?c2 ?_)
          case c0 => exact HROW.out.alloc _
          case c1 => first | exact heap_new rfl | exact Array.getElem_push_eq
          case c2 => (try simp); omega
          intro v9 w9 how9 hg9 hat9
          replace how9 : w9.ownsRow w.heap.size 9 1 v9 (n1 + 1) ((S.1 ++ [nth xs k]).map Value.string) := by first | (rw [List.map_append]; exact how9) | (rw [List.map_append, List.map_append, List.append_assoc]; exact how9)
          have HB9 := Lib.hid ((HBW.out.alloc hsw (.cells #[.string (nth xs k)] 9)).grown hg9 (by simp; omega) (fun b hb => (HROW.out.lt b hb).1))
          have HR9 := Lib.hid how9
          clear how9 hg9 hat9
          go_wp2_with fail
          go_roundw
          case rel => exact ⟨k + 1, n1 + 1, by omega, by go_num, by rw [HT.out], by rw [HT.out]; exact HR9.out, HB9.out⟩
          case measure => simp [intOf]; omega
      · rw [putL_done] at HS1
        clear h8 h9
        by_cases he : nth xs k = x
        · rw [if_pos he] at HS1
          have HT := Lib.hid HS1
          have hq := seq_t he
          clear HS1 he
          go_wp2_with fail
          go_roundw
          case rel => exact ⟨k + 1, n1, by omega, by go_num, by rw [HT.out], by rw [HT.out]; exact HROW.out, HBW.out⟩
          case measure => simp [intOf]; omega
        · rw [if_neg he] at HS1
          have HT := Lib.hid HS1
          have hq := seq_f he
          clear HS1 he
          go_wp2_with (at_builtin; refine app_strW w.heap.size (.slice A1 n1 c1) n1 S.1 _ (nth xs k) ?c0 rfl (.tmp 35) (.tmp 40) rfl rfl rfl ?c1 (by omega) ?c2 ?_)
          case c0 => exact HROW.out.alloc _
          case c1 => first | exact heap_new rfl | exact Array.getElem_push_eq
          case c2 => (try simp); omega
          intro v9 w9 how9 hg9 hat9
          replace how9 : w9.ownsRow w.heap.size 9 1 v9 (n1 + 1) ((S.1 ++ [nth xs k]).map Value.string) := by first | (rw [List.map_append]; exact how9) | (rw [List.map_append, List.map_append, List.append_assoc]; exact how9)
          have HB9 := Lib.hid ((HBW.out.alloc hsw (.cells #[.string (nth xs k)] 9)).grown hg9 (by simp; omega) (fun b hb => (HROW.out.lt b hb).1))
          have HR9 := Lib.hid how9
          clear how9 hg9 hat9
          go_wp2_with fail
          go_roundw
          case rel => exact ⟨k + 1, n1 + 1, by omega, by go_num, by rw [HT.out], by rw [HT.out]; exact HR9.out, HB9.out⟩
          case measure => simp [intOf]; omega
    · obtain rfl : k = n := by omega
      have HE := Lib.hid (show putL xs x = if S.2 = true then S.1 else S.1 ++ [x] from HEnd.out (by rw [HL.out]; exact Nat.le_refl _))
      clear HSuc HEnd
      obtain ⟨a, dn⟩ := S
      cases dn
      · have HE2 := Lib.hid (HE.out.trans (if_neg (by simp)))
        clear HE
        go_wp2_with (at_builtin; refine app_strW w.heap.size (.slice A1 n1 c1) n1 a _ x ?c0 rfl (.tmp 44) (.tmp 46) rfl rfl rfl ?c1 (by omega) ?c2 ?_)
        case c0 => exact HROW.out.alloc _
        case c1 => first | exact heap_new rfl | exact Array.getElem_push_eq
        case c2 => (try simp); omega
        intro v7 w7 how7 hg7 hat7
        replace how7 : w7.ownsRow w.heap.size 9 1 v7 (n1 + 1) ((a ++ [x]).map Value.string) := by rw [List.map_append]; exact how7
        have HB7 := Lib.hid ((HBW.out.alloc hsw (.cells #[.string x] 9)).grown hg7 (by simp; omega) (fun b hb => (HROW.out.lt b hb).1))
        obtain ⟨A7, c7, rfl, _⟩ := own_str how7
        have HR7 := Lib.hid how7
        clear how7 hg7 hat7
        go_wp2_with fail
        go_ret
        exact ⟨_, _, _, rfl, by rw [HE2.out]; exact HR7.out, HB7.out⟩
      · have HE2 := Lib.hid (HE.out.trans (if_pos rfl))
        clear HE
        go_wp2_with fail
        go_ret
        exact ⟨_, _, _, rfl, by rw [HE2.out]; exact HROW.out, HBW.out⟩

set_option maxRecDepth 100000 in
theorem l2Step_any (A : Option Addr) (n c : Nat) (s : Step) (lo : Nat) (w : World) (hr : RStr w lo A n s.after) (hn : n ≤ 1048576) :
    Calls Tryz.prog 159 #[.agg #[.string s.name, .slice A n c, .bool s.undo]] w fun e w' => ∃ A' c', e = .returned (.agg #[.string s.name, .slice A' n c', .bool s.undo]) ∧ SStr w' w.heap.size A' n s.after ∧ n ≤ c' ∧ Below w.heap.size w w' := by
  have HX := Lib.hid (heap_old (o := .cells #[.string ⟨#[]⟩, .slice none 0 0, .bool false] 35) (heap_new (w := w) (o := .cells #[.string s.name, .slice A n c, .bool s.undo] 35) rfl))
  have HZ := Lib.hid (heap_new (w := w.alloc (.cells #[.string s.name, .slice A n c, .bool s.undo] 35)) (b := w.heap.size + 1) (o := .cells #[.string ⟨#[]⟩, .slice none 0 0, .bool false] 35) (by simp))
  have HB := Lib.hid (((Below.refl w.heap.size w).alloc (Nat.le_refl _) (.cells #[.string s.name, .slice A n c, .bool s.undo] 35)).alloc (by simp) (.cells #[.string ⟨#[]⟩, .slice none 0 0, .bool false] 35))
  have HR := Lib.hid (((hr.alloc (.cells #[.string s.name, .slice A n c, .bool s.undo] 35)).alloc (.cells #[.string ⟨#[]⟩, .slice none 0 0, .bool false] 35)).alloc (.cells #[] 9)); clear hr
  have HN := Lib.hid (own_new (w0 := w) (b := w.heap.size + 1 + 1) HB.out (by simp))
  have HXA := Lib.hid (heap_old (o := .cells #[] 9) HX.out)
  have HZA := Lib.hid (heap_old (o := .cells #[] 9) HZ.out)
  have x2 := (blk_cl (k := 1) HXA.out rfl).1
  go_enter Tryz.func159, Tryz.ntmps159
  go_wp2_with (at_builtin; refine apps_str w _ 0 [] _ A n c s.after HN.out HR.out rfl (.tmp 3) (.tmp 5) rfl rfl rfl (by omega) ?_)
  intro v3 w3 how3 hg3
  have HX3 := Lib.hid (grown_blk hg3 HXA.out (by simp [Value.ownBlock]; omega))
  have HZ3 := Lib.hid (grown_blk hg3 HZA.out (by simp [Value.ownBlock]))
  obtain ⟨A3, c3, rfl, _⟩ := own_str how3.row
  have HO3 := Lib.hid how3; clear how3 hg3
  have hc3 := own_capN HO3.out.row
  have a2 := (blk_cl (k := 1) HX3.out rfl).1
  have a2' := (blk_cl (k := 1) HX3.out rfl).2
  have HX4 := Lib.hid (set31 (u := .slice A3 n c3) HX3.out)
  have HZ4 := Lib.hid (set_ne (b := w.heap.size) (o := 1) (u := .slice A3 n c3) HZ3.out (by omega))
  have y0 := (blk_cl (k := 0) HX4.out rfl).1
  have y1 := (blk_cl (k := 1) HX4.out rfl).1
  have y2 := (blk_cl (k := 2) HX4.out rfl).1
  have z0 := (blk_cl (k := 0) HZ4.out rfl).1
  have z0' := (blk_cl (k := 0) HZ4.out rfl).2
  have z1 := (blk_cl (k := 1) HZ4.out rfl).1
  have z1' := (blk_cl (k := 1) HZ4.out rfl).2
  have z2 := (blk_cl (k := 2) HZ4.out rfl).1
  have z2' := (blk_cl (k := 2) HZ4.out rfl).2
  clear x2
  go_wp2_with fail
  have hres := set3 (u0 := .string s.name) (u1 := .slice A3 n c3) (u2 := .bool s.undo) HZ4.out
  have p0 := (blk_cl (k := 0) hres rfl).1
  have p1 := (blk_cl (k := 1) hres rfl).1
  have p2 := (blk_cl (k := 2) hres rfl).1
  have q1 : w.heap.size ≤ w.heap.size + 1 := by omega
  have hrow := row_set (o := 1) (u := .slice A3 n c3) HO3.out.row HX3.out (by decide)
  have h1 := set_at (o := 0) (u := .string s.name) HZ4.out
  have h2 := set_at (o := 1) (u := .slice A3 n c3) h1
  have hrow2 := row_set (o := 2) (u := .bool s.undo) (row_set (o := 1) (u := .slice A3 n c3) (row_set (o := 0) (u := .string s.name) hrow HZ4.out (by decide)) h1 (by decide)) h2 (by decide)
  obtain ⟨_, _, e9, hss⟩ := own_sstr hrow2
  injection e9 with e8 _ _
  subst e8
  exact bodyPost_ret (v := .agg #[.string s.name, .slice A3 n c3, .bool s.undo]) (by simp [results, Tryz.results159, go_sem, p0, p1, p2]) rfl
    ⟨_, _, rfl, hss, hc3, (((HO3.out.below.setCell (p := ⟨w.heap.size, 1, none⟩) (Nat.le_refl _) _).setCell (p := ⟨w.heap.size + 1, 0, none⟩) q1 _).setCell (p := ⟨w.heap.size + 1, 1, none⟩) q1 _).setCell (p := ⟨w.heap.size + 1, 2, none⟩) q1 _⟩
end Go.Proofs.YthdfefgianokgaaGreatDoor

/- Steps with another one in its place, the reference's side. -/
namespace Go.Proofs.YthdfefgianokgaaGreatDoor
open Go.RowKit

theorem putW_new {x y : Step} {a : List Step} (h : strLt y.name x.name = false) : putSt (fun s : Step => s.name) x (a, false) y = (if y.name = x.name then a ++ [x] else a ++ [x] ++ [y], true) := putSt_new (fun s : Step => s.name) h
theorem putW_lt {x y : Step} {s : List Step × Bool} (h : strLt y.name x.name = true) : putSt (fun s : Step => s.name) x s y = (s.1 ++ [y], s.2) := putSt_lt (fun s : Step => s.name) h
theorem putW_done {x y : Step} {a : List Step} : putSt (fun s : Step => s.name) x (a, true) y = (if y.name = x.name then a else a ++ [y], true) := putSt_done (fun s : Step => s.name)
theorem SRow.mono {w : World} {base base' n : Nat} {v : Value} {ss : List Step} (h : SRow w base v n ss) (hb : base' ≤ base) : SRow w base' v n ss := by
  obtain ⟨ps, e, h1, h2⟩ := h
  refine ⟨ps, e, row_mono h1 hb, fun p hp => ?_⟩
  obtain ⟨A, m, c, e2, h3⟩ := h2 p hp
  exact ⟨A, m, c, e2, h3.mono hb⟩
/-- The box of the step's parameter is no row of the call's own that was made behind it. -/
theorem SRow.neBox {w : World} {base n b : Nat} {v : Value} {ss : List Step} (h : SRow w base v n ss) (hb : b < base) : v.ownBlock ≠ some b := fun e => by
  obtain ⟨A, c, rfl, _⟩ := h.hat
  have := (SRow.lt h e).1
  omega

set_option maxRecDepth 100000 in
set_option maxHeartbeats 4000000 in
theorem l12With_any (A G : Option Addr) (n c ng cg : Nat) (ss : List Step) (s : Step) (lo lo' : Nat) (w : World) (hr : RStep w lo A n ss) (hok : okSteps ss) (hn : n ≤ 1000) (hg : RStr w lo' G ng s.after) (hng : ng ≤ 1048576) :
    Calls Tryz.prog 136 #[.slice A n c, .agg #[.string s.name, .slice G ng cg, .bool s.undo]] w fun e w' => ∃ B m d, e = .returned (.slice B m d) ∧ SRow w' w.heap.size (.slice B m d) m (withL ss s) ∧ Below w.heap.size w w' := by
  have HL := Lib.hid hr.1
  have HR := Lib.hid hr; clear hr
  have HG := Lib.hid hg; clear hg
  have HOK := Lib.hid hok; clear hok
  have HN0 := Lib.hid (SRow.made (w := w.alloc (.cells #[.string s.name, .slice G ng cg, .bool s.undo] 35)) (base := w.heap.size + 1) (b := w.heap.size + 1) (by simp) (by simp))
  have HB0 := Lib.hid (((Below.refl w.heap.size w).alloc (Nat.le_refl _) (.cells #[.string s.name, .slice G ng cg, .bool s.undo] 35)).alloc (by simp) (.cells #[] 35))
  have HX0 := Lib.hid (heap_old (o := .cells #[] 35) (heap_new (w := w) (o := .cells #[.string s.name, .slice G ng cg, .bool s.undo] 35) rfl))
  go_enter Tryz.func136, Tryz.ntmps136
  go_wp2_with fail
  go_loopw [5, 6, 7] (fun v dn i wr => ∃ k n1 : Nat, k ≤ n ∧ i = .int .i64 (k : Int) ∧ dn = .bool (putTo (fun s : Step => s.name) ss s k).2 ∧ SRow wr (w.heap.size + 1) v n1 (putTo (fun s : Step => s.name) ss s k).1 ∧ Below w.heap.size w wr ∧ wr.heap[w.heap.size]? = some (.cells #[.string s.name, .slice G ng cg, .bool s.undo] 35)) (fun _ _ i _ => n - (intOf i).toNat)
  case atStart => exact ⟨0, 0, Nat.zero_le _, rfl, rfl, HN0.out, HB0.out, HX0.out⟩
  case round =>
    obtain ⟨wo, rfl⟩ : ∃ wo : World, wo = wr := ⟨_, rfl⟩
    obtain ⟨k, n1, hk, rfl, rfl, hrow, hbw, hxw⟩ := hrel
    have HROW := Lib.hid hrow; clear hrow
    have HBW := Lib.hid hbw; clear hbw
    have HXW := Lib.hid hxw; clear hxw
    have hsw := HBW.out.size
    have hxl := heap_lt HXW.out
    have hn1 : n1 ≤ 2 * k := by
      have h1 := HROW.out.len
      have h2 := putTo_len (fun s : Step => s.name) ss s k
      omega
    have HSuc := Lib.hid (fun hk => putTo_succ (fun s : Step => s.name) (xs := ss) (x := s) (k := k) hk)
    have HEnd := Lib.hid (fun hk => putTo_end (fun s : Step => s.name) (xs := ss) (x := s) (k := k) hk)
    generalize putTo (fun s : Step => s.name) ss s k = S at *
    obtain ⟨A1, c1, rfl, _⟩ := HROW.out.hat
    have hx0 := (blk_cl (k := 0) HXW.out rfl).1
    by_cases hlt : k < n
    · obtain ⟨b, off, rfl, ⟨_, hbl⟩, hc⟩ := RStep.at_ HR.out hlt
      obtain ⟨A', n', c', ⟨e1, e2, e3⟩, hdr, _⟩ := hc k hlt
      clear hc
      have HDK := Lib.hid (fun (w' : World) (h : Below w.heap.size w w') => And.intro ((h.cell (p := ⟨b, off + k * 3, none⟩) hbl).trans e1) (And.intro ((h.cell (p := ⟨b, off + k * 3 + 1, none⟩) hbl).trans e2) ((h.cell (p := ⟨b, off + k * 3 + 2, none⟩) hbl).trans e3)))
      have HDR := Lib.hid hdr; clear hdr e1 e2 e3
      obtain ⟨d1, d2, d3⟩ := HDK.out wo HBW.out
      have hkl : k < ss.length := by rw [HL.out]; exact hlt
      have hn' : n' ≤ 1048576 := by rw [← HDR.out.1]; exact (HOK.out.2 k hkl).2.1
      have h8 := str_le (nth ss k).name s.name
      have h9 : Op.bytesLess (nth ss k).name.toList s.name.toList = strLt (nth ss k).name s.name := rfl
      have HS1 := HSuc.out hkl
      have hk0 : (0 : Int) ≤ (k : Int) := by omega
      have hk1 : (k : Int) < (n : Int) := by omega
      have hk2 : ¬ ((k : Int) < 0) := by omega
      obtain ⟨a, dn⟩ := S
      clear HSuc HEnd
      obtain ⟨S, hS⟩ : ∃ S : List Step × Bool, S.1 = a := ⟨(a, dn), rfl⟩
      subst hS
      cases dn
      · cases hL : strLt (nth ss k).name s.name
        · rw [hL] at h8 h9
          rw [putW_new hL] at HS1
          by_cases he : (nth ss k).name = s.name
          · rw [if_pos he] at HS1
            have HT := Lib.hid HS1
            have hq := seq_t he
            clear HS1 he hL
            have f1 := (blk_cl (k := 1) HXW.out rfl).1
            have f2 := (blk_cl (k := 2) HXW.out rfl).1
            go_wp2_with fail
            go_quiet (fail)
            go_wp2_with fail
            refine (l2Step_any _ _ _ s _ _ ((HG.out.below HBW.out).below (below_drewN (Below.refl wo.heap.size wo) _)) hng).mono ?_
            rintro e w5 ⟨A5, c5, rfl, hss5, hc5, hb5⟩
            have hbq5 : Below wo.heap.size wo w5 := (below_drewN (Below.refl wo.heap.size wo) _).trans hb5
            have HSS5 := Lib.hid (hss5.mono (show w.heap.size + 1 ≤ wo.heap.size from hxl)); clear hss5
            have HB5 := Lib.hid (HBW.out.trans (hbq5.mono hsw))
            have HK5 := Lib.hid (HROW.out.below hbq5)
            have HX5 := Lib.hid ((hbq5.block _ (heap_lt HXW.out)).trans HXW.out)
            have hs5 := HB5.out.size
            clear hb5 hbq5 f1 f2 hx0 d1 d2 d3
            go_wp2_with (at_builtin; refine app_stepW (w.heap.size + 1) (.slice A1 n1 c1) n1 S.1 w5.heap.size s A5 ng c5 ?c0 ?c1 rfl (.tmp 27) (.tmp 30) rfl rfl rfl ?c3 (by omega) ?c4 ?_)
            case c0 => exact HK5.out.below ((Below.refl _ _).alloc (Nat.le_refl _) _)
            case c1 => exact HSS5.out.below ((Below.refl _ _).alloc (Nat.le_refl _) _)
            case c3 => first | exact heap_new rfl | exact Array.getElem_push_eq
            case c4 => (try simp); omega
            intro v7 w7 how7 hg7 hat7
            obtain ⟨A7, c7, rfl, _⟩ := how7.hat
            have HB7 := Lib.hid ((HB5.out.alloc hs5 (.cells #[.string s.name, .slice A5 ng c5, .bool s.undo] 35)).grown hg7 (by simp; omega) (fun b hb => Nat.le_trans (Nat.le_succ _) (by
              obtain ⟨A9, c9, e9, _⟩ := HK5.out.hat
              have h9 := HK5.out
              rw [e9] at h9 hb
              exact (SRow.lt h9 hb).1)))
            have HX7 := Lib.hid (grown_blk hg7 (heap_old HX5.out) (by exact HK5.out.neBox (Nat.lt_succ_self _)))
            have hs7 := HB7.out.size
            have HK7 := Lib.hid how7; clear how7
            clear hg7 hat7
            obtain ⟨d1, d2, d3⟩ := HDK.out w7 HB7.out
            have hx0 := (blk_cl (k := 0) HX7.out rfl).1
            have hxl7 := heap_lt HX7.out
            go_wp2_with fail
            go_quiet (fail)
            go_wp2_with fail
            go_roundw
            case rel => exact ⟨k + 1, (n1 + 1), by omega, by go_num, by rw [HT.out], by rw [HT.out]; exact HK7.out.below (below_drewN (Below.refl w7.heap.size w7) _), HB7.out.trans ((below_drewN (Below.refl w7.heap.size w7) _).mono hs7), ((below_drewN (Below.refl w7.heap.size w7) _).block _ (heap_lt HX7.out)).trans HX7.out⟩
            case measure => simp [intOf]; omega
          · rw [if_neg he] at HS1
            have HT := Lib.hid HS1
            have hq := seq_f he
            clear HS1 he hL
            have f1 := (blk_cl (k := 1) HXW.out rfl).1
            have f2 := (blk_cl (k := 2) HXW.out rfl).1
            go_wp2_with fail
            go_quiet (fail)
            go_wp2_with fail
            refine (l2Step_any _ _ _ s _ _ ((HG.out.below HBW.out).below (below_drewN (Below.refl wo.heap.size wo) _)) hng).mono ?_
            rintro e w5 ⟨A5, c5, rfl, hss5, hc5, hb5⟩
            have hbq5 : Below wo.heap.size wo w5 := (below_drewN (Below.refl wo.heap.size wo) _).trans hb5
            have HSS5 := Lib.hid (hss5.mono (show w.heap.size + 1 ≤ wo.heap.size from hxl)); clear hss5
            have HB5 := Lib.hid (HBW.out.trans (hbq5.mono hsw))
            have HK5 := Lib.hid (HROW.out.below hbq5)
            have HX5 := Lib.hid ((hbq5.block _ (heap_lt HXW.out)).trans HXW.out)
            have hs5 := HB5.out.size
            clear hb5 hbq5 f1 f2 hx0 d1 d2 d3
            go_wp2_with (at_builtin; refine app_stepW (w.heap.size + 1) (.slice A1 n1 c1) n1 S.1 w5.heap.size s A5 ng c5 ?c0 ?c1 rfl (.tmp 27) (.tmp 30) rfl rfl rfl ?c3 (by omega) ?c4 ?_)
            case c0 => exact HK5.out.below ((Below.refl _ _).alloc (Nat.le_refl _) _)
            case c1 => exact HSS5.out.below ((Below.refl _ _).alloc (Nat.le_refl _) _)
            case c3 => first | exact heap_new rfl | exact Array.getElem_push_eq
            case c4 => (try simp); omega
            intro v7 w7 how7 hg7 hat7
            obtain ⟨A7, c7, rfl, _⟩ := how7.hat
            have HB7 := Lib.hid ((HB5.out.alloc hs5 (.cells #[.string s.name, .slice A5 ng c5, .bool s.undo] 35)).grown hg7 (by simp; omega) (fun b hb => Nat.le_trans (Nat.le_succ _) (by
              obtain ⟨A9, c9, e9, _⟩ := HK5.out.hat
              have h9 := HK5.out
              rw [e9] at h9 hb
              exact (SRow.lt h9 hb).1)))
            have HX7 := Lib.hid (grown_blk hg7 (heap_old HX5.out) (by exact HK5.out.neBox (Nat.lt_succ_self _)))
            have hs7 := HB7.out.size
            have HK7 := Lib.hid how7; clear how7
            clear hg7 hat7
            obtain ⟨d1, d2, d3⟩ := HDK.out w7 HB7.out
            have hx0 := (blk_cl (k := 0) HX7.out rfl).1
            have hxl7 := heap_lt HX7.out
            go_wp2_with fail
            go_quiet (fail)
            go_wp2_with fail
            refine (l2Step_any _ _ _ (nth ss k) _ _ ((HDR.out.below HB7.out).below (below_drewN (Below.refl w7.heap.size w7) _)) hn').mono ?_
            rintro e w15 ⟨A15, c15, rfl, hss15, hc15, hb15⟩
            have hbq15 : Below w7.heap.size w7 w15 := (below_drewN (Below.refl w7.heap.size w7) _).trans hb15
            have HSS15 := Lib.hid (hss15.mono (show w.heap.size + 1 ≤ w7.heap.size from hxl7)); clear hss15
            have HB15 := Lib.hid (HB7.out.trans (hbq15.mono hs7))
            have HK15 := Lib.hid (HK7.out.below hbq15)
            have HX15 := Lib.hid ((hbq15.block _ (heap_lt HX7.out)).trans HX7.out)
            have hs15 := HB15.out.size
            clear hb15 hbq15 d1 d2 d3 hx0
            go_wp2_with (at_builtin; refine app_stepW (w.heap.size + 1) (.slice A7 (n1 + 1) c7) (n1 + 1) (S.1 ++ [s]) w15.heap.size (nth ss k) A15 n' c15 ?c0 ?c1 rfl (.tmp 40) (.tmp 46) rfl rfl rfl ?c3 (by omega) ?c4 ?_)
            case c0 => exact HK15.out.below ((Below.refl _ _).alloc (Nat.le_refl _) _)
            case c1 => exact HSS15.out.below ((Below.refl _ _).alloc (Nat.le_refl _) _)
            case c3 => first | exact heap_new rfl | exact Array.getElem_push_eq
            case c4 => (try simp); omega
            intro v17 w17 how17 hg17 hat17
            obtain ⟨A17, c17, rfl, _⟩ := how17.hat
            have HB17 := Lib.hid ((HB15.out.alloc hs15 (.cells #[.string (nth ss k).name, .slice A15 n' c15, .bool (nth ss k).undo] 35)).grown hg17 (by simp; omega) (fun b hb => Nat.le_trans (Nat.le_succ _) (by
              obtain ⟨A9, c9, e9, _⟩ := HK15.out.hat
              have h9 := HK15.out
              rw [e9] at h9 hb
              exact (SRow.lt h9 hb).1)))
            have HX17 := Lib.hid (grown_blk hg17 (heap_old HX15.out) (by exact HK15.out.neBox (Nat.lt_succ_self _)))
            have hs17 := HB17.out.size
            have HK17 := Lib.hid how17; clear how17
            clear hg17 hat17
            go_wp2_with fail
            go_roundw
            case rel => exact ⟨k + 1, (n1 + 1) + 1, by omega, by go_num, by rw [HT.out], by rw [HT.out]; (first | exact HK17.out | (rw [List.append_assoc]; exact HK17.out)), HB17.out, HX17.out⟩
            case measure => simp [intOf]; omega
        · rw [hL] at h8 h9
          rw [putW_lt hL] at HS1
          have HT := Lib.hid HS1
          have hq := seq_f (strLt_ne hL)
          clear HS1 hL
          go_wp2_with fail
          go_quiet (fail)
          go_wp2_with fail
          go_quiet (fail)
          go_wp2_with fail
          refine (l2Step_any _ _ _ (nth ss k) _ _ ((HDR.out.below HBW.out).below (below_drewN (Below.refl wo.heap.size wo) _)) hn').mono ?_
          rintro e w15 ⟨A15, c15, rfl, hss15, hc15, hb15⟩
          have hbq15 : Below wo.heap.size wo w15 := (below_drewN (Below.refl wo.heap.size wo) _).trans hb15
          have HSS15 := Lib.hid (hss15.mono (show w.heap.size + 1 ≤ wo.heap.size from hxl)); clear hss15
          have HB15 := Lib.hid (HBW.out.trans (hbq15.mono hsw))
          have HK15 := Lib.hid (HROW.out.below hbq15)
          have HX15 := Lib.hid ((hbq15.block _ (heap_lt HXW.out)).trans HXW.out)
          have hs15 := HB15.out.size
          clear hb15 hbq15 d1 d2 d3 hx0
          go_wp2_with (at_builtin; refine app_stepW (w.heap.size + 1) (.slice A1 n1 c1) n1 S.1 w15.heap.size (nth ss k) A15 n' c15 ?c0 ?c1 rfl (.tmp 40) (.tmp 46) rfl rfl rfl ?c3 (by omega) ?c4 ?_)
          case c0 => exact HK15.out.below ((Below.refl _ _).alloc (Nat.le_refl _) _)
          case c1 => exact HSS15.out.below ((Below.refl _ _).alloc (Nat.le_refl _) _)
          case c3 => first | exact heap_new rfl | exact Array.getElem_push_eq
          case c4 => (try simp); omega
          intro v17 w17 how17 hg17 hat17
          obtain ⟨A17, c17, rfl, _⟩ := how17.hat
          have HB17 := Lib.hid ((HB15.out.alloc hs15 (.cells #[.string (nth ss k).name, .slice A15 n' c15, .bool (nth ss k).undo] 35)).grown hg17 (by simp; omega) (fun b hb => Nat.le_trans (Nat.le_succ _) (by
            obtain ⟨A9, c9, e9, _⟩ := HK15.out.hat
            have h9 := HK15.out
            rw [e9] at h9 hb
            exact (SRow.lt h9 hb).1)))
          have HX17 := Lib.hid (grown_blk hg17 (heap_old HX15.out) (by exact HK15.out.neBox (Nat.lt_succ_self _)))
          have hs17 := HB17.out.size
          have HK17 := Lib.hid how17; clear how17
          clear hg17 hat17
          go_wp2_with fail
          go_roundw
          case rel => exact ⟨k + 1, n1 + 1, by omega, by go_num, by rw [HT.out], by rw [HT.out]; exact HK17.out, HB17.out, HX17.out⟩
          case measure => simp [intOf]; omega
      · rw [putW_done] at HS1
        clear h8 h9
        by_cases he : (nth ss k).name = s.name
        · rw [if_pos he] at HS1
          have HT := Lib.hid HS1
          have hq := seq_t he
          clear HS1 he
          go_wp2_with fail
          go_quiet (fail)
          go_wp2_with fail
          go_quiet (fail)
          go_wp2_with fail
          go_roundw
          case rel => exact ⟨k + 1, n1, by omega, by go_num, by rw [HT.out], by rw [HT.out]; exact HROW.out.below (below_drewN (Below.refl wo.heap.size wo) _), HBW.out.trans ((below_drewN (Below.refl wo.heap.size wo) _).mono hsw), ((below_drewN (Below.refl wo.heap.size wo) _).block _ (heap_lt HXW.out)).trans HXW.out⟩
          case measure => simp [intOf]; omega
        · rw [if_neg he] at HS1
          have HT := Lib.hid HS1
          have hq := seq_f he
          clear HS1 he
          go_wp2_with fail
          go_quiet (fail)
          go_wp2_with fail
          go_quiet (fail)
          go_wp2_with fail
          refine (l2Step_any _ _ _ (nth ss k) _ _ ((HDR.out.below HBW.out).below (below_drewN (Below.refl wo.heap.size wo) _)) hn').mono ?_
          rintro e w15 ⟨A15, c15, rfl, hss15, hc15, hb15⟩
          have hbq15 : Below wo.heap.size wo w15 := (below_drewN (Below.refl wo.heap.size wo) _).trans hb15
          have HSS15 := Lib.hid (hss15.mono (show w.heap.size + 1 ≤ wo.heap.size from hxl)); clear hss15
          have HB15 := Lib.hid (HBW.out.trans (hbq15.mono hsw))
          have HK15 := Lib.hid (HROW.out.below hbq15)
          have HX15 := Lib.hid ((hbq15.block _ (heap_lt HXW.out)).trans HXW.out)
          have hs15 := HB15.out.size
          clear hb15 hbq15 d1 d2 d3 hx0
          go_wp2_with (at_builtin; refine app_stepW (w.heap.size + 1) (.slice A1 n1 c1) n1 S.1 w15.heap.size (nth ss k) A15 n' c15 ?c0 ?c1 rfl (.tmp 40) (.tmp 46) rfl rfl rfl ?c3 (by omega) ?c4 ?_)
          case c0 => exact HK15.out.below ((Below.refl _ _).alloc (Nat.le_refl _) _)
          case c1 => exact HSS15.out.below ((Below.refl _ _).alloc (Nat.le_refl _) _)
          case c3 => first | exact heap_new rfl | exact Array.getElem_push_eq
          case c4 => (try simp); omega
          intro v17 w17 how17 hg17 hat17
          obtain ⟨A17, c17, rfl, _⟩ := how17.hat
          have HB17 := Lib.hid ((HB15.out.alloc hs15 (.cells #[.string (nth ss k).name, .slice A15 n' c15, .bool (nth ss k).undo] 35)).grown hg17 (by simp; omega) (fun b hb => Nat.le_trans (Nat.le_succ _) (by
            obtain ⟨A9, c9, e9, _⟩ := HK15.out.hat
            have h9 := HK15.out
            rw [e9] at h9 hb
            exact (SRow.lt h9 hb).1)))
          have HX17 := Lib.hid (grown_blk hg17 (heap_old HX15.out) (by exact HK15.out.neBox (Nat.lt_succ_self _)))
          have hs17 := HB17.out.size
          have HK17 := Lib.hid how17; clear how17
          clear hg17 hat17
          go_wp2_with fail
          go_roundw
          case rel => exact ⟨k + 1, n1 + 1, by omega, by go_num, by rw [HT.out], by rw [HT.out]; exact HK17.out, HB17.out, HX17.out⟩
          case measure => simp [intOf]; omega
    · obtain rfl : k = n := by omega
      have HE := Lib.hid (show withL ss s = if S.2 = true then S.1 else S.1 ++ [s] from HEnd.out (by rw [HL.out]; exact Nat.le_refl _))
      clear HSuc HEnd
      obtain ⟨a, dn⟩ := S
      cases dn
      · have HE2 := Lib.hid (HE.out.trans (if_neg (by simp)))
        clear HE
        have f1 := (blk_cl (k := 1) HXW.out rfl).1
        have f2 := (blk_cl (k := 2) HXW.out rfl).1
        go_wp2_with fail
        refine (l2Step_any _ _ _ s _ _ ((HG.out.below HBW.out).below (Below.refl wo.heap.size wo)) hng).mono ?_
        rintro e w5 ⟨A5, c5, rfl, hss5, hc5, hb5⟩
        have hbq5 : Below wo.heap.size wo w5 := (Below.refl wo.heap.size wo).trans hb5
        have HSS5 := Lib.hid (hss5.mono (show w.heap.size + 1 ≤ wo.heap.size from hxl)); clear hss5
        have HB5 := Lib.hid (HBW.out.trans (hbq5.mono hsw))
        have HK5 := Lib.hid (HROW.out.below hbq5)
        have HX5 := Lib.hid ((hbq5.block _ (heap_lt HXW.out)).trans HXW.out)
        have hs5 := HB5.out.size
        clear hb5 hbq5 f1 f2 hx0
        go_wp2_with (at_builtin; refine app_stepW (w.heap.size + 1) (.slice A1 n1 c1) n1 a w5.heap.size s A5 ng c5 ?c0 ?c1 rfl (.tmp 50) (.tmp 53) rfl rfl rfl ?c3 (by omega) ?c4 ?_)
        case c0 => exact HK5.out.below ((Below.refl _ _).alloc (Nat.le_refl _) _)
        case c1 => exact HSS5.out.below ((Below.refl _ _).alloc (Nat.le_refl _) _)
        case c3 => first | exact heap_new rfl | exact Array.getElem_push_eq
        case c4 => (try simp); omega
        intro v7 w7 how7 hg7 hat7
        obtain ⟨A7, c7, rfl, _⟩ := how7.hat
        have HB7 := Lib.hid ((HB5.out.alloc hs5 (.cells #[.string s.name, .slice A5 ng c5, .bool s.undo] 35)).grown hg7 (by simp; omega) (fun b hb => Nat.le_trans (Nat.le_succ _) (by
          obtain ⟨A9, c9, e9, _⟩ := HK5.out.hat
          have h9 := HK5.out
          rw [e9] at h9 hb
          exact (SRow.lt h9 hb).1)))
        have HX7 := Lib.hid (grown_blk hg7 (heap_old HX5.out) (by exact HK5.out.neBox (Nat.lt_succ_self _)))
        have hs7 := HB7.out.size
        have HK7 := Lib.hid how7; clear how7
        clear hg7 hat7
        go_wp2_with fail
        go_ret
        exact ⟨_, _, _, rfl, by rw [HE2.out]; exact SRow.mono HK7.out (Nat.le_succ _), HB7.out⟩
      · have HE2 := Lib.hid (HE.out.trans (if_pos rfl))
        clear HE
        go_wp2_with fail
        go_ret
        exact ⟨_, _, _, rfl, by rw [HE2.out]; exact SRow.mono HROW.out (Nat.le_succ _), HBW.out⟩
end Go.Proofs.YthdfefgianokgaaGreatDoor

/- Steps without one, the reference's side. -/
namespace Go.Proofs.YthdfefgianokgaaGreatDoor
open Go.RowKit

theorem SRow.off {w w' : World} {base n b : Nat} {v : Value} {ss : List Step} (h : SRow w base v n ss) (hk : ∀ i, i ≠ b → w'.heap[i]? = w.heap[i]?) (hne : v.ownBlock ≠ some b) (hs : ∀ cs, w.heap[b]? ≠ some (.cells cs 9 (0, 0))) : SRow w' base v n ss := by
  obtain ⟨ps, e, h1, h2⟩ := h
  refine ⟨ps, e, ⟨h1.1, ?_⟩, fun q hq => ?_⟩
  · rcases h1.2 with h0 | ⟨g, cap, cur, hv, hb, hg, hr⟩
    · exact .inl h0
    · refine .inr ⟨g, cap, cur, hv, hb, (hk g fun e => ?_).trans hg, hr⟩
      subst e
      exact hne (by rw [hv]; rfl)
  · obtain ⟨A, m, c, e2, h3⟩ := h2 q hq
    exact ⟨A, m, c, e2, h3.kept fun b' cs _ hc => hk b' fun e => by subst e; exact hs cs hc⟩
theorem notName_yes {name : Str} {xs : List Str} {j : Nat} (hj : j < xs.length) (h : nth xs j ≠ name) : notName name (xs.take (j + 1)) = notName name (xs.take j) ++ [nth xs j] := by
  unfold notName; rw [take_nth hj, List.filter_append]; simp [h]
theorem notName_no {name : Str} {xs : List Str} {j : Nat} (hj : j < xs.length) (h : nth xs j = name) : notName name (xs.take (j + 1)) = notName name (xs.take j) := by
  unfold notName; rw [take_nth hj, List.filter_append]; simp [h]
theorem notName_len (name : Str) (xs : List Str) : (notName name xs).length ≤ xs.length := List.length_filter_le _ _

set_option maxRecDepth 100000 in
set_option maxHeartbeats 4000000 in
theorem l12Without_any (A : Option Addr) (n c : Nat) (ss : List Step) (name : Str) (lo : Nat) (w : World) (hr : RStep w lo A n ss) (hok : okSteps ss) (hn : n ≤ 1000) (hsh : ∀ j, j < n → (nth ss j).after.length ≤ 100) (hh : hasB (namesOf ss) name = true) :
    Calls Tryz.prog 137 #[.slice A n c, .string name] w fun e w' => ∃ B m d, e = .returned (.slice B m d) ∧ SRow w' w.heap.size (.slice B m d) m (woL ss name) ∧ Below w.heap.size w w' := by
  have HL := Lib.hid hr.1
  have HR := Lib.hid hr
  have HOK := Lib.hid hok; clear hok
  have HSH := Lib.hid hsh; clear hsh
  have HWO := Lib.hid (show ∀ k, ss.length ≤ k → woTo ss name (nth ss (plc ss name)).after k = woL ss name from fun k hk => woTo_all hk)
  obtain ⟨hpl, hidx, -⟩ := plc_ex hh
  generalize plc ss name = p at *
  have hpn : p < n := by rw [← HL.out]; exact hpl
  have hp1 : (0 : Int) ≤ (p : Int) := by omega
  have hp2 : (p : Int) < (n : Int) := by omega
  have hp3 : ¬ ((p : Int) < 0) := by omega
  have HRA := Lib.hid (hr.alloc (.cells #[] 35)); clear hr
  have HN0 := Lib.hid (SRow.made (w := w) (base := w.heap.size) (b := w.heap.size) (Nat.le_refl _) rfl)
  have HB0 := Lib.hid ((Below.refl w.heap.size w).alloc (Nat.le_refl _) (.cells #[] 35))
  go_enter Tryz.func137, Tryz.ntmps137
  go_wp2_with fail
  refine (l2At_any _ _ _ ss name _ _ HRA.out (by omega)).mono ?_
  rintro e w1 ⟨rfl, hw1⟩
  subst hw1
  rw [hidx]
  clear hidx hh
  obtain ⟨b, off, hA, ⟨_, hbl⟩, hcc⟩ := RStep.at_ HR.out hpn
  subst hA
  have HDK := Lib.hid (fun (j : Nat) (hj : j < n) => hcc j hj)
  clear hcc
  obtain ⟨G, ng, cg, ⟨g1, g2, g3⟩, hgr, _⟩ := HDK.out p hpn
  have g1 := (HB0.out.cell (p := ⟨b, off + p * 3, none⟩) hbl).trans g1
  have g2 := (HB0.out.cell (p := ⟨b, off + p * 3 + 1, none⟩) hbl).trans g2
  have g3 := (HB0.out.cell (p := ⟨b, off + p * 3 + 2, none⟩) hbl).trans g3
  have HGR := Lib.hid hgr; clear hgr
  have hng : ng ≤ 100 := by rw [← HGR.out.1]; exact HSH.out p hpn
  have HGL := Lib.hid HGR.out.1
  have HN1 := Lib.hid (HN0.out.below ((Below.refl _ _).alloc (Nat.le_refl _) (.cells #[.string (nth ss p).name, .slice G ng cg, .bool (nth ss p).undo] 35)))
  have HB1 := Lib.hid (HB0.out.alloc HB0.out.size (.cells #[.string (nth ss p).name, .slice G ng cg, .bool (nth ss p).undo] 35))
  have HG1 := Lib.hid (heap_new (w := w.alloc (.cells #[] 35)) (b := w.heap.size + 1) (o := .cells #[.string (nth ss p).name, .slice G ng cg, .bool (nth ss p).undo] 35) (by simp))
  go_wp2_with fail
  clear g1 g2 g3
  go_loopw [5, 7] (fun v i wr => ∃ k n1 : Nat, k ≤ n ∧ i = .int .i64 (k : Int) ∧ SRow wr w.heap.size v n1 (woTo ss name (nth ss p).after k) ∧ Below w.heap.size w wr ∧ wr.heap[w.heap.size + 1]? = some (.cells #[.string (nth ss p).name, .slice G ng cg, .bool (nth ss p).undo] 35) ∧ v.ownBlock ≠ some (w.heap.size + 1)) (fun _ i _ => n - (intOf i).toNat)
  case atStart => exact ⟨0, 0, Nat.zero_le _, rfl, HN1.out, HB1.out, HG1.out, fun e => by have h9 : w.heap.size = w.heap.size + 1 := Option.some.inj e; omega⟩
  case round =>
    obtain ⟨wo, rfl⟩ : ∃ wo : World, wo = wr := ⟨_, rfl⟩
    obtain ⟨k, n1, hk, rfl, hrow, hbw, hgw, hne⟩ := hrel
    have HROW := Lib.hid hrow; clear hrow
    have HBW := Lib.hid hbw; clear hbw
    have HGW := Lib.hid hgw; clear hgw
    have HNE := Lib.hid hne; clear hne
    have hsw := HBW.out.size
    have hgl := heap_lt HGW.out
    have hn1 : n1 ≤ k := by
      have h1 := HROW.out.len
      have h2 := woTo_len ss name (nth ss p).after k
      omega
    obtain ⟨A1, c1, rfl, _⟩ := HROW.out.hat
    by_cases hlt : k < n
    · obtain ⟨A', n', c', ⟨d1, d2, d3⟩, hdr, _⟩ := HDK.out k hlt
      have d1 := (HBW.out.cell (p := ⟨b, off + k * 3, none⟩) hbl).trans d1
      have d2 := (HBW.out.cell (p := ⟨b, off + k * 3 + 1, none⟩) hbl).trans d2
      have d3 := (HBW.out.cell (p := ⟨b, off + k * 3 + 2, none⟩) hbl).trans d3
      have hkl : k < ss.length := by rw [HL.out]; exact hlt
      have hn' : n' ≤ 100 := by rw [← hdr.1]; exact HSH.out k hlt
      have HDR := Lib.hid hdr; clear hdr
      have hk0 : (0 : Int) ≤ (k : Int) := by omega
      have hk1 : (k : Int) < (n : Int) := by omega
      have hk2 : ¬ ((k : Int) < 0) := by omega
      go_wp2_with fail
      refine (l2Step_any _ _ _ (nth ss k) _ _ (HDR.out.below HBW.out) (by omega)).mono ?_
      rintro e w5 ⟨A5, c5, rfl, hss5, hc5, hb5⟩
      have hsw5 := hb5.size
      have HSS6 := Lib.hid ((hss5.mono hsw).below ((Below.refl _ _).alloc (Nat.le_refl _) (.cells #[.string (nth ss k).name, .slice A5 n' c5, .bool (nth ss k).undo] 35))); clear hss5
      have HB5 := HBW.out.trans (hb5.mono hsw)
      have HB6 := Lib.hid (HB5.alloc HB5.size (.cells #[.string (nth ss k).name, .slice A5 n' c5, .bool (nth ss k).undo] 35))
      have HK6 := Lib.hid ((HROW.out.below hb5).below ((Below.refl _ _).alloc (Nat.le_refl _) (.cells #[.string (nth ss k).name, .slice A5 n' c5, .bool (nth ss k).undo] 35)))
      have HG6 := Lib.hid (heap_old (o := .cells #[.string (nth ss k).name, .slice A5 n' c5, .bool (nth ss k).undo] 35) ((hb5.block _ hgl).trans HGW.out))
      have HX6 := Lib.hid (heap_new (w := w5) (o := .cells #[.string (nth ss k).name, .slice A5 n' c5, .bool (nth ss k).undo] 35) rfl)
      have HNP : Hid ((Value.slice A1 n1 c1).ownBlock ≠ some w5.heap.size) := Lib.hid (fun e => by
        have := (SRow.lt (HROW.out.below hb5) e).2
        omega)
      clear hb5 HB5 d1 d2 d3
      go_wp2_with fail
      refine (l1At_any _ _ _ (nth ss k).after name _ _ HSS6.out.hat (by omega)).mono ?_
      rintro e w6' ⟨rfl, hw6⟩
      subst hw6
      generalize ew6 : w5.alloc (.cells #[.string (nth ss k).name, .slice A5 n' c5, .bool (nth ss k).undo] 35) = w6 at *
      have hpb6 := heap_lt HX6.out
      clear ew6
      generalize w5.heap.size = pb at *
      have HAL := Lib.hid HSS6.out.hat.1
      cases hb : hasB (nth ss k).after name
      · have HWA := Lib.hid (show woAfter name (nth ss p).after (nth ss k).after = (nth ss k).after by unfold woAfter; rw [if_neg (by rw [hb]; simp)])
        have hz := idx_neg hb
        clear hb
        generalize idxI (nth ss k).after name = z9 at *
        have HSS8 := Lib.hid (show SStr w6 w.heap.size A5 n' (woStep name (nth ss p).after (nth ss k)).after by
          show SStr w6 w.heap.size A5 n' (woAfter name (nth ss p).after (nth ss k).after)
          rw [HWA.out]; exact HSS6.out)
        have HX8 := HX6
        have HB8 := HB6
        have HK8 := HK6
        have HG8 := HG6
        clear HX6 HB6 HK6 HG6 HSS6
        generalize w6 = w8 at *
        generalize A5 = A8 at *
        generalize c5 = c8 at *
        generalize n' = n8 at *
        have b0 := (blk_cl (k := 0) HX8.out rfl).1
        have b1 := (blk_cl (k := 1) HX8.out rfl).1
        have b2 := (blk_cl (k := 2) HX8.out rfl).1
        have hs8 := HB8.out.size
        have hgl8 := heap_lt HG8.out
        by_cases he : (nth ss k).name = name
        · have hq := seq_t he
          have HT := Lib.hid (woTo_no (gone := (nth ss p).after) hkl he)
          clear he
          go_wp2_with fail
          go_roundw
          case rel => exact ⟨k + 1, n1, by omega, by go_num, by rw [HT.out]; exact HK8.out, HB8.out, HG8.out, HNE.out⟩
          case measure => simp [intOf]; omega
        · have hq := seq_f he
          have HT := Lib.hid (woTo_yes (gone := (nth ss p).after) hkl he)
          clear he
          go_wp2_with (at_builtin; refine app_stepW w.heap.size (.slice A1 n1 c1) n1 (woTo ss name (nth ss p).after k) w8.heap.size (woStep name (nth ss p).after (nth ss k)) A8 n8 c8 ?c0 ?c1 rfl (.tmp 77) (.tmp 79) rfl rfl rfl ?c3 (by omega) ?c4 ?_)
          case c0 => exact HK8.out.below ((Below.refl _ _).alloc (Nat.le_refl _) _)
          case c1 => exact HSS8.out.below ((Below.refl _ _).alloc (Nat.le_refl _) _)
          case c3 => first | exact heap_new rfl | exact Array.getElem_push_eq
          case c4 => (try simp); omega
          intro v9 w9 how9 hg9 hat9
          have HB9 := Lib.hid ((HB8.out.alloc hs8 (.cells #[.string (nth ss k).name, .slice A8 n8 c8, .bool (nth ss k).undo] 35)).grown hg9 (by simp; omega) (fun b hb => (SRow.lt HK8.out hb).1))
          have HG9 := Lib.hid (grown_blk hg9 (heap_old HG8.out) HNE.out)
          have HNE9 : Hid (v9.ownBlock ≠ some (w.heap.size + 1)) := Lib.hid (fun e => by
            rcases hat9 with h | h
            · rw [h] at e; exact HNE.out e
            · rw [h] at e
              have := Option.some.inj e
              (try simp at this)
              omega)
          have HK9 := Lib.hid how9
          clear how9 hg9 hat9
          go_wp2_with fail
          go_roundw
          case rel => exact ⟨k + 1, n1 + 1, by omega, by go_num, by rw [HT.out]; exact HK9.out, HB9.out, HG9.out, HNE9.out⟩
          case measure => simp [intOf]; omega
      · have HWA := Lib.hid (show woAfter name (nth ss p).after (nth ss k).after = putAll (putAll [] (notName name (nth ss k).after)) (nth ss p).after by unfold woAfter; rw [if_pos hb])
        have hz : decide (0 ≤ idxI (nth ss k).after name) = true := by rw [hasB_idx, hb]
        clear hb
        generalize idxI (nth ss k).after name = z9 at *
        have HM0 := Lib.hid (World.ownsRow_made (base := w6.heap.size) (e := 9) (size := 1) w6 #[] 0 (Nat.le_refl _) (Nat.zero_le _) rfl)
        have HBM := Lib.hid ((Below.refl w6.heap.size w6).alloc (Nat.le_refl _) (.cells #[] 9))
        have b1 := (blk_cl (k := 1) (heap_old (o := .cells #[] 9) HX6.out) rfl).1
        go_wp2_with fail
        clear b1
        go_loopw [9, 10] (fun v i wr => ∃ j m : Nat, j ≤ n' ∧ i = .int .i64 (j : Int) ∧ wr.ownsRow w6.heap.size 9 1 v m ((putAll [] (notName name ((nth ss k).after.take j))).map Value.string) ∧ Below w6.heap.size w6 wr) (fun _ i _ => n' - (intOf i).toNat)
        case atStart => exact ⟨0, 0, Nat.zero_le _, rfl, HM0.out, HBM.out⟩
        case round =>
          obtain ⟨wm, rfl⟩ : ∃ wm : World, wm = wr := ⟨_, rfl⟩
          obtain ⟨j, m, hj, rfl, hro, hbm⟩ := hrel
          have HRO := Lib.hid hro; clear hro
          have HBQ := Lib.hid hbm; clear hbm
          have hsq := HBQ.out.size
          have HXQ := Lib.hid ((HBQ.out.block _ hpb6).trans HX6.out)
          have b1 := (blk_cl (k := 1) HXQ.out rfl).1
          obtain ⟨A2, c2, rfl, hrs⟩ := own_str HRO.out
          have HRS := Lib.hid hrs; clear hrs
          have hm : m ≤ 100 := by
            rw [← HRS.out.1]
            have h1 := putAll_len (notName name ((nth ss k).after.take j)) []
            have h2 := notName_len name ((nth ss k).after.take j)
            have h3 := List.length_take_le j (nth ss k).after
            simp at h1
            omega
          by_cases hjlt : j < n'
          · obtain ⟨b5, off5, e5, _, hc5'⟩ := RStr.at_ (HSS6.out.hat.below HBQ.out) hjlt
            subst e5
            have q1 := (hc5' j hjlt).1
            clear hc5'
            have hjl : j < (nth ss k).after.length := by rw [HAL.out]; exact hjlt
            have hj0 : (0 : Int) ≤ (j : Int) := by omega
            have hj1 : (j : Int) < (n' : Int) := by omega
            have hj2 : ¬ ((j : Int) < 0) := by omega
            by_cases he : nth (nth ss k).after j = name
            · have hq := seq_t he
              have HT := Lib.hid (notName_no hjl he)
              clear he
              go_wp2_with fail
              go_roundw
              case rel => exact ⟨j + 1, m, by omega, by go_num, by rw [HT.out]; exact HRO.out, HBQ.out⟩
              case measure => simp [intOf]; omega
            · have hq := seq_f he
              have HT := Lib.hid (show putAll [] (notName name ((nth ss k).after.take (j + 1))) = putL (putAll [] (notName name ((nth ss k).after.take j))) (nth (nth ss k).after j) by rw [notName_yes hjl he, putAll_snoc])
              clear he
              go_wp2_with fail
              refine (l1Put_any _ _ _ _ (nth (nth ss k).after j) _ _ HRS.out (by omega)).mono ?_
              rintro e w7 ⟨A7, m7, d7, rfl, ho7, hb7⟩
              have HO7 := Lib.hid (row_mono ho7 hsq)
              have HB7 := Lib.hid (HBQ.out.trans (hb7.mono hsq))
              clear ho7 hb7 b1 q1
              go_wp2_with fail
              go_roundw
              case rel => exact ⟨j + 1, m7, by omega, by go_num, by rw [HT.out]; exact HO7.out, HB7.out⟩
              case measure => simp [intOf]; omega
          · obtain rfl : j = n' := by omega
            have htk : (nth ss k).after.take j = (nth ss k).after := by rw [← HAL.out]; exact List.take_length
            rw [htk] at HRO HRS
            clear htk
            generalize hacc : putAll [] (notName name (nth ss k).after) = acc at *
            have HACC := Lib.hid hacc; clear hacc
            have hal : acc.length ≤ 100 := by have := HRS.out.1; omega
            have HGQ := Lib.hid ((HBQ.out.block _ (heap_lt HG6.out)).trans HG6.out)
            have g1 := (blk_cl (k := 1) HGQ.out rfl).1
            have HRO0 := Lib.hid (show wm.ownsRow w6.heap.size 9 1 (.slice A2 m c2) m ((putAll acc ((nth ss p).after.take 0)).map Value.string) from HRO.out)
            go_wp2_with fail
            clear b1 g1
            go_loopw [9, 11] (fun v i wr => ∃ q m : Nat, q ≤ ng ∧ i = .int .i64 (q : Int) ∧ wr.ownsRow w6.heap.size 9 1 v m ((putAll acc ((nth ss p).after.take q)).map Value.string) ∧ Below w6.heap.size w6 wr) (fun _ i _ => ng - (intOf i).toNat)
            case atStart => exact ⟨0, m, Nat.zero_le _, rfl, HRO0.out, HBQ.out⟩
            case round =>
              obtain ⟨wt, rfl⟩ : ∃ wt : World, wt = wr := ⟨_, rfl⟩
              obtain ⟨q, m3, hq, rfl, hro3, hbm3⟩ := hrel
              have HRO3 := Lib.hid hro3; clear hro3
              have HBQ3 := Lib.hid hbm3; clear hbm3
              have hsq3 := HBQ3.out.size
              have HG3 := Lib.hid ((HBQ3.out.block _ (heap_lt HG6.out)).trans HG6.out)
              have HX3 := Lib.hid ((HBQ3.out.block _ hpb6).trans HX6.out)
              have g1 := (blk_cl (k := 1) HG3.out rfl).1
              obtain ⟨A3, c3, rfl, hrs3⟩ := own_str HRO3.out
              have HRS3 := Lib.hid hrs3; clear hrs3
              have hm3 : m3 ≤ 200 := by
                rw [← HRS3.out.1]
                have h1 := putAll_len ((nth ss p).after.take q) acc
                have h3 := List.length_take_le q (nth ss p).after
                omega
              by_cases hqlt : q < ng
              · obtain ⟨b5, off5, e5, _, hc5'⟩ := RStr.at_ (HGR.out.below (HB6.out.trans (HBQ3.out.mono HB6.out.size))) hqlt
                subst e5
                have q1 := (hc5' q hqlt).1
                clear hc5'
                have hql : q < (nth ss p).after.length := by rw [HGL.out]; exact hqlt
                have hq0 : (0 : Int) ≤ (q : Int) := by omega
                have hq1 : (q : Int) < (ng : Int) := by omega
                have hq2 : ¬ ((q : Int) < 0) := by omega
                have HT := Lib.hid (show putAll acc ((nth ss p).after.take (q + 1)) = putL (putAll acc ((nth ss p).after.take q)) (nth (nth ss p).after q) by rw [take_nth hql, putAll_snoc])
                go_wp2_with fail
                refine (l1Put_any _ _ _ _ (nth (nth ss p).after q) _ _ HRS3.out (by omega)).mono ?_
                rintro e w7 ⟨A7, m7, d7, rfl, ho7, hb7⟩
                have HO7 := Lib.hid (row_mono ho7 hsq3)
                have HB7 := Lib.hid (HBQ3.out.trans (hb7.mono hsq3))
                clear ho7 hb7 g1 q1
                go_wp2_with fail
                go_roundw
                case rel => exact ⟨q + 1, m7, by omega, by go_num, by rw [HT.out]; exact HO7.out, HB7.out⟩
                case measure => simp [intOf]; omega
              · obtain rfl : q = ng := by omega
                have htk : (nth ss p).after.take q = (nth ss p).after := by rw [← HGL.out]; exact List.take_length
                rw [htk] at HRO3
                clear htk
                have b1 := (blk_cl (k := 1) HX3.out rfl).1
                have b1' := (blk_cl (k := 1) HX3.out rfl).2
                have HX8 := Lib.hid (set31 (u := .slice A3 m3 c3) HX3.out)
                have HB8 := Lib.hid ((HB6.out.trans (HBQ3.out.mono HB6.out.size)).setCell (p := ⟨pb, 1, none⟩) (by show w.heap.size ≤ pb; omega) (.slice A3 m3 c3))
                have HG8 := Lib.hid (set_ne (b := pb) (o := 1) (u := .slice A3 m3 c3) HG3.out (by omega))
                have HK8 := Lib.hid ((HK6.out.below HBQ3.out).off (w' := wt.setCell ⟨pb, 1, none⟩ (.slice A3 m3 c3)) (b := pb) (fun i hi => Below.heap_setCell _ _ _ _ hi) HNP.out (fun cs e => by
                  rw [HX3.out] at e
                  have := Option.some.inj e
                  injection this with _ e4
                  exact absurd e4 (by decide)))
                have hrow8 := row_mono (row_set (o := 1) (u := .slice A3 m3 c3) HRO3.out HX3.out (by decide)) HB6.out.size
                have HSS8 := Lib.hid (show SStr (wt.setCell ⟨pb, 1, none⟩ (.slice A3 m3 c3)) w.heap.size A3 m3 (woStep name (nth ss p).after (nth ss k)).after by
                  show SStr _ w.heap.size A3 m3 (woAfter name (nth ss p).after (nth ss k).after)
                  rw [HWA.out]
                  obtain ⟨_, _, e9, hss⟩ := own_sstr hrow8
                  injection e9 with e8 _ _
                  subst e8
                  exact hss)
                clear hrow8
                go_upto_region 19 with fail
                clear b1 b1' g1
                generalize wt.setCell ⟨pb, 1, none⟩ (.slice A3 m3 c3) = w8 at *
                generalize A3 = A8 at *
                generalize c3 = c8 at *
                generalize m3 = n8 at *
                have b0 := (blk_cl (k := 0) HX8.out rfl).1
                have b1 := (blk_cl (k := 1) HX8.out rfl).1
                have b2 := (blk_cl (k := 2) HX8.out rfl).1
                have hs8 := HB8.out.size
                have hgl8 := heap_lt HG8.out
                by_cases he : (nth ss k).name = name
                · have hq := seq_t he
                  have HT := Lib.hid (woTo_no (gone := (nth ss p).after) hkl he)
                  clear he
                  go_wp2_with fail
                  go_roundw
                  case rel => exact ⟨k + 1, n1, by omega, by go_num, by rw [HT.out]; exact HK8.out, HB8.out, HG8.out, HNE.out⟩
                  case measure => simp [intOf]; omega
                · have hq := seq_f he
                  have HT := Lib.hid (woTo_yes (gone := (nth ss p).after) hkl he)
                  clear he
                  go_wp2_with (at_builtin; refine app_stepW w.heap.size (.slice A1 n1 c1) n1 (woTo ss name (nth ss p).after k) w8.heap.size (woStep name (nth ss p).after (nth ss k)) A8 n8 c8 ?c0 ?c1 rfl (.tmp 77) (.tmp 79) rfl rfl rfl ?c3 (by omega) ?c4 ?_)
                  case c0 => exact HK8.out.below ((Below.refl _ _).alloc (Nat.le_refl _) _)
                  case c1 => exact HSS8.out.below ((Below.refl _ _).alloc (Nat.le_refl _) _)
                  case c3 => first | exact heap_new rfl | exact Array.getElem_push_eq
                  case c4 => (try simp); omega
                  intro v9 w9 how9 hg9 hat9
                  have HB9 := Lib.hid ((HB8.out.alloc hs8 (.cells #[.string (nth ss k).name, .slice A8 n8 c8, .bool (nth ss k).undo] 35)).grown hg9 (by simp; omega) (fun b hb => (SRow.lt HK8.out hb).1))
                  have HG9 := Lib.hid (grown_blk hg9 (heap_old HG8.out) HNE.out)
                  have HNE9 : Hid (v9.ownBlock ≠ some (w.heap.size + 1)) := Lib.hid (fun e => by
                    rcases hat9 with h | h
                    · rw [h] at e; exact HNE.out e
                    · rw [h] at e
                      have := Option.some.inj e
                      (try simp at this)
                      omega)
                  have HK9 := Lib.hid how9
                  clear how9 hg9 hat9
                  go_wp2_with fail
                  go_roundw
                  case rel => exact ⟨k + 1, n1 + 1, by omega, by go_num, by rw [HT.out]; exact HK9.out, HB9.out, HG9.out, HNE9.out⟩
                  case measure => simp [intOf]; omega
    · obtain rfl : k = n := by omega
      rw [HWO.out k (by rw [HL.out]; exact Nat.le_refl _)] at HROW
      go_wp2_with fail
      go_ret
      exact ⟨_, _, _, rfl, HROW.out, HBW.out⟩
end Go.Proofs.YthdfefgianokgaaGreatDoor

/- A flow copied, the reference's side. -/
namespace Go.Proofs.YthdfefgianokgaaGreatDoor
open Go.RowKit

section
variable {P : Program} {ops : Array Oper} {Q : Exit → Act → World → Prop} {md : Region.Mode} {S : World → Prop}
theorem wpAnyH_takeE {i : Nat} {oi : Oper} {v : Value} {d : Option Tmp} {fuel : Nat} {listed : Array Bool} {a : Act} {w : World} (hi : ops[i]? = some oi) (hd : oi.dst = d)
    (hs : Region.noSelect ops = true) (hf : Region.free md ops listed i = true) (hr : (Region.ready md ops listed).contains i = true)
    (hQ : ∀ c a w, Q (.panic c) (a.put d v) w → Q (.panic c) a w) (hy : YieldsIf P ops S oi v a) (hS : S w)
    (h : wpAnyH P md ops Q S fuel (listed.setIfInBounds i true) (a.put d v) w) : wpAnyH P md ops Q S (fuel + 1) listed a w := by
  subst hd
  exact wpAnyH_take hi hs hf hr hQ hy hS h
end
theorem Below.al2_ {w w' : World} (h : Below w.heap.size w w') (o : Obj) : Below w.heap.size w (w'.alloc o) := h.alloc h.size o
theorem cellFar1 {w : World} {b b' o o' : Nat} {u : Value} (h : b ≠ b') : (w.setCell ⟨b', o', none⟩ u).cell? ⟨b, o, none⟩ = w.cell? ⟨b, o, none⟩ :=
  World.cell?_setCell_other _ _ _ _ (fun e => by injection e with e; exact h e.symm)

end Go.Proofs.YthdfefgianokgaaGreatDoor

/- The steps behind a change, the reference's side. -/
namespace Go.Proofs.YthdfefgianokgaaGreatDoor
open Go.RowKit

theorem chgS_new {k : Int} {s : Step} {ss : List Step} (h : hasB (namesOf ss) s.name = false) (hk : k = 1) : chgS k s ss = (withL ss s, true) := by unfold chgS; rw [if_pos h, if_pos hk]
theorem chgS_new_no {k : Int} {s : Step} {ss : List Step} (h : hasB (namesOf ss) s.name = false) (hk : k ≠ 1) : chgS k s ss = ([], false) := by unfold chgS; rw [if_pos h, if_neg hk]
theorem chgS_2 {k : Int} {s : Step} {ss : List Step} (h : hasB (namesOf ss) s.name = true) (hk : k = 2) : chgS k s ss = (woL ss s.name, true) := by
  unfold chgS; rw [if_neg (by rw [h]; simp), if_pos hk]
theorem chgS_3 {k : Int} {s : Step} {ss : List Step} (h : hasB (namesOf ss) s.name = true) (hk : k = 3) : chgS k s ss = (withL ss ⟨s.name, s.after, (nth ss (plc ss s.name)).undo⟩, true) := by
  unfold chgS; rw [if_neg (by rw [h]; simp), if_neg (by omega), if_pos hk]
theorem chgS_4 {k : Int} {s : Step} {ss : List Step} (h : hasB (namesOf ss) s.name = true) (hk : k = 4) : chgS k s ss = (withL ss ⟨s.name, (nth ss (plc ss s.name)).after, s.undo⟩, true) := by
  unfold chgS; rw [if_neg (by rw [h]; simp), if_neg (by omega), if_neg (by omega), if_pos hk]
theorem chgS_no {k : Int} {s : Step} {ss : List Step} (h : hasB (namesOf ss) s.name = true) (h2 : k ≠ 2) (h3 : k ≠ 3) (h4 : k ≠ 4) : chgS k s ss = ([], false) := by
  unfold chgS; rw [if_neg (by rw [h]; simp), if_neg h2, if_neg h3, if_neg h4]

set_option maxRecDepth 100000 in
set_option maxHeartbeats 4000000 in
theorem l12Steps_any (A G : Option Addr) (n c ng cg : Nat) (ss : List Step) (k : Int) (s : Step) (lo lo' : Nat) (w : World) (hr : RStep w lo A n ss) (hok : okSteps ss) (hn : n ≤ 1000) (hsh : ∀ j, j < n → (nth ss j).after.length ≤ 100) (hg : RStr w lo' G ng s.after) (hng : ng ≤ 1048576) :
    Calls Tryz.prog 115 #[.slice A n c, .agg #[.int .i64 k, .string s.name, .slice G ng cg, .bool s.undo]] w fun e w' => ∃ B m d, e = .returned (.tuple #[.slice B m d, .bool (chgS k s ss).2]) ∧ SRow w' w.heap.size (.slice B m d) m (chgS k s ss).1 ∧ Below w.heap.size w w' := by
  have HL := Lib.hid hr.1
  have HX := Lib.hid (heap_new (w := w) (o := .cells #[.int .i64 k, .string s.name, .slice G ng cg, .bool s.undo] 88) rfl)
  have HBW := Lib.hid ((Below.refl w.heap.size w).alloc (Nat.le_refl _) (.cells #[.int .i64 k, .string s.name, .slice G ng cg, .bool s.undo] 88))
  have HRW := Lib.hid (hr.alloc (.cells #[.int .i64 k, .string s.name, .slice G ng cg, .bool s.undo] 88)); clear hr
  have HGW := Lib.hid (hg.alloc (.cells #[.int .i64 k, .string s.name, .slice G ng cg, .bool s.undo] 88)); clear hg
  go_enter Tryz.func115, Tryz.ntmps115
  go_upto_region 1 with fail
  generalize w.alloc (.cells #[.int .i64 k, .string s.name, .slice G ng cg, .bool s.undo] 88) = W at *
  have x0 := (blk_cl (k := 0) HX.out rfl).1
  have x1 := (blk_cl (k := 1) HX.out rfl).1
  have x2 := (blk_cl (k := 2) HX.out rfl).1
  have x3 := (blk_cl (k := 3) HX.out rfl).1
  have hxl := heap_lt HX.out
  go_wp2_with fail
  refine (l2At_any _ _ _ ss s.name _ _ HRW.out (by omega)).mono ?_
  rintro e w1 ⟨rfl, hw1⟩
  subst hw1
  cases hh : hasB (namesOf ss) s.name
  · have hz := idx_neg hh
    have hz2 : ¬ (0 ≤ idxI (namesOf ss) s.name) := by omega
    generalize idxI (namesOf ss) s.name = z9 at *
    by_cases hk1 : k = 1
    · have HE := Lib.hid (chgS_new hh hk1)
      subst hk1
      clear hh
      go_wp2_with fail
      refine (l12With_any _ _ _ _ _ _ ss s _ _ _ HRW.out hok hn HGW.out hng).mono ?_
      rintro e w5 ⟨B5, m5, d5, rfl, hk5, hb5⟩
      go_wp2_with fail
      exact bodyPost_ret (v := .tuple #[.slice B5 m5 d5, .bool true]) (by simp [results, Tryz.results115, go_sem]) rfl ⟨B5, m5, d5, by rw [HE.out], by rw [HE.out]; exact hk5.mono HBW.out.size, HBW.out.trans (hb5.mono HBW.out.size)⟩
    · have HE := Lib.hid (chgS_new_no hh hk1)
      clear hh
      go_wp2_with fail
      all_goals exact bodyPost_ret (v := .tuple #[.slice (some ⟨W.heap.size, 0, none⟩) 0 0, .bool false]) (by simp [results, Tryz.results115, go_sem]) rfl ⟨some ⟨W.heap.size, 0, none⟩, 0, 0, by rw [HE.out], by rw [HE.out]; exact SRow.made HBW.out.size rfl, HBW.out.alloc HBW.out.size _⟩
  · have hz := idx_pos hh
    have hz2 : ¬ (idxI (namesOf ss) s.name < 0) := by omega
    obtain ⟨hpl, hidx, -⟩ := plc_ex hh
    by_cases hk2 : k = 2
    · have HE := Lib.hid (chgS_2 hh hk2)
      subst hk2
      generalize idxI (namesOf ss) s.name = z9 at *
      go_wp2_with fail
      refine (l12Without_any _ _ _ ss s.name _ _ HRW.out hok hn hsh hh).mono ?_
      rintro e w5 ⟨B5, m5, d5, rfl, hk5, hb5⟩
      go_wp2_with fail
      exact bodyPost_ret (v := .tuple #[.slice B5 m5 d5, .bool true]) (by simp [results, Tryz.results115, go_sem]) rfl ⟨B5, m5, d5, by rw [HE.out], by rw [HE.out]; exact hk5.mono HBW.out.size, HBW.out.trans (hb5.mono HBW.out.size)⟩
    by_cases hk34 : k = 3 ∨ k = 4
    · have hpn : plc ss s.name < n := by rw [← HL.out]; exact hpl
      have HE3 := Lib.hid (fun h3 : k = 3 => chgS_3 hh h3)
      have HE4 := Lib.hid (fun h4 : k = 4 => chgS_4 hh h4)
      rw [hidx]
      rw [hidx] at hz hz2
      clear hidx hh
      generalize plc ss s.name = p at *
      obtain ⟨b, off, hA, ⟨_, hbl⟩, hcc⟩ := RStep.at_ HRW.out hpn
      subst hA
      obtain ⟨A', n', c', ⟨d1, d2, d3⟩, hdr, _⟩ := hcc p hpn
      clear hcc
      have HDR := Lib.hid hdr; clear hdr
      have hn' : n' ≤ 100 := by rw [← HDR.out.1]; exact hsh p hpn
      have hp2 : (p : Int) < (n : Int) := by omega
      have HSB : Hid (∀ w', Below W.heap.size W w' → (fun w' => (w'.cell? ⟨w.heap.size, 0, none⟩ = some (.int .i64 k) ∧ w'.cell? ⟨w.heap.size, 1, none⟩ = some (.string s.name) ∧ w'.cell? ⟨w.heap.size, 2, none⟩ = some (.slice G ng cg) ∧ w'.cell? ⟨w.heap.size, 3, none⟩ = some (.bool s.undo)) ∧ (w'.cell? ⟨b, off + p * 3, none⟩ = some (.string (nth ss p).name) ∧ w'.cell? ⟨b, off + p * 3 + 1, none⟩ = some (.slice A' n' c') ∧ w'.cell? ⟨b, off + p * 3 + 2, none⟩ = some (.bool (nth ss p).undo))) w') := Lib.hid (fun w' h => by
        have e1 := (h.block _ hxl).trans HX.out
        exact ⟨⟨(blk_cl (k := 0) e1 rfl).1, (blk_cl (k := 1) e1 rfl).1, (blk_cl (k := 2) e1 rfl).1, (blk_cl (k := 3) e1 rfl).1⟩, (h.cell (p := ⟨b, off + p * 3, none⟩) hbl).trans d1, (h.cell (p := ⟨b, off + p * 3 + 1, none⟩) hbl).trans d2, (h.cell (p := ⟨b, off + p * 3 + 2, none⟩) hbl).trans d3⟩)
      by_cases hk3 : k = 3
      · have HE := Lib.hid (HE3.out hk3)
        subst hk3
        clear HE3 HE4
        go_wp2_with fail
        go_region_held3 (fun w' => (w'.cell? ⟨w.heap.size, 0, none⟩ = some (.int .i64 3) ∧ w'.cell? ⟨w.heap.size, 1, none⟩ = some (.string s.name) ∧ w'.cell? ⟨w.heap.size, 2, none⟩ = some (.slice G ng cg) ∧ w'.cell? ⟨w.heap.size, 3, none⟩ = some (.bool s.undo)) ∧ (w'.cell? ⟨b, off + p * 3, none⟩ = some (.string (nth ss p).name) ∧ w'.cell? ⟨b, off + p * 3 + 1, none⟩ = some (.slice A' n' c') ∧ w'.cell? ⟨b, off + p * 3 + 2, none⟩ = some (.bool (nth ss p).undo)))
          ((refine HSB.out _ ?_; (repeat (first | with_reducible exact hbw | with_reducible exact Below.refl _ _ | apply Below.drew | fail "x")); done))
          (first | (go_at_call 136; refine (l12With_any _ _ _ _ _ _ ss ⟨s.name, s.after, (nth ss p).undo⟩ _ _ _ (HRW.out.below (by repeat (first | with_reducible exact Below.refl _ _ | apply Below.drew))) hok hn (HGW.out.below (by repeat (first | with_reducible exact Below.refl _ _ | apply Below.drew))) hng).mono ?_; rintro e w5 ⟨B5, m5, d5, rfl, hk5, hb5⟩; have hbw : Below W.heap.size W w5 := (Below.refl W.heap.size W).drew.trans hb5) | fail "no arm")
        all_goals
          go_wp2_with fail
          exact bodyPost_ret (v := .tuple #[.slice B5 m5 d5, .bool true]) (by simp [results, Tryz.results115, go_sem]) rfl ⟨B5, m5, d5, by rw [HE.out], by rw [HE.out]; exact hk5.mono HBW.out.size, HBW.out.trans (hbw.mono HBW.out.size)⟩
      · have hk4 : k = 4 := by omega
        have HE := Lib.hid (HE4.out hk4)
        subst hk4
        clear HE3 HE4
        go_wp2_with fail
        go_region_held3 (fun w' => (w'.cell? ⟨w.heap.size, 0, none⟩ = some (.int .i64 4) ∧ w'.cell? ⟨w.heap.size, 1, none⟩ = some (.string s.name) ∧ w'.cell? ⟨w.heap.size, 2, none⟩ = some (.slice G ng cg) ∧ w'.cell? ⟨w.heap.size, 3, none⟩ = some (.bool s.undo)) ∧ (w'.cell? ⟨b, off + p * 3, none⟩ = some (.string (nth ss p).name) ∧ w'.cell? ⟨b, off + p * 3 + 1, none⟩ = some (.slice A' n' c') ∧ w'.cell? ⟨b, off + p * 3 + 2, none⟩ = some (.bool (nth ss p).undo)))
          ((refine HSB.out _ ?_; (repeat (first | with_reducible exact hbw | with_reducible exact Below.refl _ _ | apply Below.drew | fail "x")); done))
          (first | (go_at_call 136; refine (l12With_any _ _ _ _ _ _ ss ⟨s.name, (nth ss p).after, s.undo⟩ _ _ _ (HRW.out.below (by repeat (first | with_reducible exact Below.refl _ _ | apply Below.drew))) hok hn (HDR.out.below (by repeat (first | with_reducible exact Below.refl _ _ | apply Below.drew))) (by omega)).mono ?_; rintro e w5 ⟨B5, m5, d5, rfl, hk5, hb5⟩; have hbw : Below W.heap.size W w5 := (Below.refl W.heap.size W).drew.trans hb5) | fail "no arm")
        all_goals
          go_wp2_with fail
          exact bodyPost_ret (v := .tuple #[.slice B5 m5 d5, .bool true]) (by simp [results, Tryz.results115, go_sem]) rfl ⟨B5, m5, d5, by rw [HE.out], by rw [HE.out]; exact hk5.mono HBW.out.size, HBW.out.trans (hbw.mono HBW.out.size)⟩
    · have hk3 : k ≠ 3 := by omega
      have hk4 : k ≠ 4 := by omega
      have HE := Lib.hid (chgS_no hh hk2 hk3 hk4)
      clear hk34 hh
      generalize idxI (namesOf ss) s.name = z9 at *
      go_wp2_with fail
      all_goals exact bodyPost_ret (v := .tuple #[.slice (some ⟨W.heap.size, 0, none⟩) 0 0, .bool false]) (by simp [results, Tryz.results115, go_sem]) rfl ⟨some ⟨W.heap.size, 0, none⟩, 0, 0, by rw [HE.out], by rw [HE.out]; exact SRow.made HBW.out.size rfl, HBW.out.alloc HBW.out.size _⟩

end Go.Proofs.YthdfefgianokgaaGreatDoor

/- A change of a flow, the reference's side. -/
namespace Go.Proofs.YthdfefgianokgaaGreatDoor
open Go.RowKit

theorem chgB_f {f : Flow} {k : Int} {s : Step} (h : flowB f = false) : chgB f k s = false := by unfold chgB; rw [h]; rfl
theorem chgB_s {f : Flow} {k : Int} {s : Step} (h : stepB s = false) : chgB f k s = false := by unfold chgB; rw [h]; simp
theorem chgB_k {f : Flow} {k : Int} {s : Step} (h : (chgS k s f.steps).2 = false) : chgB f k s = false := by unfold chgB; rw [h]; simp
theorem chgB_g {f : Flow} {k : Int} {s : Step} (h : flowB ⟨f.ver + 1, (chgS k s f.steps).1⟩ = false) : chgB f k s = false := by unfold chgB; rw [h]; simp
theorem chgB_yes {f : Flow} {k : Int} {s : Step} (h1 : flowB f = true) (h2 : stepB s = true) (h3 : (chgS k s f.steps).2 = true) (h4 : flowB ⟨f.ver + 1, (chgS k s f.steps).1⟩ = true) : chgB f k s = true := by unfold chgB; rw [h1, h2, h3, h4]; rfl
theorem chgF_flow {f : Flow} {k : Int} {s : Step} (h : chgB f k s = true) : flowB (chgF f k s) = true := by
  rw [chgF_yes h]
  unfold chgB at h
  simp only [Bool.and_eq_true] at h
  exact h.2.2.2

set_option maxRecDepth 100000 in
set_option maxHeartbeats 4000000 in
theorem fcS_any (A G : Option Addr) (n c ng cg : Nat) (f : Flow) (k : Int) (s : Step) (lo lo' : Nat) (w : World) (hr : RStep w lo A n f.steps) (hok : okSteps f.steps) (hg : RStr w lo' G ng s.after) (hos : okStep s) :
    Calls Tryz.prog 81 #[.agg #[.int .i64 f.ver, .slice A n c], .agg #[.int .i64 k, .string s.name, .slice G ng cg, .bool s.undo]] w fun e w' => ∃ B m d, e = .returned (.tuple #[.agg #[.int .i64 (chgF f k s).ver, .slice B m d], .bool (chgB f k s)]) ∧ (chgB f k s = true → SRow w' w.heap.size (.slice B m d) m (chgF f k s).steps) ∧ Below w.heap.size w w' := by
  have HL := Lib.hid hr.1
  have HX := Lib.hid (heap_old (o := .cells #[.int .i64 0, .slice none 0 0] 38) (heap_old (o := .cells #[.int .i64 k, .string s.name, .slice G ng cg, .bool s.undo] 88) (heap_new (w := w) (o := .cells #[.int .i64 f.ver, .slice A n c] 38) rfl)))
  have HY := Lib.hid (heap_old (o := .cells #[.int .i64 0, .slice none 0 0] 38) (heap_new (w := w.alloc (.cells #[.int .i64 f.ver, .slice A n c] 38)) (b := w.heap.size + 1) (o := .cells #[.int .i64 k, .string s.name, .slice G ng cg, .bool s.undo] 88) (by simp)))
  have HZ := Lib.hid (heap_new (w := (w.alloc (.cells #[.int .i64 f.ver, .slice A n c] 38)).alloc (.cells #[.int .i64 k, .string s.name, .slice G ng cg, .bool s.undo] 88)) (b := w.heap.size + 1 + 1) (o := .cells #[.int .i64 0, .slice none 0 0] 38) (by simp))
  have HBW := Lib.hid ((((Below.refl w.heap.size w).alloc (Nat.le_refl _) (.cells #[.int .i64 f.ver, .slice A n c] 38)).alloc (by simp) (.cells #[.int .i64 k, .string s.name, .slice G ng cg, .bool s.undo] 88)).alloc (by simp; omega) (.cells #[.int .i64 0, .slice none 0 0] 38))
  have HRW := Lib.hid (((hr.alloc (.cells #[.int .i64 f.ver, .slice A n c] 38)).alloc (.cells #[.int .i64 k, .string s.name, .slice G ng cg, .bool s.undo] 88)).alloc (.cells #[.int .i64 0, .slice none 0 0] 38)); clear hr
  have HGW := Lib.hid (((hg.alloc (.cells #[.int .i64 f.ver, .slice A n c] 38)).alloc (.cells #[.int .i64 k, .string s.name, .slice G ng cg, .bool s.undo] 88)).alloc (.cells #[.int .i64 0, .slice none 0 0] 38)); clear hg
  go_enter Tryz.func81, Tryz.ntmps81
  go_upto_region 1 with fail
  generalize ((w.alloc (.cells #[.int .i64 f.ver, .slice A n c] 38)).alloc (.cells #[.int .i64 k, .string s.name, .slice G ng cg, .bool s.undo] 88)).alloc (.cells #[.int .i64 0, .slice none 0 0] 38) = W at *
  have hsW := HBW.out.size
  have hzl := heap_lt HZ.out
  have HSB : Hid (∀ w', Below W.heap.size W w' → w'.cell? ⟨w.heap.size, 0, none⟩ = some (.int .i64 f.ver) ∧ w'.cell? ⟨w.heap.size, 1, none⟩ = some (.slice A n c) ∧ w'.cell? ⟨w.heap.size + 1, 0, none⟩ = some (.int .i64 k) ∧ w'.cell? ⟨w.heap.size + 1, 1, none⟩ = some (.string s.name) ∧ w'.cell? ⟨w.heap.size + 1, 2, none⟩ = some (.slice G ng cg) ∧ w'.cell? ⟨w.heap.size + 1, 3, none⟩ = some (.bool s.undo)) := Lib.hid (fun w' h => by
    have e1 := (h.block _ (heap_lt HX.out)).trans HX.out
    have e2 := (h.block _ (heap_lt HY.out)).trans HY.out
    exact ⟨(blk_cl (k := 0) e1 rfl).1, (blk_cl (k := 1) e1 rfl).1, (blk_cl (k := 0) e2 rfl).1, (blk_cl (k := 1) e2 rfl).1, (blk_cl (k := 2) e2 rfl).1, (blk_cl (k := 3) e2 rfl).1⟩)
  obtain ⟨f0, f1, x0, x1, x2, x3⟩ := HSB.out W (Below.refl _ _)
  cases hf : flowB f
  · go_wp2_with (go_at_call 41; refine (flowS_any _ _ _ f _ _ HRW.out hok).mono ?_; rintro e w1 ⟨rfl, hb1⟩; rw [hf]; clear f0 f1 x0 x1 x2 x3; obtain ⟨f0, f1, x0, x1, x2, x3⟩ := HSB.out w1 hb1; have HZ9 := Lib.hid ((hb1.block _ (heap_lt HZ.out)).trans HZ.out); have z0 := (blk_cl (k := 0) HZ9.out rfl).1; have z0' := (blk_cl (k := 0) HZ9.out rfl).2; have z1 := (blk_cl (k := 1) HZ9.out rfl).1; have z1' := (blk_cl (k := 1) HZ9.out rfl).2)
    have HE := Lib.hid (chgF_no (k := k) (s := s) (chgB_f hf))
    have HP := Lib.hid (chgB_f (k := k) (s := s) hf)
    have hres := set21 (u := .slice none 0 0) (set20 (u := .int .i64 0) HZ9.out)
    have e0 := (blk_cl (k := 0) hres rfl).1
    have e1 := (blk_cl (k := 1) hres rfl).1
    exact bodyPost_ret (v := .tuple #[.agg #[.int .i64 0, .slice none 0 0], .bool false]) (by simp [results, Tryz.results81, go_sem, e0, e1]) rfl ⟨none, 0, 0, by rw [HE.out, HP.out], fun h => by (rw [HP.out] at h; cases h), ((HBW.out.trans (hb1.mono HBW.out.size)).setCell (p := ⟨w.heap.size + 1 + 1, 0, none⟩) (by show w.heap.size ≤ w.heap.size + 1 + 1; omega) _).setCell (p := ⟨w.heap.size + 1 + 1, 1, none⟩) (by show w.heap.size ≤ w.heap.size + 1 + 1; omega) _⟩
  · have hn8 : n ≤ 8 := by rw [← HL.out]; exact (flowB_iff.1 hf).2.2.1.2
    have hv1 : (1 : Int) ≤ f.ver := (flowB_iff.1 hf).2.1.1
    have hv2 : f.ver ≤ (99 : Int) := (flowB_iff.1 hf).2.1.2
    have HST : Hid (∀ w1, Below W.heap.size W w1 → Calls Tryz.prog 70 #[.agg #[.string s.name, .slice G ng cg, .bool s.undo]] w1 fun e w' => e = .returned (.bool (stepB s)) ∧ Below W.heap.size W w') := Lib.hid (fun w1 h1 => (stepS_any _ _ _ s _ _ (HGW.out.below h1) hos).mono (by
      rintro e w2 ⟨h2, h3⟩
      exact ⟨h2, h1.trans (h3.mono h1.size)⟩))
    cases hst : stepB s
    · go_wp2_with (first | (go_at_call 41; refine (flowS_any _ _ _ f _ _ HRW.out hok).mono ?_; rintro e w1 ⟨rfl, hb1⟩; rw [hf]; clear f0 f1 x0 x1 x2 x3; obtain ⟨f0, f1, x0, x1, x2, x3⟩ := HSB.out w1 hb1) | (go_at_call 70; refine (HST.out _ hb1).mono ?_; rintro e w2 ⟨rfl, hb2⟩; rw [hst]; clear f0 f1 x0 x1 x2 x3; obtain ⟨f0, f1, x0, x1, x2, x3⟩ := HSB.out w2 hb2; have HZ9 := Lib.hid ((hb2.block _ (heap_lt HZ.out)).trans HZ.out); have z0 := (blk_cl (k := 0) HZ9.out rfl).1; have z0' := (blk_cl (k := 0) HZ9.out rfl).2; have z1 := (blk_cl (k := 1) HZ9.out rfl).1; have z1' := (blk_cl (k := 1) HZ9.out rfl).2) | fail "no arm")
      have HE := Lib.hid (chgF_no (chgB_s (f := f) (k := k) hst))
      have HP := Lib.hid (chgB_s (f := f) (k := k) hst)
      have hres := set21 (u := .slice none 0 0) (set20 (u := .int .i64 0) HZ9.out)
      have e0 := (blk_cl (k := 0) hres rfl).1
      have e1 := (blk_cl (k := 1) hres rfl).1
      exact bodyPost_ret (v := .tuple #[.agg #[.int .i64 0, .slice none 0 0], .bool false]) (by simp [results, Tryz.results81, go_sem, e0, e1]) rfl ⟨none, 0, 0, by rw [HE.out, HP.out], fun h => by (rw [HP.out] at h; cases h), ((HBW.out.trans (hb2.mono HBW.out.size)).setCell (p := ⟨w.heap.size + 1 + 1, 0, none⟩) (by show w.heap.size ≤ w.heap.size + 1 + 1; omega) _).setCell (p := ⟨w.heap.size + 1 + 1, 1, none⟩) (by show w.heap.size ≤ w.heap.size + 1 + 1; omega) _⟩
    · go_wp2_with (first | (go_at_call 41; refine (flowS_any _ _ _ f _ _ HRW.out hok).mono ?_; rintro e w1 ⟨rfl, hb1⟩; rw [hf]; clear f0 f1 x0 x1 x2 x3; obtain ⟨f0, f1, x0, x1, x2, x3⟩ := HSB.out w1 hb1) | (go_at_call 70; refine (HST.out _ hb1).mono ?_; rintro e w2 ⟨rfl, hb2⟩; rw [hst]; clear f0 f1 x0 x1 x2 x3; obtain ⟨f0, f1, x0, x1, x2, x3⟩ := HSB.out w2 hb2; have HZ9 := Lib.hid ((hb2.block _ (heap_lt HZ.out)).trans HZ.out); have z0 := (blk_cl (k := 0) HZ9.out rfl).1; have z0' := (blk_cl (k := 0) HZ9.out rfl).2; have z1 := (blk_cl (k := 1) HZ9.out rfl).1; have z1' := (blk_cl (k := 1) HZ9.out rfl).2) | fail "no arm")
      clear HZ9 z0 z0' z1 z1'
      refine (l12Steps_any _ _ _ _ _ _ f.steps k s _ _ _ (HRW.out.below hb2) hok (by omega) (fun j hj => by have := (stepB_names (step_ok hf (by rw [HL.out]; exact hj))).2.1; omega) (HGW.out.below hb2) (by have := (stepB_names hst).2.1; rw [← HGW.out.1]; omega)).mono ?_
      rintro e w3 ⟨B, m, d, rfl, hrow, hb3⟩
      have hbW : Below W.heap.size W w3 := hb2.trans (hb3.mono hb2.size)
      have HROW := Lib.hid (hrow.mono (Nat.le_trans hsW hb2.size)); clear hrow hb3
      clear f0 f1 x0 x1 x2 x3
      obtain ⟨f0, f1, x0, x1, x2, x3⟩ := HSB.out w3 hbW
      have HOKC := Lib.hid (chgS_ok (k := k) hf hst)
      cases hc2 : (chgS k s f.steps).2
      · have HX3 := Lib.hid ((hbW.block _ hzl).trans HZ.out)
        have hw3 : w.heap.size + 1 + 1 < w3.heap.size := Nat.lt_of_lt_of_le hzl hbW.size
        have hbV : Below W.heap.size W (w3.alloc (.cells #[.int .i64 (f.ver + 1), .slice B m d] 38)) := hbW.alloc hbW.size _
        have HE := Lib.hid (chgF_no (chgB_k hc2))
        have HP := Lib.hid (chgB_k hc2)
        obtain ⟨f0, f1, x0, x1, x2, x3⟩ := HSB.out _ hbW
        have HZ9 := Lib.hid ((hbW.block _ (heap_lt HZ.out)).trans HZ.out)
        have z0 := (blk_cl (k := 0) HZ9.out rfl).1
        have z0' := (blk_cl (k := 0) HZ9.out rfl).2
        have z1 := (blk_cl (k := 1) HZ9.out rfl).1
        have z1' := (blk_cl (k := 1) HZ9.out rfl).2
        go_wp2_with fail
        have hres := heap_old (o := .cells #[.int .i64 (f.ver + 1), .slice B m d] 38) (set21 (u := .slice none 0 0) (set20 (u := .int .i64 0) HZ9.out))
        have e0 := (blk_cl (k := 0) hres rfl).1
        have e1 := (blk_cl (k := 1) hres rfl).1
        exact bodyPost_ret (v := .tuple #[.agg #[.int .i64 0, .slice none 0 0], .bool false]) (by simp [results, Tryz.results81, go_sem, e0, e1]) rfl ⟨none, 0, 0, by rw [HE.out, HP.out], fun h => by (rw [HP.out] at h; cases h), (((HBW.out.trans (hbW.mono HBW.out.size)).setCell (p := ⟨w.heap.size + 1 + 1, 0, none⟩) (by show w.heap.size ≤ w.heap.size + 1 + 1; omega) _).setCell (p := ⟨w.heap.size + 1 + 1, 1, none⟩) (by show w.heap.size ≤ w.heap.size + 1 + 1; omega) _).alloc (by have := hbW.size; simp [World.setCell]; omega) (.cells #[.int .i64 (f.ver + 1), .slice B m d] 38)⟩
      · have HOUT : Hid (∃ A' c', Value.slice B m d = .slice A' m c' ∧ RStep w3 w.heap.size A' m (chgS k s f.steps).1) := Lib.hid HROW.out.hat
        obtain ⟨A', c', e9, hrs⟩ := HOUT.out
        injection e9 with e9 _ e9'
        subst e9; subst e9'
        have HRS := Lib.hid (hrs.alloc (.cells #[.int .i64 (f.ver + 1), .slice B m d] 38)); clear hrs HOUT
        have HNB := Lib.hid (heap_new (w := w3) (o := .cells #[.int .i64 (f.ver + 1), .slice B m d] 38) rfl)
        have hbV : Below W.heap.size W (w3.alloc (.cells #[.int .i64 (f.ver + 1), .slice B m d] 38)) := hbW.alloc hbW.size _
        have HRV := Lib.hid (HROW.out.below ((Below.refl _ _).alloc (Nat.le_refl _) (.cells #[.int .i64 (f.ver + 1), .slice B m d] 38)))
        have g0 := (blk_cl (k := 0) HNB.out rfl).1
        have g1 := (blk_cl (k := 1) HNB.out rfl).1
        go_wp2_with fail
        refine (flowS_any _ _ _ ⟨f.ver + 1, (chgS k s f.steps).1⟩ _ _ HRS.out HOKC.out).mono ?_
        rintro e w5 ⟨rfl, hb5⟩
        have hb6 : Below W.heap.size W w5 := hbV.trans (hb5.mono hbV.size)
        have HR5 := Lib.hid (HRV.out.below hb5)
        have HN5 := Lib.hid ((hb5.block _ (heap_lt HNB.out)).trans HNB.out)
        clear g0 g1 f0 f1 x0 x1 x2 x3
        have g0 := (blk_cl (k := 0) HN5.out rfl).1
        have g1 := (blk_cl (k := 1) HN5.out rfl).1
        cases hg9 : flowB ⟨f.ver + 1, (chgS k s f.steps).1⟩
        · have HE := Lib.hid (chgF_no (chgB_g hg9))
          have HP := Lib.hid (chgB_g hg9)
          obtain ⟨f0, f1, x0, x1, x2, x3⟩ := HSB.out _ hb6
          have HZ9 := Lib.hid ((hb6.block _ (heap_lt HZ.out)).trans HZ.out)
          have z0 := (blk_cl (k := 0) HZ9.out rfl).1
          have z0' := (blk_cl (k := 0) HZ9.out rfl).2
          have z1 := (blk_cl (k := 1) HZ9.out rfl).1
          have z1' := (blk_cl (k := 1) HZ9.out rfl).2
          go_wp2_with fail
          have hres := set21 (u := .slice none 0 0) (set20 (u := .int .i64 0) HZ9.out)
          have e0 := (blk_cl (k := 0) hres rfl).1
          have e1 := (blk_cl (k := 1) hres rfl).1
          exact bodyPost_ret (v := .tuple #[.agg #[.int .i64 0, .slice none 0 0], .bool false]) (by simp [results, Tryz.results81, go_sem, e0, e1]) rfl ⟨none, 0, 0, by rw [HE.out, HP.out], fun h => by (rw [HP.out] at h; cases h), ((HBW.out.trans (hb6.mono HBW.out.size)).setCell (p := ⟨w.heap.size + 1 + 1, 0, none⟩) (by show w.heap.size ≤ w.heap.size + 1 + 1; omega) _).setCell (p := ⟨w.heap.size + 1 + 1, 1, none⟩) (by show w.heap.size ≤ w.heap.size + 1 + 1; omega) _⟩
        · have HP := Lib.hid (chgB_yes hf hst hc2 hg9)
          have HE := Lib.hid (chgF_yes HP.out)
          obtain ⟨f0, f1, x0, x1, x2, x3⟩ := HSB.out _ hb6
          have HZ9 := Lib.hid ((hb6.block _ (heap_lt HZ.out)).trans HZ.out)
          have z0 := (blk_cl (k := 0) HZ9.out rfl).1
          have z0' := (blk_cl (k := 0) HZ9.out rfl).2
          have z1 := (blk_cl (k := 1) HZ9.out rfl).1
          have z1' := (blk_cl (k := 1) HZ9.out rfl).2
          go_wp2_with fail
          have hres := set21 (u := .slice B m d) (set20 (u := .int .i64 (f.ver + 1)) HZ9.out)
          have e0 := (blk_cl (k := 0) hres rfl).1
          have e1 := (blk_cl (k := 1) hres rfl).1
          exact bodyPost_ret (v := .tuple #[.agg #[.int .i64 (f.ver + 1), .slice B m d], .bool true]) (by simp [results, Tryz.results81, go_sem, e0, e1]) rfl ⟨B, m, d, by rw [HE.out, HP.out], fun _ => by (rw [HE.out]; exact (HR5.out.set (o := 0) (u := .int .i64 (f.ver + 1)) HZ9.out (by decide) (by decide)).set (o := 1) (u := .slice B m d) (set20 HZ9.out) (by decide) (by decide)), ((HBW.out.trans (hb6.mono HBW.out.size)).setCell (p := ⟨w.heap.size + 1 + 1, 0, none⟩) (by show w.heap.size ≤ w.heap.size + 1 + 1; omega) _).setCell (p := ⟨w.heap.size + 1 + 1, 1, none⟩) (by show w.heap.size ≤ w.heap.size + 1 + 1; omega) _⟩
end Go.Proofs.YthdfefgianokgaaGreatDoor

/- A change drawn. -/
namespace Go.Proofs.YthdfefgianokgaaGreatDoor
open Go.RowKit

theorem cellFarQ {w : World} {b b' o o' : Nat} {u : Value} (h : b ≠ b') : (w.setCell ⟨b', o', none⟩ u).cell? ⟨b, o, none⟩ = w.cell? ⟨b, o, none⟩ :=
  World.cell?_setCell_other _ _ _ _ (fun e => by injection e with e; exact h e.symm)
end Go.Proofs.YthdfefgianokgaaGreatDoor

/- A flow that is often nearly another one, drawn. -/
namespace Go.Proofs.YthdfefgianokgaaGreatDoor
open Go.RowKit

theorem SRow.hat2 {w : World} {base n c : Nat} {A : Option Addr} {ss : List Step} (h : SRow w base (.slice A n c) n ss) : RStep w base A n ss := by
  obtain ⟨A', c', e, h'⟩ := h.hat
  injection e with e _ _
  subst e
  exact h'
end Go.Proofs.YthdfefgianokgaaGreatDoor

/- A step and a flow cloned: the program's. -/
namespace Go.Proofs.YthdfefgianokgaaGreatDoor
open Go.RowKit

set_option maxRecDepth 100000 in
theorem stepCloneC_any (A : Option Addr) (n c : Nat) (s : Step) (lo : Nat) (w : World) (hr : RStr w lo A n s.after) (hn : n ≤ 1048576) :
    Calls Tryz.prog 96 #[.agg #[.string s.name, .slice A n c, .bool s.undo]] w fun e w' => ∃ A' c', e = .returned (.agg #[.string s.name, .slice A' n c', .bool s.undo]) ∧ SStr w' w.heap.size A' n s.after ∧ Below w.heap.size w w' ∧ n ≤ c' := by
  have HX := Lib.hid (heap_old (o := .cells #[.string ⟨#[]⟩, .slice none 0 0, .bool false] 35) (heap_new (w := w) (o := .cells #[.string s.name, .slice A n c, .bool s.undo] 35) rfl))
  have HZ := Lib.hid (heap_new (w := w.alloc (.cells #[.string s.name, .slice A n c, .bool s.undo] 35)) (b := w.heap.size + 1) (o := .cells #[.string ⟨#[]⟩, .slice none 0 0, .bool false] 35) (by simp))
  have HB := Lib.hid (((Below.refl w.heap.size w).alloc (Nat.le_refl _) (.cells #[.string s.name, .slice A n c, .bool s.undo] 35)).alloc (by simp) (.cells #[.string ⟨#[]⟩, .slice none 0 0, .bool false] 35))
  have HR := Lib.hid ((hr.alloc (.cells #[.string s.name, .slice A n c, .bool s.undo] 35)).alloc (.cells #[.string ⟨#[]⟩, .slice none 0 0, .bool false] 35)); clear hr
  go_enter Tryz.func96, Tryz.ntmps96
  go_upto_region 1 with fail
  generalize (w.alloc (.cells #[.string s.name, .slice A n c, .bool s.undo] 35)).alloc (.cells #[.string ⟨#[]⟩, .slice none 0 0, .bool false] 35) = W at *
  have x1 := (blk_cl (k := 1) HX.out rfl).1
  go_wp2_with fail
  refine (cloneNames_any _ _ _ s.after _ _ HR.out hn).mono ?_
  rintro e w3 ⟨v3, rfl, how3⟩
  have hb3 := how3.below
  have HX3 := Lib.hid ((hb3.block _ (heap_lt HX.out)).trans HX.out)
  have HZ3 := Lib.hid ((hb3.block _ (heap_lt HZ.out)).trans HZ.out)
  have HB3 := Lib.hid (HB.out.trans (hb3.mono HB.out.size))
  obtain ⟨A3, c3, rfl, hss⟩ := own_sstr how3.row
  have HLE3 := Lib.hid (row_cap how3.row)
  have HS3 := Lib.hid (hss.mono HB.out.size)
  clear how3 hb3 hss x1
  have a1 := (blk_cl (k := 1) HX3.out rfl).1
  have a1' := (blk_cl (k := 1) HX3.out rfl).2
  have HX4 := Lib.hid (set31 (u := .slice A3 n c3) HX3.out)
  have HZ4 := Lib.hid (set_ne (b := w.heap.size) (o := 1) (u := .slice A3 n c3) HZ3.out (by omega))
  have y0 := (blk_cl (k := 0) HX4.out rfl).1
  have y0' := (blk_cl (k := 0) HX4.out rfl).2
  have y1 := (blk_cl (k := 1) HX4.out rfl).1
  have y1' := (blk_cl (k := 1) HX4.out rfl).2
  have y2 := (blk_cl (k := 2) HX4.out rfl).1
  have y2' := (blk_cl (k := 2) HX4.out rfl).2
  have z0 := (blk_cl (k := 0) HZ4.out rfl).1
  have z0' := (blk_cl (k := 0) HZ4.out rfl).2
  have z1 := (blk_cl (k := 1) HZ4.out rfl).1
  have z1' := (blk_cl (k := 1) HZ4.out rfl).2
  have z2 := (blk_cl (k := 2) HZ4.out rfl).1
  have z2' := (blk_cl (k := 2) HZ4.out rfl).2
  go_wp2_with fail
  have hres := set3 (u0 := .string s.name) (u1 := .slice A3 n c3) (u2 := .bool s.undo) HZ4.out
  have e0 := (blk_cl (k := 0) hres rfl).1
  have e1 := (blk_cl (k := 1) hres rfl).1
  have e2 := (blk_cl (k := 2) hres rfl).1
  have q1 : w.heap.size ≤ w.heap.size + 1 := by omega
  have hbl := (((HB3.out.setCell (p := ⟨w.heap.size, 1, none⟩) (Nat.le_refl _) (.slice A3 n c3)).setCell (p := ⟨w.heap.size + 1, 0, none⟩) q1 (.string s.name)).setCell (p := ⟨w.heap.size + 1, 1, none⟩) q1 (.slice A3 n c3)).setCell (p := ⟨w.heap.size + 1, 2, none⟩) q1 (.bool s.undo)
  exact bodyPost_ret (v := .agg #[.string s.name, .slice A3 n c3, .bool s.undo]) (by simp [results, Tryz.results96, go_sem, e0, e1, e2]) rfl ⟨_, _, rfl, HS3.out.kept (fun b cs _ hc => by
    have n1 : b ≠ w.heap.size := fun e => by rw [e, HX3.out] at hc; injection hc with hc; injection hc with _ hc _; exact absurd hc (by decide)
    have n2 : b ≠ w.heap.size + 1 := fun e => by rw [e, HZ3.out] at hc; injection hc with hc; injection hc with _ hc _; exact absurd hc (by decide)
    rw [Below.heap_setCell _ _ _ _ n2, Below.heap_setCell _ _ _ _ n2, Below.heap_setCell _ _ _ _ n2, Below.heap_setCell _ _ _ _ n1]), hbl, HLE3.out⟩
theorem stepClone_any (A : Option Addr) (n c : Nat) (s : Step) (lo : Nat) (w : World) (hr : RStr w lo A n s.after) (hn : n ≤ 1048576) :
    Calls Tryz.prog 96 #[.agg #[.string s.name, .slice A n c, .bool s.undo]] w fun e w' => ∃ A' c', e = .returned (.agg #[.string s.name, .slice A' n c', .bool s.undo]) ∧ SStr w' w.heap.size A' n s.after ∧ Below w.heap.size w w' :=
  (stepCloneC_any A n c s lo w hr hn).mono fun _ _ ⟨A', c', h1, h2, h3, _⟩ => ⟨A', c', h1, h2, h3⟩

set_option maxRecDepth 100000 in
set_option maxHeartbeats 4000000 in
theorem flowCloneC_any (A : Option Addr) (n c : Nat) (f : Flow) (lo : Nat) (w : World) (hr : RStep w lo A n f.steps) (hok : okSteps f.steps) :
    Calls Tryz.prog 95 #[.agg #[.int .i64 f.ver, .slice A n c]] w fun e w' => ∃ B d, e = .returned (.agg #[.int .i64 f.ver, .slice B n d]) ∧ SRowC w' w.heap.size (.slice B n d) n f.steps ∧ Below w.heap.size w w' := by
  have HL := Lib.hid hr.1
  have HOK := Lib.hid hok; clear hok
  have hn : n ≤ 1048576 := by have := HOK.out.1; rw [HL.out] at this; exact this
  have HR := Lib.hid hr; clear hr
  have HF0 := Lib.hid (heap_old (o := .cells #[.int .i64 0, .slice none 0 0] 38) (heap_new (w := w) (o := .cells #[.int .i64 f.ver, .slice A n c] 38) rfl))
  have HZ0 := Lib.hid (heap_old (o := .cells #[.int .i64 f.ver, .slice none 0 0] 38) (heap_new (w := (w.alloc (.cells #[.int .i64 f.ver, .slice A n c] 38))) (b := w.heap.size + 1) (o := .cells #[.int .i64 0, .slice none 0 0] 38) (by simp)))
  have HX0 := Lib.hid (heap_new (w := ((w.alloc (.cells #[.int .i64 f.ver, .slice A n c] 38)).alloc (.cells #[.int .i64 0, .slice none 0 0] 38))) (b := w.heap.size + 1 + 1) (o := .cells #[.int .i64 f.ver, .slice none 0 0] 38) (by simp))
  have HB0 := Lib.hid ((((Below.refl w.heap.size w).alloc (Nat.le_refl _) (.cells #[.int .i64 f.ver, .slice A n c] 38)).alloc (by simp) (.cells #[.int .i64 0, .slice none 0 0] 38)).alloc (by simp; omega) (.cells #[.int .i64 f.ver, .slice none 0 0] 38))
  have HN0 : Hid (SRowC (((w.alloc (.cells #[.int .i64 f.ver, .slice A n c] 38)).alloc (.cells #[.int .i64 0, .slice none 0 0] 38)).alloc (.cells #[.int .i64 f.ver, .slice none 0 0] 38)) w.heap.size (.slice none 0 0) 0 []) := Lib.hid ⟨[], rfl, own_nil, fun p hp => by cases hp⟩
  have f0 := (blk_cl (k := 0) HF0.out rfl).1
  have f1 := (blk_cl (k := 1) (heap_old (o := .cells #[.int .i64 f.ver, .slice none 0 0] 38) HF0.out) rfl).1
  go_enter Tryz.func95, Tryz.ntmps95
  go_wp2_with fail
  go_loopw [12] (fun i wr => ∃ k : Nat, ∃ B : Option Addr, ∃ d : Nat, k ≤ n ∧ i = .int .i64 (k : Int) ∧ SRowC wr w.heap.size (.slice B k d) k (f.steps.take k) ∧ Below w.heap.size w wr ∧ wr.heap[w.heap.size + 1]? = some (.cells #[.int .i64 0, .slice none 0 0] 38) ∧ wr.heap[w.heap.size + 1 + 1]? = some (.cells #[.int .i64 f.ver, .slice B k d] 38)) (fun i _ => n - (intOf i).toNat)
  case atStart => exact ⟨0, _, 0, Nat.zero_le _, rfl, HN0.out, HB0.out, HZ0.out, HX0.out⟩
  case round =>
    obtain ⟨wo, rfl⟩ : ∃ wo : World, wo = wr := ⟨_, rfl⟩
    obtain ⟨k, B, d, hk, rfl, hrow, hbw0, hz, hx⟩ := hrel
    clear f0 f1
    by_cases hlt : k < n
    · obtain ⟨b, off, rfl, ⟨_, hbl⟩, hc⟩ := RStep.at_ HR.out hlt
      obtain ⟨A', n', c', ⟨d1, d2, d3⟩, hdr, _⟩ := hc k hlt
      clear hc
      have d1 := (hbw0.cell (p := ⟨b, off + k * 3, none⟩) hbl).trans d1
      have d2 := (hbw0.cell (p := ⟨b, off + k * 3 + 1, none⟩) hbl).trans d2
      have d3 := (hbw0.cell (p := ⟨b, off + k * 3 + 2, none⟩) hbl).trans d3
      have hkl : k < f.steps.length := by rw [HL.out]; exact hlt
      have hn' : n' ≤ 1048576 := by rw [← hdr.1]; exact (HOK.out.2 k hkl).2.1
      have HT := Lib.hid (take_nth hkl)
      have hk0 : (0 : Int) ≤ (k : Int) := by omega
      have hk1 : (k : Int) < (n : Int) := by omega
      have hk2 : ¬ ((k : Int) < 0) := by omega
      have HDR := Lib.hid ((hdr.below hbw0).alloc (.cells #[.string (nth f.steps k).name, .slice A' n' c', .bool (nth f.steps k).undo] 35))
      have HNPB : Hid ((Value.slice B k d).ownBlock ≠ some wo.heap.size) := Lib.hid (fun e => by have := (SRowC.lt hrow e).2; omega)
      have HROW := Lib.hid (hrow.below ((Below.refl _ _).alloc (Nat.le_refl _) (.cells #[.string (nth f.steps k).name, .slice A' n' c', .bool (nth f.steps k).undo] 35)))
      have HBW := Lib.hid (hbw0.alloc hbw0.size (.cells #[.string (nth f.steps k).name, .slice A' n' c', .bool (nth f.steps k).undo] 35))
      have HZ := Lib.hid (heap_old (o := .cells #[.string (nth f.steps k).name, .slice A' n' c', .bool (nth f.steps k).undo] 35) hz)
      have HX := Lib.hid (heap_old (o := .cells #[.string (nth f.steps k).name, .slice A' n' c', .bool (nth f.steps k).undo] 35) hx)
      have HP := Lib.hid (heap_new (w := wo) (o := .cells #[.string (nth f.steps k).name, .slice A' n' c', .bool (nth f.steps k).undo] 35) rfl)
      have hp2 : w.heap.size + 1 + 1 < wo.heap.size := heap_lt hx
      clear hdr hrow hz hx hbw0
      go_upto_region 5 with fail
      generalize wo.alloc (.cells #[.string (nth f.steps k).name, .slice A' n' c', .bool (nth f.steps k).undo] 35) = wq at *
      generalize wo.heap.size = pb at *
      clear d1 d2 d3
      have hsw := HBW.out.size
      have hxl := heap_lt HX.out
      have hpl := heap_lt HP.out
      have x1 := (blk_cl (k := 1) HX.out rfl).1
      have HSB : Hid (∀ w', Below wq.heap.size wq w' → (fun w' : World => w'.cell? ⟨pb, 0, none⟩ = some (.string (nth f.steps k).name) ∧ w'.cell? ⟨pb, 1, none⟩ = some (.slice A' n' c') ∧ w'.cell? ⟨pb, 2, none⟩ = some (.bool (nth f.steps k).undo)) w') := Lib.hid (fun w' h => by
        have e1 := (h.block _ hpl).trans HP.out
        exact ⟨(blk_cl (k := 0) e1 rfl).1, (blk_cl (k := 1) e1 rfl).1, (blk_cl (k := 2) e1 rfl).1⟩)
      have HKF : Hid (∀ w' o u, (fun w' : World => w'.cell? ⟨pb, 0, none⟩ = some (.string (nth f.steps k).name) ∧ w'.cell? ⟨pb, 1, none⟩ = some (.slice A' n' c') ∧ w'.cell? ⟨pb, 2, none⟩ = some (.bool (nth f.steps k).undo)) w' → (fun w' : World => w'.cell? ⟨pb, 0, none⟩ = some (.string (nth f.steps k).name) ∧ w'.cell? ⟨pb, 1, none⟩ = some (.slice A' n' c') ∧ w'.cell? ⟨pb, 2, none⟩ = some (.bool (nth f.steps k).undo)) (w'.setCell ⟨w.heap.size + 1 + 1, o, none⟩ u)) := Lib.hid (fun w' o u h => ⟨(cellFar1 (by omega)).trans h.1, (cellFar1 (by omega)).trans h.2.1, (cellFar1 (by omega)).trans h.2.2⟩)
      have HKG : Hid (∀ (w5 w7 : World) (o : Obj), Below wq.heap.size wq w5 → (w5.alloc o).grownBy w7 (Value.slice B k d).ownBlock → (fun w' : World => w'.cell? ⟨pb, 0, none⟩ = some (.string (nth f.steps k).name) ∧ w'.cell? ⟨pb, 1, none⟩ = some (.slice A' n' c') ∧ w'.cell? ⟨pb, 2, none⟩ = some (.bool (nth f.steps k).undo)) w7) := Lib.hid (fun w5 w7 o h hg => by
        have hne : (Value.slice B k d).ownBlock ≠ some pb := HNPB.out
        have e1 := grown_blk hg (heap_old (o := o) ((h.block _ hpl).trans HP.out)) hne
        exact ⟨(blk_cl (k := 0) e1 rfl).1, (blk_cl (k := 1) e1 rfl).1, (blk_cl (k := 2) e1 rfl).1⟩)
      go_wp2_with fail
      refine wp_region_held_drew (S := fun w' : World => w'.cell? ⟨pb, 0, none⟩ = some (.string (nth f.steps k).name) ∧ w'.cell? ⟨pb, 1, none⟩ = some (.slice A' n' c') ∧ w'.cell? ⟨pb, 2, none⟩ = some (.bool (nth f.steps k).undo)) (by kernel_rfl) (HSB.out _ (Below.refl _ _).drew) (fun hH => ?_)
      refine wpAnyH_takeE (i := 0) (d := some 16) (v := ?v201) rfl (by rfl) (by kernel_rfl) (by kernel_rfl) (by kernel_rfl) (fun _ _ _ h => h) (Or.inl ⟨by rfl, ?y201⟩) hH ?r201
      case y201 => (intro w' hS; (try dsimp only at hS); go_simp; (try with_reducible rfl))
      (try simp only [Act.put, List.setIfInBounds_toArray, List.set_cons_zero, List.set_cons_succ])
      refine wpAnyH_takeE (i := 2) (d := some 18) (v := ?v202) rfl (by rfl) (by kernel_rfl) (by kernel_rfl) (by kernel_rfl) (fun _ _ _ h => h) (Or.inl ⟨by rfl, ?y202⟩) hH ?r202
      case y202 => (intro w' hS; (try dsimp only at hS); go_simp; (try with_reducible rfl))
      (try simp only [Act.put, List.setIfInBounds_toArray, List.set_cons_zero, List.set_cons_succ])
      refine wpAnyH_ready (rs := [1, 3]) (by kernel_rfl) (by simp) ?_
      refine AllReadyH.cons rfl (fun K hK => ?_) ?_
      · go_simp
        refine hK.out _ _ (HSB.out _ (Below.refl _ _).drew) (fun hH2 => ?_)
        clear hK K hH
        have hH := hH2
        (try simp only [Act.put, List.setIfInBounds_toArray, List.set_cons_zero, List.set_cons_succ])
        refine wpAnyH_ready (rs := [3]) (by kernel_rfl) (by simp) ?_
        refine AllReadyH.cons rfl (fun K hK => ?_) AllReadyH.nil
        go_wp2_with fail
        go_at_call 96
        refine (stepCloneC_any _ _ _ (nth f.steps k) _ _ (HDR.out.below (by repeat (first | with_reducible exact Below.refl _ _ | apply Below.drew | apply Below.al2_))) hn').mono ?_
        rintro e w5 ⟨A5, c5, rfl, hss5, hb5, hcc5⟩
        have hbw : Below wq.heap.size wq w5 := (Below.refl wq.heap.size wq).drew.trans hb5
        have HX5 := Lib.hid ((hbw.block _ hxl).trans HX.out)
        have y1 := (blk_cl (k := 1) HX5.out rfl).1
        have y2 := (blk_cl (k := 1) (heap_old (o := .cells #[.string (nth f.steps k).name, .slice A5 n' c5, .bool (nth f.steps k).undo] 35) HX5.out) rfl).1
        go_wp2_with fail
        refine hK.out _ _ (HSB.out _ hbw) (fun hH2 => ?_)
        clear hK K hH
        have hH := hH2
        (try simp only [Act.put, List.setIfInBounds_toArray, List.set_cons_zero, List.set_cons_succ])
        refine wpAnyH_ready (rs := [4]) (by kernel_rfl) (by simp) ?_
        refine AllReadyH.cons rfl (fun K hK => ?_) AllReadyH.nil
        go_simp
        refine hK.out _ _ (HSB.out _ (Below.al2_ hbw _)) (fun hH2 => ?_)
        clear hK K hH
        have hH := hH2
        (try simp only [Act.put, List.setIfInBounds_toArray, List.set_cons_zero, List.set_cons_succ])
        refine wpAnyH_ready (rs := [5]) (by kernel_rfl) (by simp) ?_
        refine AllReadyH.cons rfl (fun K hK => ?_) AllReadyH.nil
        refine wapp_stepC w.heap.size (.slice B k d) k (f.steps.take k) _ (nth f.steps k) A5 n' c5 ((HROW.out.below hbw).below ((Below.refl _ _).alloc (Nat.le_refl _) _)) ((hss5.mono hsw).below ((Below.refl _ _).alloc (Nat.le_refl _) _)) hcc5 (.tmp 17) (.tmp 20) rfl rfl rfl (heap_new rfl) (by omega) (by (have h1 := hbw.size; simp; omega)) ?_
        intro v7 w7 how7 hg7 hat7
        have HX7 := Lib.hid (grown_blk hg7 (heap_old (o := .cells #[.string (nth f.steps k).name, .slice A5 n' c5, .bool (nth f.steps k).undo] 35) HX5.out) (HROW.out.ne HX.out (by decide)))
        have z1 := (blk_cl (k := 1) HX7.out rfl).1
        have z1' := (blk_cl (k := 1) HX7.out rfl).2
        have hk7 := HKG.out _ _ _ hbw hg7
        refine hK.out _ _ (hk7) (fun hH2 => ?_)
        clear hK K hH
        have hH := hH2
        (try simp only [Act.put, List.setIfInBounds_toArray])
        refine wpAnyH_takeE (i := 6) (d := some 22) (v := ?v203) rfl (by rfl) (by kernel_rfl) (by kernel_rfl) (by kernel_rfl) (fun _ _ _ h => h) (Or.inl ⟨by rfl, ?y203⟩) hH ?r203
        case y203 => (intro w' hS; (try dsimp only at hS); go_simp; (try with_reducible rfl))
        (try simp only [Act.put])
        obtain ⟨B7, d7, rfl, _⟩ := how7.hat
        refine wpAnyH_ready (rs := [7]) (by kernel_rfl) (by simp) ?_
        refine AllReadyH.cons rfl (fun K hK => ?_) AllReadyH.nil
        go_simp
        (try simp only [Oper.upon])
        refine hK.out _ _ (HKF.out _ _ _ hk7) (fun _ => ?_)
        clear hK K hH
        (try simp only [Act.put, List.setIfInBounds_toArray, List.set_cons_zero, List.set_cons_succ])
        refine wpAnyH_done (by kernel_rfl) ?_ _
        have HB5 := HBW.out.trans (hbw.mono hsw)
        have HB7a := (HB5.alloc HB5.size (.cells #[.string (nth f.steps k).name, .slice A5 n' c5, .bool (nth f.steps k).undo] 35)).grown hg7 (by have := HB5.size; simp; omega) (fun b hb => (SRowC.lt HROW.out hb).1)
        have HB7 := Lib.hid (HB7a.setCell (p := ⟨w.heap.size + 1 + 1, 1, none⟩) (by show w.heap.size ≤ w.heap.size + 1 + 1; omega) (.slice B7 (k + 1) d7))
        have HZ7 := Lib.hid (set_ne (b := w.heap.size + 1 + 1) (o := 1) (u := .slice B7 (k + 1) d7) (grown_blk hg7 (heap_old (o := .cells #[.string (nth f.steps k).name, .slice A5 n' c5, .bool (nth f.steps k).undo] 35) ((hbw.block _ (heap_lt HZ.out)).trans HZ.out)) (HROW.out.ne HZ.out (by decide))) (by omega))
        have HX8 := Lib.hid (set21 (u := .slice B7 (k + 1) d7) HX7.out)
        have HK8 := Lib.hid (how7.set (o := 1) (u := .slice B7 (k + 1) d7) HX7.out (by decide) (by decide))
        clear how7 hg7 hat7 hk7 hss5 hb5 hbw HB5 HB7a
        go_wp2_with fail
        go_roundw
        case rel => exact ⟨k + 1, B7, d7, by omega, by go_num, by rw [HT.out]; exact HK8.out, HB7.out, HZ7.out, HX8.out⟩
        case measure => simp [intOf]; omega
      · refine AllReadyH.cons rfl (fun K hK => ?_) AllReadyH.nil
        go_wp2_with fail
        go_at_call 96
        refine (stepCloneC_any _ _ _ (nth f.steps k) _ _ (HDR.out.below (by repeat (first | with_reducible exact Below.refl _ _ | apply Below.drew | apply Below.al2_))) hn').mono ?_
        rintro e w5 ⟨A5, c5, rfl, hss5, hb5, hcc5⟩
        have hbw : Below wq.heap.size wq w5 := (Below.refl wq.heap.size wq).drew.trans hb5
        have HX5 := Lib.hid ((hbw.block _ hxl).trans HX.out)
        have y1 := (blk_cl (k := 1) HX5.out rfl).1
        have y2 := (blk_cl (k := 1) (heap_old (o := .cells #[.string (nth f.steps k).name, .slice A5 n' c5, .bool (nth f.steps k).undo] 35) HX5.out) rfl).1
        go_wp2_with fail
        refine hK.out _ _ (HSB.out _ hbw) (fun hH2 => ?_)
        clear hK K hH
        have hH := hH2
        (try simp only [Act.put, List.setIfInBounds_toArray, List.set_cons_zero, List.set_cons_succ])
        refine wpAnyH_ready (rs := [1, 4]) (by kernel_rfl) (by simp) ?_
        refine AllReadyH.cons rfl (fun K hK => ?_) ?_
        · go_simp
          refine hK.out _ _ (HSB.out _ hbw) (fun hH2 => ?_)
          clear hK K hH
          have hH := hH2
          (try simp only [Act.put, List.setIfInBounds_toArray, List.set_cons_zero, List.set_cons_succ])
          refine wpAnyH_ready (rs := [4]) (by kernel_rfl) (by simp) ?_
          refine AllReadyH.cons rfl (fun K hK => ?_) AllReadyH.nil
          go_simp
          refine hK.out _ _ (HSB.out _ (Below.al2_ hbw _)) (fun hH2 => ?_)
          clear hK K hH
          have hH := hH2
          (try simp only [Act.put, List.setIfInBounds_toArray, List.set_cons_zero, List.set_cons_succ])
          refine wpAnyH_ready (rs := [5]) (by kernel_rfl) (by simp) ?_
          refine AllReadyH.cons rfl (fun K hK => ?_) AllReadyH.nil
          refine wapp_stepC w.heap.size (.slice B k d) k (f.steps.take k) _ (nth f.steps k) A5 n' c5 ((HROW.out.below hbw).below ((Below.refl _ _).alloc (Nat.le_refl _) _)) ((hss5.mono hsw).below ((Below.refl _ _).alloc (Nat.le_refl _) _)) hcc5 (.tmp 17) (.tmp 20) rfl rfl rfl (heap_new rfl) (by omega) (by (have h1 := hbw.size; simp; omega)) ?_
          intro v7 w7 how7 hg7 hat7
          have HX7 := Lib.hid (grown_blk hg7 (heap_old (o := .cells #[.string (nth f.steps k).name, .slice A5 n' c5, .bool (nth f.steps k).undo] 35) HX5.out) (HROW.out.ne HX.out (by decide)))
          have z1 := (blk_cl (k := 1) HX7.out rfl).1
          have z1' := (blk_cl (k := 1) HX7.out rfl).2
          have hk7 := HKG.out _ _ _ hbw hg7
          refine hK.out _ _ (hk7) (fun hH2 => ?_)
          clear hK K hH
          have hH := hH2
          (try simp only [Act.put, List.setIfInBounds_toArray])
          refine wpAnyH_takeE (i := 6) (d := some 22) (v := ?v204) rfl (by rfl) (by kernel_rfl) (by kernel_rfl) (by kernel_rfl) (fun _ _ _ h => h) (Or.inl ⟨by rfl, ?y204⟩) hH ?r204
          case y204 => (intro w' hS; (try dsimp only at hS); go_simp; (try with_reducible rfl))
          (try simp only [Act.put])
          obtain ⟨B7, d7, rfl, _⟩ := how7.hat
          refine wpAnyH_ready (rs := [7]) (by kernel_rfl) (by simp) ?_
          refine AllReadyH.cons rfl (fun K hK => ?_) AllReadyH.nil
          go_simp
          (try simp only [Oper.upon])
          refine hK.out _ _ (HKF.out _ _ _ hk7) (fun _ => ?_)
          clear hK K hH
          (try simp only [Act.put, List.setIfInBounds_toArray, List.set_cons_zero, List.set_cons_succ])
          refine wpAnyH_done (by kernel_rfl) ?_ _
          have HB5 := HBW.out.trans (hbw.mono hsw)
          have HB7a := (HB5.alloc HB5.size (.cells #[.string (nth f.steps k).name, .slice A5 n' c5, .bool (nth f.steps k).undo] 35)).grown hg7 (by have := HB5.size; simp; omega) (fun b hb => (SRowC.lt HROW.out hb).1)
          have HB7 := Lib.hid (HB7a.setCell (p := ⟨w.heap.size + 1 + 1, 1, none⟩) (by show w.heap.size ≤ w.heap.size + 1 + 1; omega) (.slice B7 (k + 1) d7))
          have HZ7 := Lib.hid (set_ne (b := w.heap.size + 1 + 1) (o := 1) (u := .slice B7 (k + 1) d7) (grown_blk hg7 (heap_old (o := .cells #[.string (nth f.steps k).name, .slice A5 n' c5, .bool (nth f.steps k).undo] 35) ((hbw.block _ (heap_lt HZ.out)).trans HZ.out)) (HROW.out.ne HZ.out (by decide))) (by omega))
          have HX8 := Lib.hid (set21 (u := .slice B7 (k + 1) d7) HX7.out)
          have HK8 := Lib.hid (how7.set (o := 1) (u := .slice B7 (k + 1) d7) HX7.out (by decide) (by decide))
          clear how7 hg7 hat7 hk7 hss5 hb5 hbw HB5 HB7a
          go_wp2_with fail
          go_roundw
          case rel => exact ⟨k + 1, B7, d7, by omega, by go_num, by rw [HT.out]; exact HK8.out, HB7.out, HZ7.out, HX8.out⟩
          case measure => simp [intOf]; omega
        · refine AllReadyH.cons rfl (fun K hK => ?_) AllReadyH.nil
          go_simp
          refine hK.out _ _ (HSB.out _ (Below.al2_ hbw _)) (fun hH2 => ?_)
          clear hK K hH
          have hH := hH2
          (try simp only [Act.put, List.setIfInBounds_toArray, List.set_cons_zero, List.set_cons_succ])
          refine wpAnyH_ready (rs := [1]) (by kernel_rfl) (by simp) ?_
          refine AllReadyH.cons rfl (fun K hK => ?_) AllReadyH.nil
          go_simp
          refine hK.out _ _ (HSB.out _ (Below.al2_ hbw _)) (fun hH2 => ?_)
          clear hK K hH
          have hH := hH2
          (try simp only [Act.put, List.setIfInBounds_toArray, List.set_cons_zero, List.set_cons_succ])
          refine wpAnyH_ready (rs := [5]) (by kernel_rfl) (by simp) ?_
          refine AllReadyH.cons rfl (fun K hK => ?_) AllReadyH.nil
          refine wapp_stepC w.heap.size (.slice B k d) k (f.steps.take k) _ (nth f.steps k) A5 n' c5 ((HROW.out.below hbw).below ((Below.refl _ _).alloc (Nat.le_refl _) _)) ((hss5.mono hsw).below ((Below.refl _ _).alloc (Nat.le_refl _) _)) hcc5 (.tmp 17) (.tmp 20) rfl rfl rfl (heap_new rfl) (by omega) (by (have h1 := hbw.size; simp; omega)) ?_
          intro v7 w7 how7 hg7 hat7
          have HX7 := Lib.hid (grown_blk hg7 (heap_old (o := .cells #[.string (nth f.steps k).name, .slice A5 n' c5, .bool (nth f.steps k).undo] 35) HX5.out) (HROW.out.ne HX.out (by decide)))
          have z1 := (blk_cl (k := 1) HX7.out rfl).1
          have z1' := (blk_cl (k := 1) HX7.out rfl).2
          have hk7 := HKG.out _ _ _ hbw hg7
          refine hK.out _ _ (hk7) (fun hH2 => ?_)
          clear hK K hH
          have hH := hH2
          (try simp only [Act.put, List.setIfInBounds_toArray])
          refine wpAnyH_takeE (i := 6) (d := some 22) (v := ?v205) rfl (by rfl) (by kernel_rfl) (by kernel_rfl) (by kernel_rfl) (fun _ _ _ h => h) (Or.inl ⟨by rfl, ?y205⟩) hH ?r205
          case y205 => (intro w' hS; (try dsimp only at hS); go_simp; (try with_reducible rfl))
          (try simp only [Act.put])
          obtain ⟨B7, d7, rfl, _⟩ := how7.hat
          refine wpAnyH_ready (rs := [7]) (by kernel_rfl) (by simp) ?_
          refine AllReadyH.cons rfl (fun K hK => ?_) AllReadyH.nil
          go_simp
          (try simp only [Oper.upon])
          refine hK.out _ _ (HKF.out _ _ _ hk7) (fun _ => ?_)
          clear hK K hH
          (try simp only [Act.put, List.setIfInBounds_toArray, List.set_cons_zero, List.set_cons_succ])
          refine wpAnyH_done (by kernel_rfl) ?_ _
          have HB5 := HBW.out.trans (hbw.mono hsw)
          have HB7a := (HB5.alloc HB5.size (.cells #[.string (nth f.steps k).name, .slice A5 n' c5, .bool (nth f.steps k).undo] 35)).grown hg7 (by have := HB5.size; simp; omega) (fun b hb => (SRowC.lt HROW.out hb).1)
          have HB7 := Lib.hid (HB7a.setCell (p := ⟨w.heap.size + 1 + 1, 1, none⟩) (by show w.heap.size ≤ w.heap.size + 1 + 1; omega) (.slice B7 (k + 1) d7))
          have HZ7 := Lib.hid (set_ne (b := w.heap.size + 1 + 1) (o := 1) (u := .slice B7 (k + 1) d7) (grown_blk hg7 (heap_old (o := .cells #[.string (nth f.steps k).name, .slice A5 n' c5, .bool (nth f.steps k).undo] 35) ((hbw.block _ (heap_lt HZ.out)).trans HZ.out)) (HROW.out.ne HZ.out (by decide))) (by omega))
          have HX8 := Lib.hid (set21 (u := .slice B7 (k + 1) d7) HX7.out)
          have HK8 := Lib.hid (how7.set (o := 1) (u := .slice B7 (k + 1) d7) HX7.out (by decide) (by decide))
          clear how7 hg7 hat7 hk7 hss5 hb5 hbw HB5 HB7a
          go_wp2_with fail
          go_roundw
          case rel => exact ⟨k + 1, B7, d7, by omega, by go_num, by rw [HT.out]; exact HK8.out, HB7.out, HZ7.out, HX8.out⟩
          case measure => simp [intOf]; omega
    · have HROW := Lib.hid hrow; clear hrow
      have HBW := Lib.hid hbw0; clear hbw0
      have HZ := Lib.hid hz; clear hz
      have HX := Lib.hid hx; clear hx
      obtain rfl : k = n := by omega
      have hkm : f.steps.take k = f.steps := by rw [← HL.out]; exact List.take_length
      rw [hkm] at HROW
      have z0 := (blk_cl (k := 0) HZ.out rfl).1
      have z0' := (blk_cl (k := 0) HZ.out rfl).2
      have z1 := (blk_cl (k := 1) HZ.out rfl).1
      have z1' := (blk_cl (k := 1) HZ.out rfl).2
      have x0 := (blk_cl (k := 0) HX.out rfl).1
      have x0' := (blk_cl (k := 0) HX.out rfl).2
      have x1 := (blk_cl (k := 1) HX.out rfl).1
      have x1' := (blk_cl (k := 1) HX.out rfl).2
      go_wp2_with fail
      have h1 := set_at (o := 0) (u := .int .i64 f.ver) HZ.out
      have hres := set21 (u := .slice B k d) (set20 (u := .int .i64 f.ver) HZ.out)
      have e0 := (blk_cl (k := 0) hres rfl).1
      have e1 := (blk_cl (k := 1) hres rfl).1
      have q1 : w.heap.size ≤ w.heap.size + 1 := by omega
      exact bodyPost_ret (v := .agg #[.int .i64 f.ver, .slice B k d]) (by simp [results, Tryz.results95, go_sem, e0, e1]) rfl
        ⟨_, _, rfl, (HROW.out.set (o := 0) (u := .int .i64 f.ver) HZ.out (by decide) (by decide)).set (o := 1) (u := .slice B k d) h1 (by decide) (by decide), (HBW.out.setCell (p := ⟨w.heap.size + 1, 0, none⟩) q1 _).setCell (p := ⟨w.heap.size + 1, 1, none⟩) q1 _⟩
theorem flowClone_any (A : Option Addr) (n c : Nat) (f : Flow) (lo : Nat) (w : World) (hr : RStep w lo A n f.steps) (hok : okSteps f.steps) :
    Calls Tryz.prog 95 #[.agg #[.int .i64 f.ver, .slice A n c]] w fun e w' => ∃ B d, e = .returned (.agg #[.int .i64 f.ver, .slice B n d]) ∧ SRow w' w.heap.size (.slice B n d) n f.steps ∧ Below w.heap.size w w' :=
  (flowCloneC_any A n c f lo w hr hok).mono fun _ _ ⟨B, d, h1, h2, h3⟩ => ⟨B, d, h1, h2.row, h3⟩
end Go.Proofs.YthdfefgianokgaaGreatDoor

/- Putting a step at its place: what the library's sorting and what an assignment leave. No program in sight. -/
namespace Go.Proofs.YthdfefgianokgaaGreatDoor

section
variable {α : Type} (key : α → Str)
theorem put_perm {x : α} : ∀ {xs : List α}, (∀ z ∈ xs, key z ≠ key x) → (xs ++ [x]).Perm (putR key xs x)
  | [], _ => List.Perm.refl _
  | y :: ys, h => by
    have ih := put_perm (x := x) (xs := ys) fun z hz => h z (List.mem_cons_of_mem _ hz)
    unfold putR
    by_cases hl : strLt (key y) (key x) = true
    · rw [if_pos hl]
      exact List.Perm.cons y ih
    · rw [if_neg hl, List.filter_eq_self.2 (fun z hz => by simpa using h z hz)]
      exact List.perm_append_singleton x (y :: ys)
theorem key_unique : ∀ {xs ys : List α}, xs.Perm ys → xs.Pairwise (fun a b => strLt (key a) (key b) = true) → ys.Pairwise (fun a b => strLt (key a) (key b) = true) → xs = ys
  | [], ys, h, _, _ => by rw [List.nil_perm] at h; exact h.symm
  | x :: xs, [], h, _, _ => by rw [List.perm_nil] at h; exact h
  | x :: xs, y :: ys, h, hx, hy => by
    obtain ⟨x1, x2⟩ := List.pairwise_cons.1 hx
    obtain ⟨y1, y2⟩ := List.pairwise_cons.1 hy
    have e : x = y := by
      have m1 : x ∈ y :: ys := h.subset (List.mem_cons_self ..)
      have m2 : y ∈ x :: xs := h.symm.subset (List.mem_cons_self ..)
      rcases List.mem_cons.1 m1 with e | m1
      · exact e
      · rcases List.mem_cons.1 m2 with e | m2
        · exact e.symm
        · have a := x1 y m2
          have b := y1 x m1
          rw [strLt_asymm a] at b
          cases b
    subst e
    rw [key_unique (List.Perm.cons_inv h) x2 y2]
theorem put_sorted {xs ts : List α} {x : α} (hp : xs.Pairwise (fun a b => strLt (key a) (key b) = true)) (hn : ∀ z ∈ xs, key z ≠ key x) (hperm : ts.Perm (xs ++ [x])) (hs : ts.Pairwise (fun a b => strLt (key b) (key a) = false)) : ts = putR key xs x := by
  have hne : (xs ++ [x]).Pairwise (fun a b => key a ≠ key b) := by
    rw [List.pairwise_append]
    refine ⟨hp.imp fun h => strLt_ne h, List.pairwise_singleton .., fun a ha b hb => ?_⟩
    rw [List.mem_singleton] at hb
    subst hb
    exact hn a ha
  have hne2 := (hperm.pairwise_iff (fun h => Ne.symm h)).2 hne
  refine key_unique key (hperm.trans (put_perm key hn)) ?_ (putR_sorted key hp)
  refine (hs.and hne2).imp ?_
  rintro a b ⟨h1, h2⟩
  rcases strLt_tri (key a) (key b) with h | h | h
  · exact h
  · exact absurd h h2
  · rw [h1] at h; cases h
theorem put_set [Inhabited α] {x : α} : ∀ {xs : List α} {p : Nat}, p < xs.length → xs.Pairwise (fun a b => strLt (key a) (key b) = true) → key (nth xs p) = key x → putR key xs x = xs.set p x
  | [], _, hp, _, _ => absurd hp (by simp)
  | y :: ys, 0, _, h, e => by
    have e0 : key y = key x := e
    obtain ⟨h1, h2⟩ := List.pairwise_cons.1 h
    unfold putR
    rw [if_neg (by rw [e0, strLt_irr]; simp), List.filter_cons, if_neg (by simp [e0]), List.filter_eq_self.2 (fun z hz => by
      have := strLt_ne (h1 z hz)
      rw [e0] at this
      simpa using this.symm)]
    rfl
  | y :: ys, p + 1, hp, h, e => by
    obtain ⟨h1, h2⟩ := List.pairwise_cons.1 h
    have hp' : p < ys.length := by simpa using hp
    have e0 : key (nth ys p) = key x := e
    have hlt : strLt (key y) (key x) = true := by rw [← e0]; exact h1 _ (mem_nth hp')
    unfold putR
    rw [if_pos hlt, put_set hp' h2 e0]
    rfl
end
theorem with_sorted {ss ts : List Step} {s : Step} (hp : ss.Pairwise (fun a b => strLt a.name b.name = true)) (hn : hasB (namesOf ss) s.name = false) (hperm : ts.Perm (ss ++ [s])) (hs : ts.Pairwise (fun a b => strLt b.name a.name = false)) : ts = withL ss s :=
  put_sorted (fun s : Step => s.name) hp (fun z hz e => by
    have h1 : s.name ∈ namesOf ss := by unfold namesOf; exact List.mem_map.2 ⟨z, hz, e⟩
    rw [hasB_true.2 h1] at hn
    cases hn) hperm hs
theorem with_set {ss : List Step} {s : Step} {p : Nat} (hlt : p < ss.length) (hp : ss.Pairwise (fun a b => strLt a.name b.name = true)) (e : (nth ss p).name = s.name) : withL ss s = ss.set p s :=
  put_set (fun s : Step => s.name) hlt hp e
theorem flow_asc {f : Flow} (h : flowB f = true) : f.steps.Pairwise (fun a b => strLt a.name b.name = true) := by
  have h1 := (flowB_iff.1 h).1
  have hadj : ∀ k, k + 1 < f.steps.length → strLt (nth f.steps k).name (nth f.steps (k + 1)).name = true := fun k hk => by
    have := h1 (k + 1) hk
    unfold stepAt at this
    simp only [Bool.and_eq_true, Bool.or_eq_true, decide_eq_true_eq] at this
    rcases this.1.2 with h | h
    · omega
    · simpa using h
  have hall : ∀ d k, k + d + 1 < f.steps.length → strLt (nth f.steps k).name (nth f.steps (k + d + 1)).name = true := fun d => by
    induction d with
    | zero => exact fun k hk => hadj k hk
    | succ d ih => exact fun k hk => strLt_trans (ih k (by omega)) (hadj (k + d + 1) hk)
  rw [List.pairwise_iff_getElem]
  intro i j hi hj hij
  have := hall (j - i - 1) i (by omega)
  rw [show i + (j - i - 1) + 1 = j by omega, nth_eq hi, nth_eq hj] at this
  exact this
end Go.Proofs.YthdfefgianokgaaGreatDoor

/- What sorting and compacting leave. No program in sight. -/
namespace Go.Proofs.YthdfefgianokgaaGreatDoor

section
variable {α : Type} [Inhabited α] [DecidableEq α] (le : α → α → Prop)
theorem compact_asc (d : Array α) (hd : ∀ i j, i < j → j < d.size → le d[i]! d[j]!) : ∀ m, m ≤ d.size →
    (Lib.compactUpTo d m).Pairwise le ∧ (∀ z, z ∈ Lib.compactUpTo d m ↔ ∃ i, i < m ∧ d[i]! = z)
  | 0, _ => ⟨by simp [Lib.compactUpTo], fun z => by simp [Lib.compactUpTo]⟩
  | m + 1, hm => by
    obtain ⟨h1, h2⟩ := compact_asc d hd m (by omega)
    rw [Lib.compactUpTo_succ]
    by_cases hk : Lib.keeps d m = true
    · rw [if_pos hk]
      refine ⟨List.pairwise_append.2 ⟨h1, by simp, fun a ha b hb => ?_⟩, fun z => ?_⟩
      · rw [List.mem_singleton.1 hb]
        obtain ⟨i, hi, rfl⟩ := (h2 a).1 ha
        exact hd i m hi (by omega)
      · rw [List.mem_append, h2, List.mem_singleton]
        constructor
        · rintro (⟨i, hi, e⟩ | e)
          · exact ⟨i, by omega, e⟩
          · exact ⟨m, by omega, e.symm⟩
        · rintro ⟨i, hi, e⟩
          by_cases him : i = m
          · right; rw [← e, him]
          · left; exact ⟨i, by omega, e⟩
    · rw [if_neg hk, List.append_nil]
      refine ⟨h1, fun z => ?_⟩
      rw [h2]
      have hk2 : ¬ (m = 0 ∨ d[m]! ≠ d[m - 1]!) := by
        intro e; apply hk; unfold Lib.keeps; exact decide_eq_true e
      constructor
      · rintro ⟨i, hi, e⟩
        exact ⟨i, by omega, e⟩
      · rintro ⟨i, hi, e⟩
        by_cases him : i = m
        · subst him
          refine ⟨i - 1, ?_, ?_⟩
          · have : i ≠ 0 := fun e => hk2 (.inl e)
            omega
          · have : d[i]! = d[i - 1]! := Classical.byContradiction fun e => hk2 (.inr e)
            rw [← this]; exact e
        · exact ⟨i, by omega, e⟩
/-- Of a list that does not descend what is left ascends. -/
theorem compact_strict (d : Array α) (hd : ∀ i j, i < j → j < d.size → le d[i]! d[j]!) (anti : ∀ a b, le a b → le b a → a = b) : ∀ m, m ≤ d.size →
    (Lib.compactUpTo d m).Pairwise (fun a b => a ≠ b)
  | 0, _ => by simp [Lib.compactUpTo]
  | m + 1, hm => by
    have h1 := compact_strict d hd anti m (by omega)
    rw [Lib.compactUpTo_succ]
    by_cases hk : Lib.keeps d m = true
    · rw [if_pos hk]
      refine List.pairwise_append.2 ⟨h1, by simp, fun a ha b hb => ?_⟩
      rw [List.mem_singleton.1 hb]
      have hm0 : ∃ i, i < m ∧ d[i]! = a := by
        unfold Lib.compactUpTo at ha
        obtain ⟨i, hi, e⟩ := List.mem_map.1 ha
        exact ⟨i, by have := (List.mem_filter.1 hi).1; simpa using this, e⟩
      obtain ⟨i, hi, rfl⟩ := hm0
      have hne : d[m]! ≠ d[m - 1]! := by
        unfold Lib.keeps at hk
        rcases of_decide_eq_true hk with e | e
        · omega
        · exact e
      intro e
      by_cases him : i = m - 1
      · rw [him] at e; exact hne e.symm
      · have a1 := hd i (m - 1) (by omega) (by omega)
        have a2 := hd (m - 1) m (by omega) (by omega)
        rw [e] at a1
        exact hne (anti _ _ a1 a2)
    · rw [if_neg hk, List.append_nil]; exact h1
end
theorem bl_lt : ∀ (x y : List UInt8), Op.bytesLess x y = decide (x < y)
  | x, [] => by simp [Op.bytesLess]
  | [], b :: y => by simp [Op.bytesLess]
  | a :: x, b :: y => by
    rw [Op.bytesLess, bl_lt x y, Bool.eq_iff_iff]
    simp [List.cons_lt_cons_iff]
theorem le_bl (x y : List UInt8) : x ≤ y ↔ Op.bytesLess y x = false := by
  rw [bl_lt, decide_eq_false_iff_not]; exact Iff.rfl
theorem sort_compact (zs : List (List UInt8)) : (Lib.compact (zs.mergeSort fun x y => decide (x ≤ y))).Pairwise (fun a b => Op.bytesLess a b = true) ∧ ∀ z, z ∈ Lib.compact (zs.mergeSort fun x y => decide (x ≤ y)) ↔ z ∈ zs := by
  have hs : (zs.mergeSort fun x y => decide (x ≤ y)).Pairwise (fun a b => a ≤ b) := by
    have := List.pairwise_mergeSort (le := fun x y : List UInt8 => decide (x ≤ y)) (by
      intro a b c h1 h2
      simp only [decide_eq_true_eq, le_bl] at h1 h2 ⊢
      cases h3 : Op.bytesLess c a
      · rfl
      · rcases bl_tri a b with e | e | e
        · have := bl_trans _ _ _ h3 e; rw [h2] at this; cases this
        · subst e; rw [h2] at h3; cases h3
        · rw [h1] at e; cases e) (by
      intro a b
      simp only [Bool.or_eq_true, decide_eq_true_eq, le_bl]
      cases h : Op.bytesLess b a
      · exact .inl rfl
      · right
        cases h2 : Op.bytesLess a b
        · rfl
        · have := bl_trans _ _ _ h h2; rw [bl_irr] at this; cases this) zs
    exact this.imp fun h => of_decide_eq_true h
  have hm : ∀ z, z ∈ (zs.mergeSort fun x y => decide (x ≤ y)) ↔ z ∈ zs := fun z => List.mem_mergeSort
  generalize (zs.mergeSort fun x y => decide (x ≤ y)) = d at *
  have hd : ∀ i j, i < j → j < d.toArray.size → d.toArray[i]! ≤ d.toArray[j]! := by
    intro i j hij hj
    simp at hj
    have := List.pairwise_iff_getElem.1 hs i j (by omega) hj hij
    simpa [getElem!_pos, hj, (by omega : i < d.length)] using this
  have h1 := compact_asc (fun a b : List UInt8 => a ≤ b) d.toArray hd d.length (by simp)
  have h2 := compact_strict (fun a b : List UInt8 => a ≤ b) d.toArray hd (by
    intro a b h1 h2
    rw [le_bl] at h1 h2
    rcases bl_tri a b with e | e | e
    · rw [h2] at e; cases e
    · exact e
    · rw [h1] at e; cases e) d.length (by simp)
  refine ⟨?_, fun z => ?_⟩
  · refine (h1.1.and h2).imp fun {a b} h => ?_
    rcases bl_tri a b with e | e | e
    · exact e
    · exact absurd e h.2
    · have := (le_bl _ _).1 h.1; rw [this] at e; cases e
  · show z ∈ Lib.compactUpTo d.toArray d.length ↔ _
    rw [h1.2, ← hm]
    constructor
    · rintro ⟨i, hi, e⟩
      have : d.toArray[i]! = d[i] := by simp [hi]
      rw [← e, this]; exact List.getElem_mem _
    · intro h
      obtain ⟨i, hi, e⟩ := List.getElem_of_mem h
      exact ⟨i, hi, by rw [← e]; simp [hi]⟩
theorem asc_ext : ∀ {xs ys : List Str}, ascP xs → ascP ys → (∀ z, z ∈ xs ↔ z ∈ ys) → xs = ys
  | [], [], _, _, _ => rfl
  | [], y :: ys, _, _, h => absurd ((h y).2 (by simp)) (by simp)
  | x :: xs, [], _, _, h => absurd ((h x).1 (by simp)) (by simp)
  | x :: xs, y :: ys, hx, hy, h => by
    obtain ⟨x1, x2⟩ := List.pairwise_cons.1 hx
    obtain ⟨y1, y2⟩ := List.pairwise_cons.1 hy
    have e : x = y := by
      rcases List.mem_cons.1 ((h x).1 (by simp)) with e | e
      · exact e
      · rcases List.mem_cons.1 ((h y).2 (by simp)) with e2 | e2
        · exact e2.symm
        · have := strLt_trans (x1 y e2) (y1 x e); rw [strLt_irr] at this; cases this
    subst e
    rw [asc_ext x2 y2 fun z => ?_]
    constructor
    · intro hz
      rcases List.mem_cons.1 ((h z).1 (List.mem_cons_of_mem _ hz)) with e | e
      · subst e; have := x1 z hz; rw [strLt_irr] at this; cases this
      · exact e
    · intro hz
      rcases List.mem_cons.1 ((h z).2 (List.mem_cons_of_mem _ hz)) with e | e
      · subst e; have := y1 z hz; rw [strLt_irr] at this; cases this
      · exact e
def ofL (l : List UInt8) : Str := ⟨l.toArray⟩
theorem ofL_toList (l : List UInt8) : (ofL l).toList = l := by rw [Lib.toList_data]; rfl
theorem ofL_of (s : Str) : ofL s.toList = s := by rw [Lib.toList_data]; rfl
theorem drop_after {name : Str} {gone after : List Str} (h : hasB after name = true) :
    (Lib.compact (((notName name after ++ gone).map fun s : Str => s.toList).mergeSort fun x y => decide (x ≤ y))).map ofL = woAfter name gone after := by
  obtain ⟨h1, h2⟩ := sort_compact ((notName name after ++ gone).map fun s : Str => s.toList)
  refine asc_ext ?_ ?_ fun z => ?_
  · refine List.pairwise_map.2 (h1.imp fun {a b} e => ?_)
    show Op.bytesLess (ofL a).toList (ofL b).toList = true
    rw [ofL_toList, ofL_toList]; exact e
  · unfold woAfter
    rw [if_pos h]
    exact putAll_sorted _ _ (putAll_sorted _ _ List.Pairwise.nil)
  · unfold woAfter
    rw [if_pos h, putAll_mem, putAll_mem]
    constructor
    · intro hz
      obtain ⟨l, hl, rfl⟩ := List.mem_map.1 hz
      obtain ⟨s, hs, rfl⟩ := List.mem_map.1 ((h2 l).1 hl)
      rw [ofL_of]
      rcases List.mem_append.1 hs with e | e
      · exact .inl (.inr e)
      · exact .inr e
    · intro hz
      refine List.mem_map.2 ⟨z.toList, (h2 _).2 (List.mem_map.2 ⟨z, ?_, rfl⟩), ofL_of z⟩
      rcases hz with (e | e) | e
      · simp at e
      · exact List.mem_append.2 (.inl e)
      · exact List.mem_append.2 (.inr e)
end Go.Proofs.YthdfefgianokgaaGreatDoor

/- clear of one element of several cells. -/
namespace Go.Proofs.YthdfefgianokgaaGreatDoor
open Go.RowKit

theorem run_clear_one {P : Program} (w : World) (t e ty : TypeId) (z : Value) (zs : List Value) (ht : P.underlying t = some (.slice e)) (hv : ∀ w, (zeroValue e).run P w = .ok z w) (hz : z.cells = zs.toArray) (h1 : ∀ v ∈ zs, v.oneCell' = true) (b o c : Nat)
    (hc : ∀ j, j < zs.length → (w.cell? ⟨b, o + j, none⟩).isSome = true) (hf : ∀ j, j < zs.length → w.frozen? ⟨b, o + j, none⟩ = false) :
    (Builtin.clear_ #[t] ty #[.slice (some ⟨b, o, none⟩) 1 c]).run P w = .ok (.tuple #[]) (w.setCells b o zs) := by
  have hzc : (Builtin.zeroCells z.cells 1).toList = zs := by
    rw [hz]
    simp [Builtin.zeroCells]
    apply List.ext_getElem
    · simp
    · intro i h1 h2
      simp [Nat.mod_eq_of_lt h2, List.getElem?_eq_getElem h2]
  have hst := run_storeCells_cells (P := P) b o zs 0 w (by simpa using hc) (by simpa using hf) h1
  simp only [Nat.add_zero] at hst
  simp [Builtin.clear_, run_underlying ht, hv, hzc, hst]
end Go.Proofs.YthdfefgianokgaaGreatDoor

/- slices.Delete of one step. -/
namespace Go.Proofs.YthdfefgianokgaaGreatDoor
open Go.RowKit

def zStep : List Value := [.string ⟨#[]⟩, .slice none 0 0, .bool false]
set_option maxRecDepth 100000 in
theorem delStep_any (b off n c i j : Nat) (cells : List Value) (w : World) (hl : cells.length = n * 3) (hc : ∀ k u, cells[k]? = some u → w.cell? ⟨b, off + k, none⟩ = some u ∧ w.frozen? ⟨b, off + k, none⟩ = false) (h1 : ∀ u ∈ cells, u.oneCell' = true) (hi : i < n) (hj : j = i + 1) (hnc : n ≤ c) (_ : c ≤ maxLen) :
    Calls Tryz.prog 129 #[.slice (some ⟨b, off, none⟩) n c, .int .i64 (i : Int), .int .i64 (j : Int)] w fun e w' => e = .returned (.slice (some ⟨b, off, none⟩) (n - 1) c) ∧ ∃ q, w' = ((w.drewN q).setCells b (off + i * 3) (cells.drop (j * 3))).setCells b (off + (n - 1) * 3) zStep := by
  obtain ⟨i0, hi0, hz0, hz1, hz2⟩ := info_parts info_step
  have hij : ((i : Int) == (j : Int)) = false := by rw [beq_eq_false_iff_ne]; omega
  have hi1 : (0 : Int) ≤ (i : Int) := by omega
  have hi2 : (i : Int) ≤ (j : Int) := by omega
  have hi3 : (j : Int) ≤ (n : Int) := by omega
  have hi4 : (n : Int) ≤ (c : Int) := by omega
  obtain ⟨news, hnews⟩ : ∃ news, news = cells.drop (j * 3) := ⟨_, rfl⟩
  have hlen : news.length = (n - j) * 3 := by rw [hnews, List.length_drop, hl]; omega
  have hget : ∀ t u, news[t]? = some u → cells[j * 3 + t]? = some u := by
    intro t u hu
    rw [hnews, List.getElem?_drop] at hu
    exact hu
  obtain ⟨A, hA, hsrc⟩ : ∃ A : Addr, (if c = j then some (⟨b, off, none⟩ : Addr) else some ⟨b, off + j * 3, none⟩) = some A ∧ Hid (∀ t u, news[t]? = some u → w.drew.cell? (A.add t) = some u) := by
    by_cases h : c = j
    · refine ⟨⟨b, off, none⟩, by simp [h], Lib.hid fun t u hu => ?_⟩
      have h0 : news.length = 0 := by rw [hlen]; omega
      rw [List.length_eq_zero_iff.1 h0] at hu
      simp at hu
    · refine ⟨⟨b, off + j * 3, none⟩, by simp [h], Lib.hid fun t u hu => ?_⟩
      have e : (⟨b, off + j * 3, none⟩ : Addr).add t = ⟨b, off + (j * 3 + t), none⟩ := by unfold Addr.add; split <;> simp_all [Nat.add_assoc]
      rw [e]
      exact (hc _ u (hget t u hu)).1
  have s1 := Lib.hid hlen
  have s2 : Hid (∀ u ∈ news, u.oneCell' = true) := Lib.hid (fun u hu => h1 u (by rw [hnews] at hu; exact List.mem_of_mem_drop hu))
  have hsome : ∀ t, t < n * 3 → ∃ u, cells[t]? = some u := fun t ht => ⟨_, List.getElem?_eq_getElem (by rw [hl]; exact ht)⟩
  have s3 : Hid (∀ t, t < news.length → (w.drew.cell? ⟨b, off + i * 3 + t, none⟩).isSome = true ∧ w.drew.frozen? ⟨b, off + i * 3 + t, none⟩ = false) := Lib.hid (fun t ht => by
    rw [hlen] at ht
    obtain ⟨u, hu⟩ := hsome (i * 3 + t) (by omega)
    obtain ⟨q1, q2⟩ := hc _ u hu
    rw [Nat.add_assoc]
    exact ⟨by show (w.cell? _).isSome = true; rw [q1]; rfl, q2⟩)
  obtain ⟨W1, hW1⟩ : ∃ W1, W1 = w.drew.setCells b (off + i * 3) news := ⟨_, rfl⟩
  have HW := Lib.hid hW1
  have HN := Lib.hid hnews
  go_enter Tryz.func129, Tryz.ntmps129
  have hzv : ∀ w : World, (zeroValue 35).run Tryz.prog w = .ok (.agg #[.string ⟨#[]⟩, .slice none 0 0, .bool false]) w := fun w => by first | kernel_rfl | rfl
  have hcl : ∀ ty, (Builtin.clear_ #[36] ty #[.slice (some ⟨b, off + (i + (n - j)) * 3, none⟩) (n - (i + (n - j))) (c - (i + (n - j)))]).run Tryz.prog W1 = .ok (.tuple #[]) (W1.setCells b (off + (n - 1) * 3) zStep) := fun ty => by
    rw [show i + (n - j) = n - 1 by omega, show n - (n - 1) = 1 by omega]
    have hz3 : zStep.length = 3 := rfl
    have hW2 : ∀ t, t < 3 → W1.cell? ⟨b, off + (n - 1) * 3 + t, none⟩ = w.cell? ⟨b, off + ((n - 1) * 3 + t), none⟩ ∧ W1.frozen? ⟨b, off + (n - 1) * 3 + t, none⟩ = w.frozen? ⟨b, off + ((n - 1) * 3 + t), none⟩ := fun t ht => by
      rw [HW.out, Nat.add_assoc]
      refine ⟨(World.cell?_setCells_out b news _ _ _ (fun _ _ => .inr ?_)).trans rfl, (World.frozen?_setCells b news _ _ _).trans rfl⟩
      rw [hlen]
      show off + i * 3 + (n - j) * 3 ≤ off + ((n - 1) * 3 + t)
      omega
    refine run_clear_one W1 _ _ ty _ zStep Tryz.underlying36 hzv rfl (by intro v hv; simp [zStep] at hv; rcases hv with rfl | rfl | rfl <;> rfl) b _ _ (fun t ht => ?_) (fun t ht => ?_)
    · obtain ⟨u, hu⟩ := hsome ((n - 1) * 3 + t) (by omega)
      rw [(hW2 t (by omega)).1, (hc _ u hu).1]; rfl
    · obtain ⟨u, hu⟩ := hsome ((n - 1) * 3 + t) (by omega)
      rw [(hW2 t (by omega)).2, (hc _ u hu).2]
  have hic : i ≤ c := by omega
  have hjc : j ≤ c := by omega
  have hjn : j ≤ n := by omega
  have hlt : i < j := by omega
  have HJ := Lib.hid hj
  clear hnews hlen hget hsome hW1 hc h1 hj
  go_upto_region 5 with fail
  go_region_law (refine step_append_room rfl (.tmp 22) (.tmp 25) 36 rfl 35 i0 3 Tryz.underlying36 hi0 hz1 b off i c (by simp [Act.eval, Act.put]) A (n - j) (c - j) news (by simp [Act.eval, Act.put]) s1.out hsrc.out s2.out (by omega) s3.out ?_; rw [← HW.out])
  go_wp2
  go_ret
  have hj9 := HJ.out
  refine ⟨?_, 1, ?_⟩
  · show Ending.returned (.slice (some ⟨b, off, none⟩) (i + (n - j)) c) = _
    rw [show i + (n - j) = n - 1 by omega]
  · rw [HW.out, HN.out]
    rfl
end Go.Proofs.YthdfefgianokgaaGreatDoor

/- A row of steps of the call's own: one step struck, one step's list written. -/
namespace Go.Proofs.YthdfefgianokgaaGreatDoor
open Go.RowKit

theorem flat_take {α β : Type} {f : α → List β} {k : Nat} (hf : ∀ a, (f a).length = k) : ∀ (xs : List α) (i : Nat), (xs.flatMap f).take (i * k) = (xs.take i).flatMap f
  | [], i => by simp
  | x :: xs, 0 => by simp
  | x :: xs, i + 1 => by
    rw [List.flatMap_cons, List.take_append, hf, Nat.succ_mul, List.take_of_length_le (by rw [hf]; omega), show i * k + k - k = i * k by omega, flat_take hf xs i]
    rfl
theorem flat_drop {α β : Type} {f : α → List β} {k : Nat} (hf : ∀ a, (f a).length = k) : ∀ (xs : List α) (i : Nat), (xs.flatMap f).drop (i * k) = (xs.drop i).flatMap f
  | [], i => by simp
  | x :: xs, 0 => by simp
  | x :: xs, i + 1 => by
    rw [List.flatMap_cons, List.drop_append, hf, Nat.succ_mul, List.drop_of_length_le (by rw [hf]; omega), show i * k + k - k = i * k by omega, flat_drop hf xs i]
    rfl
theorem blk_setCells {b : Nat} {t : TypeId} {fr : Nat × Nat} : ∀ (vs : List Value) (o : Nat) (w : World) (cs : Array Value), w.heap[b]? = some (.cells cs t fr) →
    ∃ cs', (w.setCells b o vs).heap[b]? = some (.cells cs' t fr) ∧ cs'.size = cs.size ∧ ∀ j, j < cs.size → cs'[j]? = if o ≤ j ∧ j < o + vs.length then vs[j - o]? else cs[j]?
  | [], o, w, cs, h => ⟨cs, h, rfl, fun j hj => by rw [if_neg (by simp only [List.length_nil]; omega)]⟩
  | v :: vs, o, w, cs, h => by
    obtain ⟨cs', h1, h2, h3⟩ := blk_setCells vs (o + 1) (w.setCell ⟨b, o, none⟩ v) _ (set_at (o := o) (u := v) h)
    rw [Array.size_setIfInBounds] at h2 h3
    refine ⟨cs', h1, h2, fun j hj => ?_⟩
    rw [h3 j hj, Array.getElem?_setIfInBounds]
    by_cases h4 : j = o
    · subst h4
      rw [if_neg (by omega), if_pos rfl, if_pos hj, if_pos (by simp), Nat.sub_self]
      rfl
    · by_cases h5 : o ≤ j ∧ j < o + (v :: vs).length
      · have h6 : j < o + 1 + vs.length := by have := h5.2; simp at this; omega
        rw [if_pos ⟨by omega, h6⟩, if_pos h5]
        rw [show j - o = (j - (o + 1)) + 1 by omega]
        rfl
      · have h6 : ¬ (o + 1 ≤ j ∧ j < o + 1 + vs.length) := by intro e; apply h5; simp; omega
        rw [if_neg h6, if_neg (by omega), if_neg h5]
theorem grown_setCells {b : Nat} (vs : List Value) : ∀ (o : Nat) (w0 w : World), w0.grownBy w (some b) → w0.grownBy (w.setCells b o vs) (some b) := by
  induction vs with
  | nil => exact fun o w0 w h => h
  | cons v vs ih =>
    intro o w0 w h
    refine ih (o + 1) w0 _ ⟨h.os, h.tape, h.output, by simpa [World.setCell] using h.size, fun k hk hne => ?_⟩
    exact (Below.heap_setCell _ _ _ _ (by intro e; exact hne (by rw [e]))).trans (h.block k hk hne)
theorem SRow.form {w : World} {base n c : Nat} {A : Option Addr} {ss : List Step} (h : SRow w base (.slice A n c) n ss) (hn : 0 < n) : ∃ b cur, A = some ⟨b, 0, none⟩ ∧ base ≤ b ∧ w.heap[b]? = some (.cells cur 35 (0, 0)) ∧ n ≤ c ∧ c ≤ maxLen ∧ cur.size = c * 3 := by
  obtain ⟨ps, _, h1, _⟩ := h
  rcases h1.2 with ⟨e0, h0⟩ | ⟨g, cap, cur, e0, hb, hg, hn, hm, hs, ht⟩
  · omega
  · injection e0 with e1 _ e3
    subst e3
    exact ⟨g, cur, e1, hb, hg, hn, hm, hs⟩

theorem SRow.step_at {w : World} {base b n c k : Nat} {ss : List Step} (h : SRow w base (.slice (some ⟨b, 0, none⟩) n c) n ss) (hk : k < n) :
    ∃ (A' : Option Addr) (n' c' : Nat), (w.cell? ⟨b, k * 3, none⟩ = some (.string (nth ss k).name) ∧ w.cell? ⟨b, k * 3 + 1, none⟩ = some (.slice A' n' c') ∧ w.cell? ⟨b, k * 3 + 2, none⟩ = some (.bool (nth ss k).undo)) ∧
      SStr w base A' n' (nth ss k).after ∧ w.frozen? ⟨b, k * 3 + 1, none⟩ = false := by
  have hl := h.len
  obtain ⟨ps, rfl, h1, h2⟩ := h
  obtain ⟨A, c0, hv, hf⟩ := own_form h1
  injection hv with e1 _ _
  subst e1
  obtain ⟨b', e1, b1, b2, hc⟩ := hf (by omega)
  injection e1 with e1
  injection e1 with e1
  subst e1
  rw [List.length_map] at hl
  have h3 : ∀ i u, i < 3 → (pcells (ps[k]'(by omega)))[i]? = some u → Cl w b (k * 3 + i) u := fun i u hi hu => by
    have e2 := flat_at (α := Step × Value) (f := pcells) pcells_len ps k i (by omega) hi
    rw [nth_eq (by omega)] at e2
    exact hc (k * 3 + i) u (by rw [e2]; exact hu)
  obtain ⟨A', m', c', e2, h4⟩ := h2 (ps[k]'(by omega)) (List.getElem_mem _)
  have e3 : nth (ps.map (·.1)) k = (ps[k]'(by omega)).1 := by rw [nth_eq (by rw [List.length_map]; omega)]; simp
  rw [e3]
  have c1 := h3 1 _ (by omega) rfl
  rw [e2] at c1
  exact ⟨A', m', c', ⟨(h3 0 _ (by omega) rfl).1, c1.1, (h3 2 _ (by omega) rfl).1⟩, h4, c1.2⟩

/-- A step's list is written. -/
theorem SRow.setAfter {w : World} {base b n c k m d : Nat} {B : Option Addr} {ss : List Step} {ys : List Str} (h : SRow w base (.slice (some ⟨b, 0, none⟩) n c) n ss) (hk : k < n) (hs : SStr w base B m ys) :
    SRow (w.setCell ⟨b, k * 3 + 1, none⟩ (.slice B m d)) base (.slice (some ⟨b, 0, none⟩) n c) n (ss.set k { nth ss k with after := ys }) := by
  have hlen := h.len
  obtain ⟨ps, rfl, h1, h2⟩ := h
  rw [List.length_map] at hlen
  have hkp : k < ps.length := by omega
  obtain ⟨g, cap, cur, e0, hb, hg, hn, hm, hcs, ht⟩ : ∃ g cap cur, Value.slice (some ⟨b, 0, none⟩) n c = .slice (some ⟨g, 0, none⟩) n cap ∧ base ≤ g ∧ w.heap[g]? = some (.cells cur 35 (0, 0)) ∧ n ≤ cap ∧ cap ≤ maxLen ∧ cur.size = cap * 3 ∧ cur.toList.take (n * 3) = ps.flatMap pcells := by
    rcases h1.2 with ⟨e, _⟩ | h
    · cases e
    · exact h
  injection e0 with e1 _ e3
  injection e1 with e1
  injection e1 with e1
  subst e1; subst e3
  have hkeep : ∀ b' cs, base ≤ b' → w.heap[b']? = some (.cells cs 9 (0, 0)) → (w.setCell ⟨b, k * 3 + 1, none⟩ (.slice B m d)).heap[b']? = w.heap[b']? := fun b' cs _ hc =>
    Below.heap_setCell _ _ _ _ (by
      intro e
      have e : b' = b := e
      subst e
      rw [hg] at hc
      have := Option.some.inj hc
      injection this with _ e2
      exact absurd e2 (by decide))
  have hx : nth (ps.map (·.1)) k = (nth ps k).1 := by rw [nth_eq (by rw [List.length_map]; exact hkp), nth_eq hkp]; simp
  refine ⟨ps.set k ({ (nth ps k).1 with after := ys }, .slice B m d), ?_, ⟨?_, .inr ⟨b, c, _, rfl, hb, set_at (o := k * 3 + 1) (u := .slice B m d) hg, hn, hm, by rw [Array.size_setIfInBounds]; exact hcs, ?_⟩⟩, fun p hp => ?_⟩
  · rw [List.map_set, hx]
  · rw [flat_len pcells_len, List.length_set]; omega
  · refine List.ext_getElem? fun t => ?_
    by_cases ht3 : t < n * 3
    · have e2 : t / 3 * 3 + t % 3 = t := by omega
      have h3 := flat_at (f := pcells) pcells_len (ps.set k ({ (nth ps k).1 with after := ys }, .slice B m d)) (t / 3) (t % 3) (by rw [List.length_set]; omega) (Nat.mod_lt _ (by omega))
      have h4 := flat_at (f := pcells) pcells_len ps (t / 3) (t % 3) (by omega) (Nat.mod_lt _ (by omega))
      rw [e2] at h3 h4
      rw [List.getElem?_take_of_lt ht3, Array.getElem?_toList, Array.getElem?_setIfInBounds, h3, nth_set hkp]
      have h5 : cur[t]? = (pcells (nth ps (t / 3)))[t % 3]? := by
        rw [← h4, ← ht, List.getElem?_take_of_lt ht3, Array.getElem?_toList]
      by_cases hkt : t / 3 = k
      · rw [if_pos hkt]
        by_cases h6 : t % 3 = 1
        · rw [if_pos (by omega), if_pos (by omega), h6]
          rfl
        · rw [if_neg (by omega), h5, hkt]
          have h7 : t % 3 = 0 ∨ t % 3 = 2 := by omega
          rcases h7 with h7 | h7 <;> rw [h7] <;> rfl
      · rw [if_neg hkt, if_neg (by omega), h5]
    · rw [List.getElem?_take_eq_none (by omega), List.getElem?_eq_none (by rw [flat_len pcells_len, List.length_set]; omega)]
  · rcases List.mem_or_eq_of_mem_set hp with hp | rfl
    · obtain ⟨A', m', c', e, h6⟩ := h2 p hp
      exact ⟨A', m', c', e, h6.kept hkeep⟩
    · exact ⟨B, m, d, rfl, hs.kept hkeep⟩

set_option maxRecDepth 100000 in
/-- A step is struck by slices.Delete. -/
theorem delRow_any (b m c i base : Nat) (ss : List Step) (w : World) (h : SRow w base (.slice (some ⟨b, 0, none⟩) (m + 1) c) (m + 1) ss) (hi : i < m + 1) (hcm : c ≤ maxLen) :
    Calls Tryz.prog 129 #[.slice (some ⟨b, 0, none⟩) (m + 1) c, .int .i64 (i : Int), .int .i64 ((i : Int) + 1)] w fun e w' => e = .returned (.slice (some ⟨b, 0, none⟩) m c) ∧ SRow w' base (.slice (some ⟨b, 0, none⟩) m c) m (ss.eraseIdx i) ∧ w.grownBy w' (some b) := by
  have hlen := h.len
  obtain ⟨ps, rfl, h1, h2⟩ := h
  rw [List.length_map] at hlen
  obtain ⟨g, cap, cur, e0, hb, hg, hn, hm, hcs, ht⟩ : ∃ g cap cur, Value.slice (some ⟨b, 0, none⟩) (m + 1) c = .slice (some ⟨g, 0, none⟩) (m + 1) cap ∧ base ≤ g ∧ w.heap[g]? = some (.cells cur 35 (0, 0)) ∧ m + 1 ≤ cap ∧ cap ≤ maxLen ∧ cur.size = cap * 3 ∧ cur.toList.take ((m + 1) * 3) = ps.flatMap pcells := by
    rcases h1.2 with ⟨e, _⟩ | h
    · cases e
    · exact h
  injection e0 with e1 _ e3
  injection e1 with e1
  injection e1 with e1
  subst e1; subst e3
  have hcl : (ps.flatMap pcells).length = (m + 1) * 3 := by rw [flat_len pcells_len, hlen]
  have hat : ∀ k u, (ps.flatMap pcells)[k]? = some u → cur[k]? = some u := fun k u hu => by
    have hk : k < (m + 1) * 3 := by
      rcases Nat.lt_or_ge k ((m + 1) * 3) with h | h
      · exact h
      · rw [List.getElem?_eq_none (by omega)] at hu; cases hu
    rw [← ht, List.getElem?_take_of_lt hk, Array.getElem?_toList] at hu
    exact hu
  have hcon := delStep_any b 0 (m + 1) c i (i + 1) (ps.flatMap pcells) w hcl (fun k u hu => by
      rw [Nat.zero_add]
      exact blk_cl hg (hat k u hu)) (fun u hu => by
      obtain ⟨p, hp, hu⟩ := List.mem_flatMap.1 hu
      obtain ⟨A', m', c', e2, _⟩ := h2 p hp
      simp [pcells, e2] at hu
      rcases hu with rfl | rfl | rfl <;> rfl) hi rfl hn hcm
  rw [show (((i + 1 : Nat) : Int)) = (i : Int) + 1 by omega] at hcon
  refine hcon.mono ?_
  rintro e w' ⟨rfl, q, rfl⟩
  rw [Nat.zero_add, Nat.zero_add, show m + 1 - 1 = m by omega]
  have hg0 : (w.drewN q).heap[b]? = some (.cells cur 35 (0, 0)) := hg
  obtain ⟨cs1, k1, k2, k3⟩ := blk_setCells ((ps.flatMap pcells).drop ((i + 1) * 3)) (i * 3) (w.drewN q) cur hg0
  obtain ⟨cs2, l1, l2, l3⟩ := blk_setCells zStep (m * 3) _ cs1 k1
  have hgr : w.grownBy (((w.drewN q).setCells b (i * 3) ((ps.flatMap pcells).drop ((i + 1) * 3))).setCells b (m * 3) zStep) (some b) :=
    grown_setCells _ _ _ _ (grown_setCells _ _ _ _ ⟨rfl, rfl, rfl, Nat.le_refl _, fun _ _ _ => rfl⟩)
  refine ⟨rfl, ⟨ps.eraseIdx i, by rw [List.eraseIdx_eq_take_drop_succ, List.eraseIdx_eq_take_drop_succ, List.map_append, List.map_take, List.map_drop], ⟨?_, .inr ⟨b, c, cs2, rfl, hb, l1, by omega, hm, by omega, ?_⟩⟩, fun p hp => ?_⟩, hgr⟩
  · rw [flat_len pcells_len, List.length_eraseIdx, if_pos (by omega)]; omega
  · have hcur : ∀ t, t < (m + 1) * 3 → cur[t]? = (ps.flatMap pcells)[t]? := fun t ht3 => by
      rw [← ht, List.getElem?_take_of_lt ht3, Array.getElem?_toList]
    rw [List.eraseIdx_eq_take_drop_succ, List.flatMap_append, ← flat_take pcells_len, ← flat_drop pcells_len]
    refine List.ext_getElem? fun t => ?_
    have hdl : ((ps.flatMap pcells).drop ((i + 1) * 3)).length = (m - i) * 3 := by rw [List.length_drop, hcl]; omega
    by_cases ht3 : t < m * 3
    · rw [List.getElem?_take_of_lt ht3, Array.getElem?_toList, l3 t (by omega), if_neg (by omega), k3 t (by omega), hdl]
      by_cases h5 : t < i * 3
      · rw [if_neg (by omega), List.getElem?_append_left (by rw [List.length_take, hcl]; omega), List.getElem?_take_of_lt h5, hcur t (by omega)]
      · rw [if_pos (by omega), List.getElem?_append_right (by rw [List.length_take, hcl]; omega), List.length_take, hcl, Nat.min_eq_left (by omega)]
    · rw [List.getElem?_take_eq_none (by omega), List.getElem?_eq_none (by rw [List.length_append, List.length_take, hcl, hdl]; omega)]
  · obtain ⟨A', m', c', e2, h6⟩ := h2 p (List.mem_of_mem_eraseIdx hp)
    refine ⟨A', m', c', e2, h6.kept fun b' cs _ hc => hgr.block b' (heap_lt hc) ?_⟩
    intro e
    injection e with e
    subst e
    rw [hg] at hc
    have := Option.some.inj hc
    injection this with _ e2
    exact absurd e2 (by decide)

/-- A call of a function with two arguments, at one operation. -/
theorem wp_call2 {P : Program} {o : Oper} {a : Act} {w : World} {K : Act → World → Prop} {Q : Exit → Act → World → Prop} (f : FuncId) (l r : Operand) (v u : Value) (tys : Array TypeId)
    (ho : o.op = .call { callee := .value (.func f), args := #[l, r], argTypes := tys }) (he : ∀ vals w, (callFunc f vals).run P w = .ok (.enter f vals) w) (hs : a.eval l = v) (hx : a.eval r = u)
    (h : Calls P f #[v, u] w fun e w' => ∃ x, e = .returned x ∧ K (a.put o.dst x) w') : o.wp P a w K Q := by
  have ha : a.eval (.func f) = .func (.func f) #[] #[] := rfl
  unfold Oper.wp execOp
  simp only [ho, resolve, invoke, Sem.run_bind, Sem.run_pure, Result.andThen_ok, Deferred.ofValue, Array.append_empty, List.map_toArray, List.map_cons, List.map_nil, hs, hx, ha, he, Oper.upon]
  refine h.mono ?_
  rintro e w' ⟨x, rfl, hk⟩
  exact hk

/-- But for one cell's block and a row's block all that was there is as it was. -/
structure But (p : Nat) (row : Option Nat) (w w' : World) : Prop where
  os : w'.os = w.os
  tape : w'.tape = w.tape
  output : w'.output = w.output
  size : w.heap.size ≤ w'.heap.size
  block : ∀ k, k < w.heap.size → k ≠ p → some k ≠ row → w'.heap[k]? = w.heap[k]?
theorem But.trans {p : Nat} {row : Option Nat} {w w1 w' : World} (h : But p row w w1) (k : But p row w1 w') : But p row w w' :=
  ⟨k.os.trans h.os, k.tape.trans h.tape, k.output.trans h.output, Nat.le_trans h.size k.size, fun i h1 h2 h3 => (k.block i (Nat.lt_of_lt_of_le h1 h.size) h2 h3).trans (h.block i h1 h2 h3)⟩
theorem But.of_grown {p : Nat} {row : Option Nat} {w w' : World} (h : w.grownBy w' row) : But p row w w' := ⟨h.os, h.tape, h.output, h.size, fun i h1 _ h3 => h.block i h1 h3⟩
theorem But.of_below {p : Nat} {row : Option Nat} {w w' : World} (h : Below w.heap.size w w') : But p row w w' := ⟨h.os, h.tape, h.output, h.size, fun i h1 _ _ => h.block i h1⟩
theorem But.set_ {p : Nat} {row : Option Nat} {w w' : World} (h : But p row w w') (o : Nat) (u : Value) : But p row w (w'.setCell ⟨p, o, none⟩ u) :=
  ⟨h.os, h.tape, h.output, by simpa [World.setCell] using h.size, fun i h1 h2 h3 => (Below.heap_setCell _ _ _ _ h2).trans (h.block i h1 h2 h3)⟩
theorem But.below {p base : Nat} {row : Option Nat} {w w' : World} (h : But p row w w') (hp : base ≤ p) (hr : ∀ k, row = some k → base ≤ k) (hb : base ≤ w.heap.size) : Below base w w' :=
  ⟨h.os, h.tape, h.output, h.size, fun i hi => h.block i (by omega) (by omega) (fun e => by have := hr i e.symm; omega)⟩

/-! ### The steps, one by one -/
def curL (es : List Step) (nm : Str) (gone : List Str) (k : Nat) : List Step := (es.take k).map (woStep nm gone) ++ es.drop k
theorem curL_zero (es : List Step) (nm : Str) (gone : List Str) : curL es nm gone 0 = es := by simp [curL]
theorem curL_at {es : List Step} {nm : Str} {gone : List Str} {k : Nat} (hk : k < es.length) : nth (curL es nm gone k) k = nth es k := by
  have hl : ((es.take k).map (woStep nm gone)).length = k := by rw [List.length_map, List.length_take]; omega
  unfold curL
  rw [nth_eq (by rw [List.length_append, hl, List.length_drop]; omega), nth_eq hk, List.getElem_append_right (by omega)]
  simp only [hl, Nat.sub_self]
  rw [List.getElem_drop]
  rfl
theorem curL_succ {es : List Step} {nm : Str} {gone : List Str} {k : Nat} (hk : k < es.length) : curL es nm gone (k + 1) = (curL es nm gone k).set k (woStep nm gone (nth es k)) := by
  have hl : ((es.take k).map (woStep nm gone)).length = k := by rw [List.length_map, List.length_take]; omega
  have e : es.drop k = nth es k :: es.drop (k + 1) := by rw [nth_eq hk]; exact List.drop_eq_getElem_cons hk
  unfold curL
  rw [take_nth hk, List.map_append, e, List.set_append_right _ _ (by omega), hl, Nat.sub_self]
  simp
theorem curL_no {es : List Step} {nm : Str} {gone : List Str} {k : Nat} (hk : k < es.length) (h : hasB (nth es k).after nm = false) : curL es nm gone (k + 1) = curL es nm gone k := by
  rw [curL_succ hk]
  have e : woStep nm gone (nth es k) = nth (curL es nm gone k) k := by
    rw [curL_at hk]
    unfold woStep woAfter
    rw [if_neg (by rw [h]; simp)]
  rw [e]
  have hl : (curL es nm gone k).length = es.length := by unfold curL; rw [List.length_append, List.length_map, List.length_take, List.length_drop]; omega
  rw [nth_eq (by omega)]
  exact List.set_getElem_self (by omega)
theorem curL_all {es : List Step} {nm : Str} {gone : List Str} {k : Nat} (hk : es.length ≤ k) : curL es nm gone k = es.map (woStep nm gone) := by
  unfold curL; rw [List.take_of_length_le hk, List.drop_of_length_le hk, List.append_nil]
theorem erase_filter : ∀ (ss : List Step) (i : Nat), (namesOf ss).Nodup → i < ss.length → ss.eraseIdx i = ss.filter fun s => !decide (s.name = (nth ss i).name)
  | [], i, _, hi => absurd hi (by simp)
  | s :: ss, 0, hn, _ => by
    have h1 : s.name ∉ namesOf ss := (List.nodup_cons.1 hn).1
    have e : nth (s :: ss) 0 = s := rfl
    rw [List.eraseIdx_cons_zero, e, List.filter_cons, if_neg (by simp)]
    exact (List.filter_eq_self.2 fun a ha => by
      have : a.name ≠ s.name := fun e => h1 (e ▸ List.mem_map.2 ⟨a, ha, rfl⟩)
      simp [this]).symm
  | s :: ss, i + 1, hn, hi => by
    have h1 : s.name ∉ namesOf ss := (List.nodup_cons.1 hn).1
    have h2 : (namesOf ss).Nodup := (List.nodup_cons.1 hn).2
    have hi' : i < ss.length := by simpa using hi
    have e : nth (s :: ss) (i + 1) = nth ss i := by rw [nth_eq hi, nth_eq hi']; rfl
    have hne : s.name ≠ (nth ss i).name := fun e => h1 (by rw [e]; exact List.mem_map.2 ⟨_, mem_nth hi', rfl⟩)
    rw [List.eraseIdx_cons_succ, e, List.filter_cons, if_pos (by simp [hne]), erase_filter ss i h2 hi']
theorem wo_erase {ss : List Step} {nm : Str} (hn : (namesOf ss).Nodup) (h : hasB (namesOf ss) nm = true) : (ss.eraseIdx (plc ss nm)).map (woStep nm (nth ss (plc ss nm)).after) = woL ss nm := by
  obtain ⟨h1, _, h3⟩ := plc_ex h
  rw [erase_filter ss _ hn h1, h3]
  rfl
end Go.Proofs.YthdfefgianokgaaGreatDoor

/- Steps sorted by the library, in place. -/
namespace Go.Proofs.YthdfefgianokgaaGreatDoor
open Go.RowKit

/-- A step with its list's value. -/
abbrev TS := Step × (Option Addr × Nat × Nat)
def tvs (q : TS) : Step × Value := (q.1, .slice q.2.1 q.2.2.1 q.2.2.2)
def tcs (q : TS) : List Value := [.string q.1.name, .slice q.2.1 q.2.2.1 q.2.2.2, .bool q.1.undo]
theorem tcs_len (q : TS) : (tcs q).length = 3 := rfl
theorem tcs_tv (qs : List TS) : qs.flatMap tcs = (qs.map tvs).flatMap pcells := by
  rw [List.flatMap_map]; rfl
theorem tvs_of {ps : List (Step × Value)} (h : ∀ p ∈ ps, ∃ A m c, p.2 = .slice A m c) : ∃ qs : List TS, qs.map tvs = ps := by
  induction ps with
  | nil => exact ⟨[], rfl⟩
  | cons p ps ih =>
    obtain ⟨qs, hq⟩ := ih fun x hx => h x (List.mem_cons_of_mem _ hx)
    obtain ⟨A, m, c, e⟩ := h p (List.mem_cons_self ..)
    refine ⟨(p.1, A, m, c) :: qs, ?_⟩
    rw [List.map_cons, hq]
    congr 1
    unfold tvs
    rw [← e]
theorem flat_arrS (ps : List TS) : Sort.flatK tcs 3 ps.toArray = (ps.flatMap tcs).toArray := by
  have hlen : (ps.flatMap tcs).length = ps.length * 3 := by
    rw [List.length_flatMap]
    induction ps with
    | nil => rfl
    | cons p ps ih => rw [List.map_cons, List.sum_cons, ih, tcs_len, List.length_cons]; omega
  refine Sort.ext_get! (by simp [hlen]) fun t ht => ?_
  have ht' : t < ps.length * 3 := by simpa using ht
  rw [Sort.get_flatK _ _ _ t (by simpa using ht')]
  have h1 : t / 3 < ps.length := by omega
  have h2 : t % 3 < 3 := Nat.mod_lt _ (by omega)
  have h3 := flat_at (f := tcs) tcs_len ps (t / 3) (t % 3) h1 h2
  have h4 : t / 3 * 3 + t % 3 = t := by omega
  rw [h4] at h3
  have e1 : (ps.toArray)[t / 3]! = nth ps (t / 3) := by
    rw [getElem!_pos ps.toArray (t / 3) (by simpa using h1), nth_eq h1]
    rfl
  rw [e1]
  have e2 : ((ps.flatMap tcs).toArray)[t]! = ((ps.flatMap tcs)[t]?).getD default := by
    rw [getElem!_def, List.getElem?_toArray]
    cases (ps.flatMap tcs)[t]? <;> rfl
  rw [e2, h3]
  rw [getElem!_def]
  cases (tcs (nth ps (t / 3)))[t % 3]? <;> rfl
theorem step_holds {w : World} {g : Nat} {cur : Array Value} {e : TypeId} {ps : List (TS)} (hb : w.heap[g]? = some (.cells cur e (0, 0))) (ht : cur.toList.take (ps.length * 3) = ps.flatMap tcs) : Sort.HoldsK tcs 3 w g 0 ps.toArray := by
  unfold Sort.HoldsK
  rw [flat_arrS]
  intro j hj
  have hj0 : j < (ps.flatMap tcs).length := by simpa using hj
  have hj' : j < ps.length * 3 := by
    rw [← ht, List.length_take] at hj0
    omega
  refine ⟨?_, by simp [World.frozen?, hb]⟩
  have h1 : (cur.toList.take (ps.length * 3))[j]? = (ps.flatMap tcs)[j]? := by rw [ht]
  rw [List.getElem?_take_of_lt hj'] at h1
  simp only [World.cell?, hb, Nat.zero_add]
  simp only [Option.isSome_none, Bool.false_eq_true, if_false]
  rw [← Array.getElem?_toList, h1]
  rw [getElem!_pos (ps.flatMap tcs).toArray j hj]
  simp [List.getElem?_eq_getElem hj0]
theorem sorted_heap {w : World} {g n : Nat} {os : Array Obj} {cur : Array Value} {e : TypeId} {fr : Nat × Nat} (F : Array Value) (hb : w.heap[g]? = some (.cells cur e fr)) :
    (Sort.grow (Sort.putRow id (Sort.ahead w n) g 0 F) os).heap[g]? = some (.cells (Sort.putCells id 0 F cur) e fr) := by
  have hg : g < w.heap.size := (Array.getElem?_eq_some_iff.1 hb).1
  rw [Sort.heap_grow_old _ _ (by simpa using hg)]
  simp [Sort.putRow, Sort.mapBlock, Sort.ahead, Array.getElem?_modify, hb, Sort.onCells]
theorem sorted_grown {w : World} {g n : Nat} {os : Array Obj} (F : Array Value) : w.grownBy (Sort.grow (Sort.putRow id (Sort.ahead w n) g 0 F) os) (some g) := by
  refine ⟨rfl, rfl, rfl, by simp, fun k hk hne => ?_⟩
  rw [Sort.heap_grow_old _ _ (by simpa using hk)]
  have : g ≠ k := fun e => hne (by rw [e])
  simp [Sort.putRow, Sort.mapBlock, Sort.ahead, Array.getElem?_modify, this]
theorem sorted_take (cur : Array Value) (ts : List Value) (h : ts.length ≤ cur.size) : (Sort.putCells id 0 ts.toArray cur).toList.take ts.length = ts := by
  apply List.ext_getElem?
  intro j
  by_cases hj : j < ts.length
  · rw [List.getElem?_take_of_lt hj, Array.getElem?_toList]
    simp [Sort.putCells, hj, show j < cur.size by omega]
  · rw [List.getElem?_take_eq_none (by omega), List.getElem?_eq_none (by omega)]

/-- Names in order, as the closure compares. -/
def cmpS (x y : TS) : Int := Lib.compareBytes x.1.name.data.toList y.1.name.data.toList
theorem cmp_lt : ∀ a b : List UInt8, decide (Lib.compareBytes a b < 0) = Op.bytesLess a b
  | [], [] => by simp [Lib.compareBytes, Op.bytesLess]
  | [], _ :: _ => by simp [Lib.compareBytes, Op.bytesLess]
  | _ :: _, [] => by simp [Lib.compareBytes, Op.bytesLess]
  | a :: ar, b :: br => by
    have ih := cmp_lt ar br
    unfold Lib.compareBytes Op.bytesLess
    by_cases h1 : a < b
    · simp [h1]
    · by_cases h2 : b < a
      · have hne : a ≠ b := fun e => by
          have := UInt8.lt_iff_toNat_lt.1 h2
          rw [e] at this
          omega
        simp [h1, h2, hne]
      · have he : a = b := UInt8.toNat_inj.1 (by
          have g1 : ¬ a.toNat < b.toNat := fun h => h1 (UInt8.lt_iff_toNat_lt.2 h)
          have g2 : ¬ b.toNat < a.toNat := fun h => h2 (UInt8.lt_iff_toNat_lt.2 h)
          omega)
        simp [ih, he]
theorem ltOf_nameS (x y : TS) : ltOf cmpS x y = strLt x.1.name y.1.name := by
  unfold ltOf cmpS strLt
  rw [cmp_lt, ByteArray.toList_eq, ByteArray.toList_eq]
theorem swoS : Sort.SWO (ltOf cmpS) := by
  refine ⟨fun x => by rw [ltOf_nameS]; exact strLt_irr _, fun x y z h1 h2 => ?_, fun x y z h1 h2 => ?_⟩
  · rw [ltOf_nameS] at *; exact strLt_trans h1 h2
  · rw [ltOf_nameS] at *
    rcases strLt_tri x.1.name z.1.name with h | h | h
    · rcases strLt_tri y.1.name z.1.name with k | k | k
      · rw [h2] at k; cases k
      · rw [← k] at h; rw [h1] at h; cases h
      · rcases strLt_tri x.1.name y.1.name with m | m | m
        · rw [h1] at m; cases m
        · rw [m] at h; exact absurd (strLt_trans h k) (by rw [strLt_irr]; simp)
        · have := strLt_trans h (strLt_trans k m); rw [strLt_irr] at this; cases this
    · rw [h]; exact strLt_irr _
    · exact strLt_asymm h

theorem cmpS_any (x y : TS) (W : World) : Calls Tryz.prog 98 #[.agg (tcs x).toArray, .agg (tcs y).toArray] W fun e w' => e = .returned (.int .i64 (cmpS x y)) ∧ ∃ q os', w' = Sort.grow (W.drewN q) os' := by
  have hcon := fun W' => Tryz.strings_Compare x.1.name y.1.name W'
  have e : Lib.compareBytes x.1.name.data.toList y.1.name.data.toList = cmpS x y := rfl
  rw [e] at hcon
  clear e
  generalize cmpS x y = r at *
  obtain ⟨xc, A, n, c⟩ := x
  obtain ⟨yc, B, m, d⟩ := y
  show Calls Tryz.prog 98 #[.agg #[.string xc.name, .slice A n c, .bool xc.undo], .agg #[.string yc.name, .slice B m d, .bool yc.undo]] W _
  go_enter Tryz.func98, Tryz.ntmps98
  go_wp2_with (go_at_call 99; refine (hcon _).mono ?_; rintro e w' ⟨rfl, rfl⟩)
  go_ret
  exact ⟨rfl, 0, _, by rw [Sort.alloc_eq_grow, Sort.alloc_eq_grow, Sort.grow_grow]; rfl⟩

theorem hlenS (n : Nat) (W : World) (h : n ≤ 12) : Calls Tryz.prog 127 #[.int .u64 n] W fun e w' => (∃ l : Int, e = .returned (.int .i64 l)) ∧ w' = W :=
  (Tryz.bits_Len n W (by omega) (by omega)).mono fun _ _ ⟨he, hw⟩ => ⟨⟨_, he⟩, hw⟩
theorem perm_eq {α : Type} [Inhabited α] {d d' : Array α} (h : Sort.PermIn 0 d.size d d') : d'.toList.Perm d.toList := by
  obtain ⟨h1, _, h3⟩ := h
  have e1 : d'.extract 0 d.size = d' := by rw [← h1]; exact Array.extract_size
  rw [e1, Array.extract_size] at h3
  exact h3
theorem sortS_any (b c : Nat) (qs : List TS) (base : Nat) (w : World) (hrow : w.ownsRow base 35 3 (.slice (some ⟨b, 0, none⟩) qs.length c) qs.length (qs.flatMap tcs)) (h12 : qs.length ≤ 12) :
    Calls Tryz.prog 97 #[.slice (some ⟨b, 0, none⟩) qs.length c, .func (.func 98) #[] #[]] w fun e w' => e = .returned (.tuple #[]) ∧ ∃ rs : List TS, rs.Perm qs ∧ rs.Pairwise (fun p q => strLt q.1.name p.1.name = false) ∧
      w'.ownsRow base 35 3 (.slice (some ⟨b, 0, none⟩) qs.length c) qs.length (rs.flatMap tcs) ∧ w.grownBy w' (some b) := by
  obtain ⟨hl, hrow⟩ := hrow
  rcases hrow with ⟨h0, _⟩ | ⟨g, cap, cur, hv, hbase, hb, h1, h2, h3, h4⟩
  · cases h0
  injection hv with e1 _ e3
  injection e1 with e1
  injection e1 with e1 _
  subst e1; subst e3
  have eg : ∀ args w, (callFunc 98 args).run Tryz.prog w = .ok (.enter 98 args) w := enters_of Tryz.func98 (by kernel_rfl) rfl
  have hcmp : CmpLays Tryz.prog 98 #[] tcs 3 cmpS b 0 qs.toArray.size w := fun _ _ _ _ x y => cmpS_any x y _
  have hH := step_holds hb h4
  have hcon := AnyQ.slices_SortFunc_small_sorted Tryz.sortS 3 Tryz.isAgg35 Tryz.sizeOf35 tcs (fun _ => rfl) (fun x v hv => by simp [tcs] at hv; rcases hv with rfl | rfl | rfl <;> rfl) cmpS 98 #[] swoS b 0 c qs.toArray w eg hcmp hH (heap_lt hb) (by simpa using h12) hlenS
  change Calls Tryz.prog 97 _ _ _ at hcon
  have es : qs.toArray.size = qs.length := by simp
  rw [es] at hcon
  refine hcon.mono ?_
  rintro e w' ⟨rfl, d', n, os, hp, hs, rfl⟩
  have hp0 := hp
  rw [← es] at hp0
  have hperm := perm_eq hp0
  have hd : d'.size = qs.length := hp.1.trans es
  refine ⟨rfl, d'.toList, by simpa using hperm, ?_, ?_, ?_⟩
  · rw [List.pairwise_iff_getElem]
    intro i j hi hj hij
    have := hs i j (Nat.zero_le _) hij (by simp at hj; omega)
    rw [ltOf_nameS] at this
    simp at hi hj
    rw [getElem!_pos d' i hi, getElem!_pos d' j hj] at this
    simpa using this
  · have hf : Sort.flatK tcs 3 d' = (d'.toList.flatMap tcs).toArray := by
      have := flat_arrS d'.toList
      simpa using this
    have hlen2 : (d'.toList.flatMap tcs).length = qs.length * 3 := by
      have h5 : (Sort.flatK tcs 3 d').size = d'.size * 3 := Sort.size_flatK _ _ _
      rw [hf] at h5
      simpa [hd] using h5
    refine ⟨hlen2, .inr ⟨b, c, Sort.putCells id 0 (Sort.flatK tcs 3 d') cur, rfl, hbase, ?_, h1, h2, by simp [Sort.putCells, h3], ?_⟩⟩
    · exact sorted_heap _ hb
    · rw [hf, ← hlen2]
      exact sorted_take cur _ (by rw [hlen2, h3]; exact Nat.mul_le_mul_right _ h1)
  · exact sorted_grown _

/-- A row of steps of the call's own, sorted. -/
theorem sortRowS_any (b c n : Nat) (ss : List Step) (base : Nat) (w : World) (hk : SRow w base (.slice (some ⟨b, 0, none⟩) n c) n ss) (h12 : n ≤ 12) :
    Calls Tryz.prog 97 #[.slice (some ⟨b, 0, none⟩) n c, .func (.func 98) #[] #[]] w fun e w' => e = .returned (.tuple #[]) ∧ ∃ ts : List Step, ts.Perm ss ∧ ts.Pairwise (fun p q => strLt q.name p.name = false) ∧
      SRow w' base (.slice (some ⟨b, 0, none⟩) n c) n ts ∧ w.grownBy w' (some b) := by
  have hlen := hk.len
  obtain ⟨ps, e, h1, h2⟩ := hk
  obtain ⟨qs, hq⟩ := tvs_of (ps := ps) fun p hp => by
    obtain ⟨A, m, c, e2, _⟩ := h2 p hp
    exact ⟨A, m, c, e2⟩
  subst hq
  have hn : qs.length = n := by rw [← hlen, ← e]; simp
  subst hn
  rw [← tcs_tv] at h1
  obtain ⟨cur, hcur⟩ : ∃ cur, w.heap[b]? = some (.cells cur 35 (0, 0)) := by
    rcases h1.2 with ⟨h0, _⟩ | ⟨g, cap, cur, hv, _, hb, _⟩
    · cases h0
    · injection hv with e1; injection e1 with e1; injection e1 with e1 _
      subst e1
      exact ⟨cur, hb⟩
  refine (sortS_any b c qs base w h1 h12).mono ?_
  rintro e9 w' ⟨rfl, rs, hp, hs, ho, hg⟩
  have hpm : (rs.map tvs).Perm (qs.map tvs) := hp.map _
  refine ⟨rfl, (rs.map tvs).map (·.1), ?_, ?_, ⟨rs.map tvs, rfl, by rw [← tcs_tv]; exact ho, fun p hpp => ?_⟩, hg⟩
  · rw [← e]; exact hpm.map _
  · rw [List.map_map, List.pairwise_map]
    exact hs.imp fun h => h
  · obtain ⟨A, m, c', e2, h4⟩ := h2 p (hpm.subset hpp)
    refine ⟨A, m, c', e2, h4.kept fun b' cs' _ hc => hg.block b' (heap_lt hc) ?_⟩
    intro e3
    injection e3 with e3
    subst e3
    rw [hcur] at hc
    have := Option.some.inj hc
    injection this with _ e4
    exact absurd e4 (by decide)
end Go.Proofs.YthdfefgianokgaaGreatDoor

/- Names sorted, compacted and struck by the library, on a row of the call's own. -/
namespace Go.Proofs.YthdfefgianokgaaGreatDoor
open Go.RowKit

/-- A slice that owns its row lies in a block of its own. -/
theorem row_at {w : World} {base b n c : Nat} {e : TypeId} {xs : List Value} (h : w.ownsRow base e 1 (.slice (some ⟨b, 0, none⟩) n c) n xs) :
    ∃ cur, base ≤ b ∧ w.heap[b]? = some (.cells cur e (0, 0)) ∧ n ≤ c ∧ c ≤ maxLen ∧ cur.size = c * 1 ∧ cur.toList.take (n * 1) = xs := by
  rcases h.2 with ⟨e0, _⟩ | ⟨g, cap, cur, e0, hb, hg, hn, hm, hs, ht⟩
  · cases e0
  · injection e0 with e1 _ e3
    injection e1 with e1
    injection e1 with e1
    subst e1; subst e3
    exact ⟨cur, hb, hg, hn, hm, hs, ht⟩
theorem row_holds {w : World} {base b n c : Nat} {e : TypeId} {L : List (List UInt8)} (h : w.ownsRow base e 1 (.slice (some ⟨b, 0, none⟩) n c) n (L.map encStr)) : Sort.Holds encStr w b 0 L.toArray ∧ L.length = n := by
  have hl : L.length = n := by simpa using h.1
  obtain ⟨cur, _, hb, _, _, _, ht⟩ := row_at h
  refine ⟨holds_of_block hb ?_, hl⟩
  rw [hl]; simpa using ht
theorem grown_put {w : World} {b q : Nat} (d : Array (List UInt8)) : w.grownBy (Sort.putRow encStr (Sort.ahead w q) b 0 d) (some b) := by
  refine ⟨rfl, rfl, rfl, by simp [Sort.putRow, Sort.mapBlock, Sort.ahead], fun k hk hne => ?_⟩
  have : b ≠ k := fun e => hne (by rw [e])
  simp [Sort.putRow, Sort.mapBlock, Sort.ahead, Array.getElem?_modify, this]

def sortL (L : List (List UInt8)) : List (List UInt8) := L.mergeSort fun x y => decide (x ≤ y)
theorem sortL_len (L : List (List UInt8)) : (sortL L).length = L.length := List.length_mergeSort L
theorem sortRow_str (b n c base : Nat) (L : List (List UInt8)) (w : World) (hrow : w.ownsRow base 9 1 (.slice (some ⟨b, 0, none⟩) n c) n (L.map encStr)) (hn : n ≤ 1048576) :
    Calls Tryz.prog 132 #[.slice (some ⟨b, 0, none⟩) n c] w fun e w' => e = .returned (.tuple #[]) ∧ w'.ownsRow base 9 1 (.slice (some ⟨b, 0, none⟩) n c) n ((sortL L).map encStr) ∧ w.grownBy w' (some b) := by
  obtain ⟨hH, hl⟩ := row_holds hrow
  obtain ⟨cur, hbase, hb, h1, h2, h3, _⟩ := row_at hrow
  subst hl
  refine (Any.slices_Sort_string Tryz.lays190 b 0 c L w hH (heap_lt hb) (by omega)).mono ?_
  rintro e w' ⟨rfl, q, os, rfl⟩
  exact ⟨rfl, ownsRow_sorted (sortL_len L) hbase hb h1 h2 h3, grownBy_sorted _⟩
theorem compactRow_str (b n c base : Nat) (L : List (List UInt8)) (w : World) (hrow : w.ownsRow base 9 1 (.slice (some ⟨b, 0, none⟩) n c) n (L.map encStr)) (hn : n ≤ 1048576) :
    Calls Tryz.prog 133 #[.slice (some ⟨b, 0, none⟩) n c] w fun e w' => e = .returned (.slice (some ⟨b, 0, none⟩) (Lib.compact L).length c) ∧ w'.ownsRow base 9 1 (.slice (some ⟨b, 0, none⟩) (Lib.compact L).length c) (Lib.compact L).length ((Lib.compact L).map encStr) ∧ w.grownBy w' (some b) := by
  obtain ⟨hH, hl⟩ := row_holds hrow
  obtain ⟨cur, hbase, hb, h1, h2, h3, _⟩ := row_at hrow
  subst hl
  have hle := Lib.compact_length_le L
  refine (Tryz.slices_Compact_string b 0 c L w hH (by omega) h1).mono ?_
  rintro e w' ⟨rfl, q, rfl⟩
  refine ⟨rfl, ?_, grown_put _⟩
  have hc := Lib.ownsRow_putRow (q := q) (k := (Lib.compact L).length) (ys := Lib.compact L ++ List.replicate (L.length - (Lib.compact L).length) []) hrow (by simp; omega) hle
  rw [List.take_left] at hc
  exact hc

/-- The closure that strikes a name. -/
theorem drop1_any (bx : Nat) (x nm : Str) (w : World) (hb : w.cell? ⟨bx, 0, none⟩ = some (.string nm)) :
    Calls Tryz.prog 131 #[.string x, .pointer (some ⟨bx, 0, none⟩)] w fun e w' => e = .returned (.bool (decide (x = nm))) ∧ ∃ q, w' = w.drewN q := by
  have hq : (x.toList == nm.toList) = decide (x = nm) := by
    by_cases h : x = nm
    · rw [seq_t h]; simp [h]
    · rw [seq_f h]; simp [h]
  go_enter Tryz.func131, Tryz.ntmps131
  go_wp2
  go_ret
  exact ⟨rfl, 0, rfl⟩
def notL (nm : Str) (L : List (List UInt8)) : List (List UInt8) := L.filter fun l => !decide (ofL l = nm)
theorem delRow_str (b n c base bx : Nat) (nm : Str) (L : List (List UInt8)) (w : World) (hrow : w.ownsRow base 9 1 (.slice (some ⟨b, 0, none⟩) n c) n (L.map encStr)) (hn : n ≤ 1048576) (hb : w.cell? ⟨bx, 0, none⟩ = some (.string nm)) (hbx : bx < w.heap.size) (hne : bx ≠ b) :
    Calls Tryz.prog 130 #[.slice (some ⟨b, 0, none⟩) n c, .func (.func 131) #[] #[.pointer (some ⟨bx, 0, none⟩)]] w fun e w' => e = .returned (.slice (some ⟨b, 0, none⟩) (notL nm L).length c) ∧ w'.ownsRow base 9 1 (.slice (some ⟨b, 0, none⟩) (notL nm L).length c) (notL nm L).length ((notL nm L).map encStr) ∧ w.grownBy w' (some b) := by
  obtain ⟨hH, hl⟩ := row_holds hrow
  obtain ⟨cur, hbase, hb0, h1, h2, h3, _⟩ := row_at hrow
  subst hl
  have eg : ∀ args w, (callFunc 131 args).run Tryz.prog w = .ok (.enter 131 args) w := enters_of Tryz.func131 (by kernel_rfl) rfl
  have hp : PredAt Tryz.prog 131 #[.pointer (some ⟨bx, 0, none⟩)] encStr (fun l => decide (ofL l = nm)) w := fun W x hbw =>
    drop1_any bx (ofL x) nm W ((hbw.cell (p := ⟨bx, 0, none⟩) hbx).trans hb)
  have hpo : PredOver Tryz.prog 131 #[.pointer (some ⟨bx, 0, none⟩)] encStr (fun l => decide (ofL l = nm)) b 0 L.toArray.size w := fun q os dk x _ => by
    refine drop1_any bx (ofL x) nm _ ?_
    have := (grownBy_sorted (w := w) (g := b) (n := q) (os := os) dk).cell (a := ⟨bx, 0, none⟩) hb (by intro e; injection e with e; exact hne e)
    exact this
  refine (Tryz.slices_DeleteFunc encStr (fun _ => rfl) (fun l => decide (ofL l = nm)) 131 #[.pointer (some ⟨bx, 0, none⟩)] eg [] Tryz.zeroValue9 b 0 c L.toArray w hp hpo hH (by simp; omega) (by simpa using h1)).mono ?_
  rintro e w' ⟨rfl, q, rfl⟩
  have e1 : (L.toArray.toList.filter fun x => !decide (ofL x = nm)) = notL nm L := by simp [notL]
  have e2 : L.toArray.size = L.length := by simp
  rw [e1, e2]
  have hle : (notL nm L).length ≤ L.length := List.length_filter_le _ _
  refine ⟨rfl, ?_, grown_put _⟩
  have hc := Lib.ownsRow_putRow (q := q) (k := (notL nm L).length) (ys := notL nm L ++ List.replicate (L.length - (notL nm L).length) []) hrow (by simp; omega) hle
  rw [List.take_left] at hc
  exact hc

/-- Strings as bytes. -/
def ofS (xs : List Str) : List (List UInt8) := xs.map fun s => s.data.toList
theorem ofS_enc (xs : List Str) : (ofS xs).map encStr = xs.map Value.string := Lib.map_encStr xs
theorem ofS_not (nm : Str) (xs : List Str) : notL nm (ofS xs) = ofS (notName nm xs) := by
  unfold notL ofS notName
  rw [List.filter_map]
  congr 1
theorem ofL_enc (L : List (List UInt8)) : L.map encStr = (L.map ofL).map Value.string := by
  rw [List.map_map]; rfl
theorem drop_list {name : Str} {gone after : List Str} (h : hasB after name = true) : (Lib.compact (sortL (ofS (notName name after ++ gone)))).map ofL = woAfter name gone after := by
  have := drop_after (gone := gone) h
  unfold sortL ofS
  rw [← this]
  congr 4
  funext s
  exact (Lib.toList_data s).symm
end Go.Proofs.YthdfefgianokgaaGreatDoor

/- A step taken away by the program: (*Flow).drop. -/
namespace Go.Proofs.YthdfefgianokgaaGreatDoor
open Go.RowKit

theorem own_strU {w : World} {base n : Nat} {v : Value} {xs : List Value} (h : w.ownsRow base 9 1 v n xs) (hn : 0 < n) : ∃ b c, v = .slice (some ⟨b, 0, none⟩) n c ∧ base ≤ b ∧ b < w.heap.size := by
  rcases h.2 with ⟨_, e⟩ | ⟨g, cap, cur, e, hb, hg, _⟩
  · omega
  · exact ⟨g, cap, e, hb, heap_lt hg⟩
theorem own_at10 {w w' : World} {base n b3 c3 m3 : Nat} {v : Value} {xs : List Value} (h : w'.ownsRow base 9 1 v n xs) (_ : base ≤ b3) (_ : base ≤ w.heap.size) (hat : v.ownBlock = (Value.slice (some ⟨b3, 0, none⟩) m3 c3).ownBlock ∨ v.ownBlock = some w.heap.size) :
    ∃ b c, v = .slice (some ⟨b, 0, none⟩) n c ∧ base ≤ b ∧ b < w'.heap.size := by
  rcases h.2 with ⟨e, _⟩ | ⟨g, cap, cur, e, hb, hg, _⟩
  · subst e
    rcases hat with e | e <;> simp [Value.ownBlock] at e
  · exact ⟨g, cap, e, hb, heap_lt hg⟩

set_option maxRecDepth 100000 in
set_option maxHeartbeats 8000000 in
theorem drop_any (p b m c : Nat) (ver : Int) (ss : List Step) (nm : Str) (base : Nat) (w : World) (hp : w.heap[p]? = some (.cells #[.int .i64 ver, .slice (some ⟨b, 0, none⟩) (m + 1) c] 38)) (hrow : SRow w base (.slice (some ⟨b, 0, none⟩) (m + 1) c) (m + 1) ss) (hn8 : m + 1 ≤ 8)
    (hsh : ∀ j, j < m + 1 → (nth ss j).after.length ≤ 100) (hnd : (namesOf ss).Nodup) (hh : hasB (namesOf ss) nm = true) (hbp : base ≤ p) (hcm : c ≤ maxLen) :
    Calls Tryz.prog 100 #[.pointer (some ⟨p, 0, none⟩), .string nm] w fun e w' => e = .returned (.tuple #[]) ∧ w'.heap[p]? = some (.cells #[.int .i64 ver, .slice (some ⟨b, 0, none⟩) m c] 38) ∧
      SRow w' base (.slice (some ⟨b, 0, none⟩) m c) m (woL ss nm) ∧ But p (some b) w w' := by
  obtain ⟨hpl, hix, hpn⟩ := plc_ex hh
  have HWO := Lib.hid (wo_erase hnd hh)
  have HIX := Lib.hid hix
  have hlen : ss.length = m + 1 := hrow.len
  have HLEN := Lib.hid hlen
  have HSH := Lib.hid hsh; clear hsh
  obtain ⟨b', cur, eb, hbb, hbk, hmc, hcx, hcs⟩ := SRow.form hrow (by omega)
  injection eb with eb
  injection eb with eb
  subst eb
  have hnpb : p ≠ b := fun e => by subst e; rw [hp] at hbk; injection hbk with hbk; injection hbk with _ hbk; exact absurd hbk (by decide)
  have hbl := heap_lt hbk
  have hplw := heap_lt hp
  generalize plc ss nm = at0 at *
  have hat : at0 < m + 1 := by omega
  have HBL := Lib.hid ((Below.refl w.heap.size w).alloc (Nat.le_refl _) (.cells #[.string nm] 9))
  have HN := Lib.hid (heap_new (w := w) (o := .cells #[.string nm] 9) rfl)
  have HP := Lib.hid (heap_old (o := .cells #[.string nm] 9) hp); clear hp
  have HR := Lib.hid (hrow.below ((Below.refl _ _).alloc (Nat.le_refl _) (.cells #[.string nm] 9))); clear hrow
  have HBK := Lib.hid (heap_old (o := .cells #[.string nm] 9) hbk); clear hbk
  clear hix hh hpn hlen hnd
  go_enter Tryz.func100, Tryz.ntmps100
  go_upto_region 1 with fail
  generalize w.alloc (.cells #[.string nm] 9) = W at *
  generalize hb0 : w.heap.size = b0 at *
  have HB00 := Lib.hid hb0; clear hb0
  have hb0W := heap_lt HN.out
  have HRW := Lib.hid ((show RStep W base (some ⟨b, 0, none⟩) (m + 1) ss by obtain ⟨A, c9, e, h⟩ := HR.out.hat; cases e; exact h))
  have HSB : Hid (∀ w', Below W.heap.size W w' → (fun w' : World => (w'.cell? ⟨p, 0, none⟩ = some (.int .i64 ver) ∧ w'.cell? ⟨p, 1, none⟩ = some (.slice (some ⟨b, 0, none⟩) (m + 1) c)) ∧ w'.cell? ⟨b0, 0, none⟩ = some (.string nm)) w') := Lib.hid (fun w' h => by
    have e1 := (h.block _ (heap_lt HP.out)).trans HP.out
    have e2 := (h.block _ (heap_lt HN.out)).trans HN.out
    exact ⟨⟨(blk_cl (k := 0) e1 rfl).1, (blk_cl (k := 1) e1 rfl).1⟩, (blk_cl (k := 0) e2 rfl).1⟩)
  go_wp2_with fail
  refine wp_region_held_drew (S := fun w' : World => (w'.cell? ⟨p, 0, none⟩ = some (.int .i64 ver) ∧ w'.cell? ⟨p, 1, none⟩ = some (.slice (some ⟨b, 0, none⟩) (m + 1) c)) ∧ w'.cell? ⟨b0, 0, none⟩ = some (.string nm)) (by kernel_rfl) (HSB.out _ (Below.refl _ _).drew) (fun hH => ?_)
  refine wpAnyH_takeE (i := 0) (d := some 9) (v := ?v301) rfl (by rfl) (by kernel_rfl) (by kernel_rfl) (by kernel_rfl) (fun _ _ _ h => h) (Or.inl ⟨by rfl, ?y301⟩) hH ?r301
  case y301 => (intro w' hS; (try dsimp only at hS); go_simp; (try with_reducible rfl))
  (try simp only [Act.put, List.setIfInBounds_toArray, List.set_cons_zero, List.set_cons_succ])
  refine wpAnyH_takeE (i := 1) (d := some 10) (v := ?v302) rfl (by rfl) (by kernel_rfl) (by kernel_rfl) (by kernel_rfl) (fun _ _ _ h => h) (Or.inl ⟨by rfl, ?y302⟩) hH ?r302
  case y302 => (intro w' hS; (try dsimp only at hS); go_simp; (try with_reducible rfl))
  (try simp only [Act.put, List.setIfInBounds_toArray, List.set_cons_zero, List.set_cons_succ])
  refine wpAnyH_takeE (i := 2) (d := some 11) (v := ?v303) rfl (by rfl) (by kernel_rfl) (by kernel_rfl) (by kernel_rfl) (fun _ _ _ h => h) (Or.inl ⟨by rfl, ?y303⟩) hH ?r303
  case y303 => (intro w' hS; (try dsimp only at hS); go_simp; (try with_reducible rfl))
  (try simp only [Act.put, List.setIfInBounds_toArray, List.set_cons_zero, List.set_cons_succ])
  refine wpAnyH_takeE (i := 3) (d := some 12) (v := ?v304) rfl (by rfl) (by kernel_rfl) (by kernel_rfl) (by kernel_rfl) (fun _ _ _ h => h) (Or.inl ⟨by rfl, ?y304⟩) hH ?r304
  case y304 => (intro w' hS; (try dsimp only at hS); go_simp; (try with_reducible rfl))
  (try simp only [Act.put, List.setIfInBounds_toArray, List.set_cons_zero, List.set_cons_succ])
  refine wpAnyH_ready (rs := [4]) (by kernel_rfl) (by simp) ?_
  refine AllReadyH.cons rfl (fun K hK => ?_) AllReadyH.nil
  go_wp2_with fail
  go_at_call 94
  refine (at_any _ _ _ ver ss nm _ _ (HRW.out.below (Below.refl _ _).drew) (by omega)).mono ?_
  rintro e w2 ⟨rfl, hb2⟩
  have HB2 := Lib.hid ((Below.refl W.heap.size W).drew.trans hb2)
  rw [HIX.out]
  go_wp2_with fail
  refine hK.out _ _ (HSB.out _ HB2.out) (fun hH2 => ?_)
  clear hK K hH
  have hH := hH2
  (try simp only [Act.put, List.setIfInBounds_toArray, List.set_cons_zero, List.set_cons_succ])
  refine wpAnyH_ready (rs := [5]) (by kernel_rfl) (by simp) ?_
  refine AllReadyH.cons rfl (fun K hK => ?_) AllReadyH.nil
  go_simp
  refine hK.out _ _ (HSB.out _ HB2.out) (fun hH2 => ?_)
  clear hK K hH
  have hH := hH2
  (try simp only [Act.put, List.setIfInBounds_toArray, List.set_cons_zero, List.set_cons_succ])
  refine wpAnyH_done (by kernel_rfl) ?_ _
  -- the step that goes
  have HP2 := Lib.hid ((HB2.out.block _ (heap_lt HP.out)).trans HP.out)
  have HN2 := Lib.hid ((HB2.out.block _ hb0W).trans HN.out)
  have HR2 := Lib.hid (HR.out.below HB2.out)
  have HBK2 := Lib.hid ((HB2.out.block _ (heap_lt HBK.out)).trans HBK.out)
  have hsz2 := HB2.out.size
  have HBW2 := Lib.hid (HBL.out.trans (HB2.out.mono (Nat.le_of_lt hb0W)))
  clear hb2
  obtain ⟨G, ng, cg, ⟨d1, d2, d3⟩, hgs, _⟩ := HR2.out.step_at hat
  have HGS := Lib.hid hgs; clear hgs
  have hng : ng ≤ 100 := by rw [← HGS.out.1]; exact HSH.out at0 hat
  have hb2l : b < w2.heap.size := by omega
  have hk0 : (0 : Int) ≤ (at0 : Int) := by omega
  have hk1 : (at0 : Int) < ((m + 1 : Nat) : Int) := by omega
  have hk2 : ¬ ((at0 : Int) < 0) := by omega
  have hk3 : (at0 : Int) < (m : Int) + 1 := by omega
  have x1 := (blk_cl (k := 1) HP2.out rfl).1
  have x1a := (blk_cl (k := 1) (heap_old (o := .cells #[.string (nth ss at0).name, .slice G ng cg, .bool (nth ss at0).undo] 35) HP2.out) rfl).1
  have hww : w2.heap.size + 1 ≤ (w2.alloc (.cells #[.string (nth ss at0).name, .slice G ng cg, .bool (nth ss at0).undo] 35)).heap.size := by simp
  go_wp2_with fail
  refine (delRow_any b m c at0 base ss _ (HR2.out.below ((Below.refl _ _).alloc (Nat.le_refl _) _)) hat hcm).mono ?_
  rintro e w3 ⟨rfl, hrow3, hg3⟩
  have HG3 := Lib.hid (heap_new (w := w2) (o := .cells #[.string (nth ss at0).name, .slice G ng cg, .bool (nth ss at0).undo] 35) rfl)
  have HA3 := Lib.hid ((Below.refl w2.heap.size w2).alloc (Nat.le_refl _) (.cells #[.string (nth ss at0).name, .slice G ng cg, .bool (nth ss at0).undo] 35))
  have HP3 := Lib.hid (grown_blk hg3 ((HA3.out.block _ (heap_lt HP2.out)).trans HP2.out) (fun e => hnpb (by injection e with e; exact e.symm)))
  have HN3 := Lib.hid (grown_blk hg3 ((HA3.out.block _ (heap_lt HN2.out)).trans HN2.out) (fun e => by injection e with e; omega))
  have HG3b := Lib.hid (grown_blk hg3 HG3.out (fun e => by injection e with e; omega))
  have HGS3 := Lib.hid (HGS.out.kept (w' := w3.setCell ⟨p, 1, none⟩ (.slice (some ⟨b, 0, none⟩) m c)) (fun b' cs _ hc => by
    have n1 : b' ≠ p := fun e => by subst e; rw [HP2.out] at hc; injection hc with hc; injection hc with _ hc; exact absurd hc (by decide)
    have n2 : b' ≠ b := fun e => by subst e; rw [HBK2.out] at hc; injection hc with hc; injection hc with _ hc; exact absurd hc (by decide)
    exact (Below.heap_setCell _ _ _ _ n1).trans ((hg3.block b' (by have := heap_lt hc; simp; omega) (fun e => by injection e with e; exact n2 e)).trans (HA3.out.block _ (heap_lt hc)))))
  have HT3 : Hid (But p (some b) w w3) := Lib.hid (((But.of_below (by rw [HB00.out]; exact HBW2.out)).trans (But.of_below HA3.out)).trans (But.of_grown hg3))
  clear d1 d2 d3 x1 x1a hg3
  have y1 := (blk_cl (k := 1) HP3.out rfl).1
  have y1' := (blk_cl (k := 1) HP3.out rfl).2
  have HR3 := Lib.hid hrow3; clear hrow3
  go_wp2_with fail
  have HP5 := Lib.hid (set21 (u := .slice (some ⟨b, 0, none⟩) m c) HP3.out)
  have HR5 := Lib.hid (HR3.out.set (o := 1) (u := .slice (some ⟨b, 0, none⟩) m c) HP3.out (by decide) (by decide))
  have HN5 := Lib.hid (set_ne (b := p) (o := 1) (u := .slice (some ⟨b, 0, none⟩) m c) HN3.out (by omega))
  have HG5 := Lib.hid (set_ne (b := p) (o := 1) (u := .slice (some ⟨b, 0, none⟩) m c) HG3b.out (by omega))
  have HT5 := Lib.hid (HT3.out.set_ 1 (.slice (some ⟨b, 0, none⟩) m c))
  have HES : Hid ((ss.eraseIdx at0).length = m) := Lib.hid (by rw [List.length_eraseIdx, if_pos (by rw [HLEN.out]; exact hat), HLEN.out]; omega)
  have HSE : Hid (∀ j, j < m → (nth (ss.eraseIdx at0) j).after.length ≤ 100) := Lib.hid (fun j hj => by
    have := List.mem_of_mem_eraseIdx (mem_nth (show j < (ss.eraseIdx at0).length by rw [HES.out]; exact hj))
    obtain ⟨i, hi, e⟩ := nth_of_mem this
    rw [← e]
    exact HSH.out i (by rw [← HLEN.out]; exact hi))
  have hnpb2 : (some b : Option Nat) ≠ some p := fun e => hnpb (by injection e with e; exact e.symm)
  have hnnb2 : (some b : Option Nat) ≠ some b0 := fun e => by injection e with e; omega
  have hngb2 : (some b : Option Nat) ≠ some w2.heap.size := fun e => by injection e with e; omega
  clear y1 y1' HG3 HG3b HGS HA3 HP3 HN3 HT3 HBK HBK2 HP HP2 HN HN2 HR HR2 HR3 HRW HSB HSH HB2 HBW2 hww hsz2
  generalize w2.heap.size = b1 at *
  generalize hesn : ss.eraseIdx at0 = es at *
  generalize hgon : (nth ss at0).after = gone at *
  have HWO2 : Hid (es.map (woStep nm gone) = woL ss nm) := Lib.hid HWO.out
  clear hesn hgon HWO HIX HLEN hpl
  generalize w3.setCell ⟨p, 1, none⟩ (.slice (some ⟨b, 0, none⟩) m c) = W5 at *
  have hpl5 := heap_lt HP5.out
  have hnl5 := heap_lt HN5.out
  have hgl5 := heap_lt HG5.out
  go_loopw [37] (fun i wr => ∃ k : Nat, k ≤ m ∧ i = .int .i64 (k : Int) ∧ SRow wr base (.slice (some ⟨b, 0, none⟩) m c) m (curL es nm gone k) ∧ W5.grownBy wr (some b)) (fun i _ => m - (intOf i).toNat)
  case atStart => exact ⟨0, Nat.zero_le _, rfl, by rw [curL_zero]; exact HR5.out, World.grownBy.refl _ _⟩
  case round =>
    obtain ⟨wo, rfl⟩ : ∃ wo : World, wo = wr := ⟨_, rfl⟩
    obtain ⟨k, hk, rfl, hrow, hgw⟩ := hrel
    have HROW := Lib.hid hrow; clear hrow
    have HGW := Lib.hid hgw; clear hgw
    have hso := HGW.out.size
    by_cases hlt : k < m
    · obtain ⟨A', n', c', ⟨d1, d2, d3⟩, hss, hfz⟩ := HROW.out.step_at hlt
      have hke : k < es.length := by rw [HES.out]; exact hlt
      rw [curL_at hke] at d1 d3 hss
      have hn' : n' ≤ 100 := by rw [← hss.1]; exact HSE.out k hlt
      have hk0 : (0 : Int) ≤ (k : Int) := by omega
      have hk1 : (k : Int) < (m : Int) := by omega
      have hk2 : ¬ ((k : Int) < 0) := by omega
      have HSS := Lib.hid hss; clear hss
      have HA := Lib.hid ((Below.refl wo.heap.size wo).alloc (Nat.le_refl _) (.cells #[.string (nth es k).name, .slice A' n' c', .bool (nth es k).undo] 35))
      have HBX := Lib.hid (heap_new (w := wo) (o := .cells #[.string (nth es k).name, .slice A' n' c', .bool (nth es k).undo] 35) rfl)
      have HPo := Lib.hid (heap_old (o := .cells #[.string (nth es k).name, .slice A' n' c', .bool (nth es k).undo] 35) (grown_blk HGW.out HP5.out hnpb2))
      have HNo := Lib.hid (heap_old (o := .cells #[.string (nth es k).name, .slice A' n' c', .bool (nth es k).undo] 35) (grown_blk HGW.out HN5.out hnnb2))
      have HGo := Lib.hid (heap_old (o := .cells #[.string (nth es k).name, .slice A' n' c', .bool (nth es k).undo] 35) (grown_blk HGW.out HG5.out hngb2))
      have hbo : b < wo.heap.size := by
        obtain ⟨b9, cur9, eb9, _, h9, _⟩ := SRow.form HROW.out (by omega)
        injection eb9 with eb9
        injection eb9 with eb9
        rw [← eb9] at h9
        exact heap_lt h9
      have HDR := Lib.hid (HSS.out.below HA.out).hat
      have HGN := Lib.hid ((HGS3.out.kept (w' := wo) (fun b' cs _ hc => HGW.out.block b' (heap_lt hc) (fun e => by
        injection e with e
        subst e
        obtain ⟨b9, cur9, eb9, _, h9, _⟩ := SRow.form HR5.out (by omega)
        injection eb9 with eb9
        injection eb9 with eb9
        rw [← eb9, hc] at h9
        injection h9 with h9
        injection h9 with _ h9
        exact absurd h9 (by decide)))).below HA.out).hat
      have HRq := Lib.hid (HROW.out.below HA.out)
      cases hc : hasB (nth es k).after nm
      · have HT := Lib.hid (curL_no (gone := gone) hke hc)
        have z1 := (blk_cl (k := 1) HBX.out rfl).1
        have z2 := (blk_cl (k := 0) HNo.out rfl).1
        go_wp2_with fail
        refine (contains_any A' n' c' (nth es k).after nm _ _ HDR.out (by omega)).mono ?_
        rintro e w7 ⟨rfl, rfl⟩
        rw [hc]
        go_wp2_with fail
        go_roundw
        case rel => exact ⟨k + 1, by omega, by go_num, by rw [HT.out]; exact HRq.out, ⟨HGW.out.os, HGW.out.tape, HGW.out.output, by simp; omega, fun i hi hne => (HA.out.block i (by omega)).trans (HGW.out.block i hi hne)⟩⟩
        case measure => simp [intOf]; omega
      · have hn1 : 0 < n' := by
          rw [← HDR.out.1]
          exact List.length_pos_of_mem (hasB_true.1 hc)
        have HT : Hid (curL es nm gone (k + 1) = (curL es nm gone k).set k { nth (curL es nm gone k) k with after := (Lib.compact (sortL (ofS (notName nm (nth es k).after ++ gone)))).map ofL }) := Lib.hid (by
          rw [curL_succ hke, drop_list hc, curL_at hke]; rfl)
        go_upto_region 7 with fail
        generalize wo.alloc (.cells #[.string (nth es k).name, .slice A' n' c', .bool (nth es k).undo] 35) = wq at *
        generalize hpb : wo.heap.size = pb at *
        have hpbq := heap_lt HBX.out
        have hb0q : b0 < wq.heap.size := heap_lt HNo.out
        have hpq0 : p < wq.heap.size := heap_lt HPo.out
        have hpq : wq.heap.size ≤ wq.heap.size := Nat.le_refl _
        clear d1 d2 d3 hfz
        have z1 := (blk_cl (k := 1) HBX.out rfl).1
        have z2 := (blk_cl (k := 0) HNo.out rfl).1
        go_wp2_with fail
        refine (contains_any A' n' c' (nth es k).after nm _ _ HDR.out (by omega)).mono ?_
        rintro e w7 ⟨rfl, rfl⟩
        rw [hc]
        clear z1 z2
        have HS8 : Hid (∀ w', Below wq.heap.size wq w' → (fun w' : World => w'.cell? ⟨pb, 1, none⟩ = some (.slice A' n' c') ∧ w'.cell? ⟨b1, 1, none⟩ = some (.slice G ng cg)) w') := Lib.hid (fun w' h => by
          have e1 := (h.block _ hpbq).trans HBX.out
          have e2 := (h.block _ (heap_lt HGo.out)).trans HGo.out
          exact ⟨(blk_cl (k := 1) e1 rfl).1, (blk_cl (k := 1) e2 rfl).1⟩)
        have HN8 : Hid (∀ w', Below wq.heap.size wq w' → w'.cell? ⟨b0, 0, none⟩ = some (.string nm)) := Lib.hid (fun w' h => (blk_cl (k := 0) ((h.block _ hb0q).trans HNo.out) rfl).1)
        have HS10 : Hid (∀ w', Below wq.heap.size wq w' → (fun w' : World => w'.cell? ⟨p, 1, none⟩ = some (.slice (some ⟨b, 0, none⟩) m c)) w') := Lib.hid (fun w' h => (blk_cl (k := 1) ((h.block _ hpq0).trans HPo.out) rfl).1)
        clear hc
        go_wp2_with fail
        refine wp_region_held_drew (S := fun w' : World => w'.cell? ⟨pb, 1, none⟩ = some (.slice A' n' c') ∧ w'.cell? ⟨b1, 1, none⟩ = some (.slice G ng cg)) (by kernel_rfl) (HS8.out _ (Below.refl _ _).drew) (fun hH => ?_)
        refine wpAnyH_takeE (i := 0) (d := some 47) (v := ?v305) rfl (by rfl) (by kernel_rfl) (by kernel_rfl) (by kernel_rfl) (fun _ _ _ h => h) (Or.inl ⟨by rfl, ?y305⟩) hH ?r305
        case y305 => (intro w' hS; (try dsimp only at hS); go_simp; (try with_reducible rfl))
        (try simp only [Act.put, List.setIfInBounds_toArray, List.set_cons_zero, List.set_cons_succ])
        refine wpAnyH_takeE (i := 1) (d := some 48) (v := ?v306) rfl (by rfl) (by kernel_rfl) (by kernel_rfl) (by kernel_rfl) (fun _ _ _ h => h) (Or.inl ⟨by rfl, ?y306⟩) hH ?r306
        case y306 => (intro w' hS; (try dsimp only at hS); go_simp; (try with_reducible rfl))
        (try simp only [Act.put, List.setIfInBounds_toArray, List.set_cons_zero, List.set_cons_succ])
        refine wpAnyH_takeE (i := 3) (d := some 50) (v := ?v307) rfl (by rfl) (by kernel_rfl) (by kernel_rfl) (by kernel_rfl) (fun _ _ _ h => h) (Or.inl ⟨by rfl, ?y307⟩) hH ?r307
        case y307 => (intro w' hS; (try dsimp only at hS); go_simp; (try with_reducible rfl))
        (try simp only [Act.put, List.setIfInBounds_toArray, List.set_cons_zero, List.set_cons_succ])
        refine wpAnyH_takeE (i := 5) (d := some 52) (v := ?v308) rfl (by rfl) (by kernel_rfl) (by kernel_rfl) (by kernel_rfl) (fun _ _ _ h => h) (Or.inl ⟨by rfl, ?y308⟩) hH ?r308
        case y308 => (intro w' hS; (try dsimp only at hS); go_simp; (try with_reducible rfl))
        (try simp only [Act.put, List.setIfInBounds_toArray, List.set_cons_zero, List.set_cons_succ])
        refine wpAnyH_takeE (i := 6) (d := some 53) (v := ?v309) rfl (by rfl) (by kernel_rfl) (by kernel_rfl) (by kernel_rfl) (fun _ _ _ h => h) (Or.inl ⟨by rfl, ?y309⟩) hH ?r309
        case y309 => (intro w' hS; (try dsimp only at hS); go_simp; (try with_reducible rfl))
        (try simp only [Act.put, List.setIfInBounds_toArray, List.set_cons_zero, List.set_cons_succ])
        refine wpAnyH_ready (rs := [2]) (by kernel_rfl) (by simp) ?_
        refine AllReadyH.cons rfl (fun K hK => ?_) AllReadyH.nil
        go_wp2_with fail
        go_at_call 90
        refine (cloneNames_any _ _ _ (nth es k).after _ _ (HDR.out.below (Below.refl _ _).drew) (by omega)).mono ?_
        rintro e w8 ⟨v8, rfl, how8⟩
        have HB8 := Lib.hid ((Below.refl wq.heap.size wq).drew.trans how8.below)
        obtain ⟨b3, c3, rfl, hlb3, hlt3⟩ := own_strU how8.row (by omega)
        change wq.heap.size ≤ b3 at hlb3
        have HO8 : Hid (w8.ownsRow wq.heap.size 9 1 (.slice (some ⟨b3, 0, none⟩) n' c3) n' ((ofS (nth es k).after).map encStr)) := Lib.hid (by rw [ofS_enc]; exact how8.row)
        clear how8
        go_wp2_with fail
        refine hK.out _ _ (HS8.out _ HB8.out) (fun hH2 => ?_)
        clear hK K hH
        have hH := hH2
        (try simp only [Act.put, List.setIfInBounds_toArray, List.set_cons_zero, List.set_cons_succ])
        refine wpAnyH_ready (rs := [4]) (by kernel_rfl) (by simp) ?_
        refine AllReadyH.cons rfl (fun K hK => ?_) AllReadyH.nil
        rw [if_pos (by rfl)]
        refine wp_call2 130 (.tmp 49) (.tmp 50) (.slice (some ⟨b3, 0, none⟩) n' c3) (.func (.func 131) #[] #[.pointer (some ⟨b0, 0, none⟩)]) _ rfl (enters_of Tryz.func130 (by kernel_rfl) rfl) rfl rfl ?_
        refine (delRow_str b3 n' c3 wq.heap.size b0 nm (ofS (nth es k).after) w8 HO8.out (by omega) (HN8.out _ HB8.out) (Nat.lt_of_lt_of_le hb0q HB8.out.size) (by omega)).mono ?_
        rintro e w9 ⟨rfl, how9, hg9⟩
        refine ⟨_, rfl, ?_⟩
        have HB9 := Lib.hid (HB8.out.grown hg9 HB8.out.size (fun k hk => by injection hk with hk; omega))
        rw [ofS_not] at how9
        rw [ofS_not]
        obtain ⟨m9, hm9⟩ : ∃ m9, m9 = (ofS (notName nm (nth es k).after)).length := ⟨_, rfl⟩
        rw [← hm9] at how9
        rw [← hm9]
        have hm9l : m9 ≤ 100 := by
          rw [hm9]; unfold ofS notName; rw [List.length_map]
          exact Nat.le_trans (List.length_filter_le _ _) (by rw [HDR.out.1]; exact hn')
        have HO9 : Hid (w9.ownsRow wq.heap.size 9 1 (.slice (some ⟨b3, 0, none⟩) m9 c3) m9 ((notName nm (nth es k).after).map Value.string)) := Lib.hid (by rw [← ofS_enc]; exact how9)
        clear how9 hm9
        refine hK.out _ _ (HS8.out _ HB9.out) (fun hH2 => ?_)
        clear hK K hH
        have hH := hH2
        (try simp only [Act.put, List.setIfInBounds_toArray])
        refine wpAnyH_ready (rs := [7]) (by kernel_rfl) (by simp) ?_
        refine AllReadyH.cons rfl (fun K hK => ?_) AllReadyH.nil
        refine wappl 33 9 1 16 _ Tryz.underlying33 info_str rfl (by omega) (by omega) wq.heap.size (.slice (some ⟨b3, 0, none⟩) m9 c3) m9 _ (gone.map Value.string) G ng cg HO9.out (.tmp 51) (.tmp 53) rfl rfl rfl (by rw [List.length_map, HGN.out.1]; omega) (news_str (HGN.out.below (HB9.out.mono hpq))) (by simp [Value.oneCell']) (by omega) HB9.out.size ?_
        intro v10 w10 how10 hg10 hat10
        have HB10 := Lib.hid (HB9.out.grown hg10 HB9.out.size (fun k hk => by (have : b3 = k := by simpa [Value.ownBlock] using hk); omega))
        have HO10 : Hid (w10.ownsRow wq.heap.size 9 1 v10 (m9 + ng) ((ofS (notName nm (nth es k).after ++ gone)).map encStr)) := Lib.hid (by rw [ofS_enc, List.map_append]; exact how10)
        obtain ⟨b10, c10, rfl, hlb10, hlt10⟩ := own_at10 how10 hlb3 HB9.out.size hat10
        clear how10 hg10 hat10
        refine hK.out _ _ (HS8.out _ HB10.out) (fun hH2 => ?_)
        clear hK K hH
        have hH := hH2
        (try simp only [Act.put])
        refine wpAnyH_ready (rs := [8]) (by kernel_rfl) (by simp) ?_
        refine AllReadyH.cons rfl (fun K hK => ?_) AllReadyH.nil
        go_simp
        refine hK.out _ _ (HS8.out _ HB10.out) (fun hH2 => ?_)
        clear hK K hH
        have hH := hH2
        (try simp only [Act.put, List.setIfInBounds_toArray, List.set_cons_zero, List.set_cons_succ])
        refine wpAnyH_done (by kernel_rfl) ?_ _
        go_wp2_with fail
        refine (sortRow_str b10 (m9 + ng) c10 wq.heap.size _ _ HO10.out (by omega)).mono ?_
        rintro e w11 ⟨rfl, how11, hg11⟩
        have HB11 := Lib.hid (HB10.out.grown hg11 HB10.out.size (fun k hk => by injection hk with hk; omega))
        have HO11 := Lib.hid how11
        clear how11 hg11
        go_wp2_with fail
        refine wp_region_held_drew (S := fun w' : World => w'.cell? ⟨p, 1, none⟩ = some (.slice (some ⟨b, 0, none⟩) m c)) (by kernel_rfl) (HS10.out _ (HB11.out.drew)) (fun hH => ?_)
        refine wpAnyH_takeE (i := 0) (d := some 57) (v := ?v310) rfl (by rfl) (by kernel_rfl) (by kernel_rfl) (by kernel_rfl) (fun _ _ _ h => h) (Or.inl ⟨by rfl, ?y310⟩) hH ?r310
        case y310 => (intro w' hS; (try dsimp only at hS); go_simp; (try with_reducible rfl))
        (try simp only [Act.put, List.setIfInBounds_toArray, List.set_cons_zero, List.set_cons_succ])
        refine wpAnyH_takeE (i := 1) (d := some 58) (v := ?v311) rfl (by rfl) (by kernel_rfl) (by kernel_rfl) (by kernel_rfl) (fun _ _ _ h => h) (Or.inl ⟨by rfl, ?y311⟩) hH ?r311
        case y311 => (intro w' hS; (try dsimp only at hS); go_simp; (try with_reducible rfl))
        (try simp only [Act.put, List.setIfInBounds_toArray, List.set_cons_zero, List.set_cons_succ])
        refine wpAnyH_takeE (i := 2) (d := some 59) (v := ?v312) rfl (by rfl) (by kernel_rfl) (by kernel_rfl) (by kernel_rfl) (fun _ _ _ h => h) (Or.inl ⟨by rfl, ?y312⟩) hH ?r312
        case y312 => (intro w' hS; (try dsimp only at hS); go_simp; (try with_reducible rfl))
        (try simp only [Act.put, List.setIfInBounds_toArray, List.set_cons_zero, List.set_cons_succ])
        refine wpAnyH_takeE (i := 3) (d := some 60) (v := ?v313) rfl (by rfl) (by kernel_rfl) (by kernel_rfl) (by kernel_rfl) (fun _ _ _ h => h) (Or.inl ⟨by rfl, ?y313⟩) hH ?r313
        case y313 => (intro w' hS; (try dsimp only at hS); go_simp; (try with_reducible rfl))
        (try simp only [Act.put, List.setIfInBounds_toArray, List.set_cons_zero, List.set_cons_succ])
        refine wpAnyH_takeE (i := 4) (d := some 61) (v := ?v314) rfl (by rfl) (by kernel_rfl) (by kernel_rfl) (by kernel_rfl) (fun _ _ _ h => h) (Or.inl ⟨by rfl, ?y314⟩) hH ?r314
        case y314 => (intro w' hS; (try dsimp only at hS); go_simp; (try with_reducible rfl))
        (try simp only [Act.put, List.setIfInBounds_toArray, List.set_cons_zero, List.set_cons_succ])
        refine wpAnyH_takeE (i := 5) (d := some 62) (v := ?v315) rfl (by rfl) (by kernel_rfl) (by kernel_rfl) (by kernel_rfl) (fun _ _ _ h => h) (Or.inl ⟨by rfl, ?y315⟩) hH ?r315
        case y315 => (intro w' hS; (try dsimp only at hS); go_simp; (try with_reducible rfl))
        (try simp only [Act.put, List.setIfInBounds_toArray, List.set_cons_zero, List.set_cons_succ])
        refine wpAnyH_ready (rs := [6]) (by kernel_rfl) (by simp) ?_
        refine AllReadyH.cons rfl (fun K hK => ?_) AllReadyH.nil
        go_wp2_with fail
        go_at_call 133
        refine (compactRow_str b10 (m9 + ng) c10 wq.heap.size _ w11.drew HO11.out (by omega)).mono ?_
        rintro e w12 ⟨rfl, how12, hg12⟩
        have HB12 := Lib.hid (HB11.out.drew.grown hg12 HB11.out.size (fun k hk => by injection hk with hk; omega))
        go_wp2_with fail
        refine hK.out _ _ (HS10.out _ HB12.out) (fun hH2 => ?_)
        clear hK K hH
        have hH := hH2
        (try simp only [Act.put, List.setIfInBounds_toArray, List.set_cons_zero, List.set_cons_succ])
        refine wpAnyH_takeE (i := 7) (d := some 64) (v := ?v316) rfl (by rfl) (by kernel_rfl) (by kernel_rfl) (by kernel_rfl) (fun _ _ _ h => h) (Or.inl ⟨by rfl, ?y316⟩) hH ?r316
        case y316 => (intro w' hS; (try dsimp only at hS); go_simp; (try with_reducible rfl))
        (try simp only [Act.put, List.setIfInBounds_toArray, List.set_cons_zero, List.set_cons_succ])
        refine wpAnyH_takeE (i := 8) (d := some 65) (v := ?v317) rfl (by rfl) (by kernel_rfl) (by kernel_rfl) (by kernel_rfl) (fun _ _ _ h => h) (Or.inl ⟨by rfl, ?y317⟩) hH ?r317
        case y317 => (intro w' hS; (try dsimp only at hS); go_simp; (try with_reducible rfl))
        (try simp only [Act.put, List.setIfInBounds_toArray, List.set_cons_zero, List.set_cons_succ])
        refine wpAnyH_ready (rs := [9]) (by kernel_rfl) (by simp) ?_
        refine AllReadyH.cons rfl (fun K hK => ?_) AllReadyH.nil
        obtain ⟨_, _, _, ⟨_, v2, _⟩, _, v4⟩ := (HRq.out.below HB12.out).step_at hlt
        go_simp
        (try simp only [Oper.upon])
        refine hK.out _ _ ((cellFarQ (by omega)).trans (HS10.out _ HB12.out)) (fun _ => ?_)
        clear hK K hH
        (try simp only [Act.put, List.setIfInBounds_toArray, List.set_cons_zero, List.set_cons_succ])
        refine wpAnyH_done (by kernel_rfl) ?_ _
        clear v2 v4
        have HRz := Lib.hid (HRq.out.below HB12.out)
        obtain ⟨A12, c12, e12, hs12⟩ := own_sstr (ys := (Lib.compact (sortL (ofS (notName nm (nth es k).after ++ gone)))).map ofL) (by rw [← ofL_enc]; exact how12)
        injection e12 with e12 _ e13
        subst e12; subst e13
        have hss12 := hs12.mono (base' := base) (by omega)
        have HK := Lib.hid (HRz.out.setAfter (d := c10) hlt hss12)
        have HGZ : Hid (W5.grownBy (w12.setCell ⟨b, k * 3 + 1, none⟩ (.slice (some ⟨b10, 0, none⟩) (Lib.compact (sortL (ofS (notName nm (nth es k).after ++ gone)))).length c10)) (some b)) := Lib.hid
          ⟨HB12.out.os.trans (HA.out.os.trans HGW.out.os), HB12.out.tape.trans (HA.out.tape.trans HGW.out.tape), HB12.out.output.trans (HA.out.output.trans HGW.out.output), by (have h1 := HB12.out.size; have h2 := HA.out.size; simp [World.setCell]; omega),
            fun i hi hne => (Below.heap_setCell _ _ _ _ (by intro e; exact hne (by rw [e]))).trans ((HB12.out.block i (by have h2 := HA.out.size; omega)).trans ((HA.out.block i (by omega)).trans (HGW.out.block i hi hne)))⟩
        go_wp2_with fail
        go_roundw
        case rel => exact ⟨k + 1, by omega, by go_num, by rw [HT.out]; exact HK.out, HGZ.out⟩
        case measure => simp [intOf]; omega
    · obtain rfl : k = m := by omega
      have hke : es.length ≤ k := by rw [HES.out]; exact Nat.le_refl _
      have HFIN := Lib.hid (curL_all (nm := nm) (gone := gone) hke)
      go_wp2_with fail
      go_end0
      exact ⟨rfl, grown_blk HGW.out HP5.out hnpb2, by rw [← HWO2.out, ← HFIN.out]; exact HROW.out, HT5.out.trans (But.of_grown HGW.out)⟩
end Go.Proofs.YthdfefgianokgaaGreatDoor
