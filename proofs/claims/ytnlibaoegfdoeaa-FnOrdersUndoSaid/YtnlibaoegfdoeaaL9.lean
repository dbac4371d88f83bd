/- FnOrdersUndo: the walk. -/
import Derived.Test.YtnlibaoegfdoeaaL10
import Derived.Test.YtnlibaoegfdoeaaS2
import Derived.Test.YtnlibaoegfdoeaaPure4
import Derived.Deep.DeepCutAuto
namespace Go.Proofs.Ytnlibaoegfdoeaa
open Go.RowKit

set_option maxRecDepth 100000 in
set_option maxHeartbeats 1000000 in
theorem fnOrdersUndo_any (A : Option Addr) (n c : Nat) (w : World) (hr : RByte w A n) (hc : n ≤ c) :
    Calls Try.prog 9 #[.slice A n c] w fun e w' => e = .returned (.bool true) ∧ Below w.heap.size w w' := by
  have HR := Lib.hid hr; clear hr
  by_cases hn : 1048576 < n
  · go_enter Try.func9, Try.ntmps9
    go_wp2_with fail
    go_ret
    exact ⟨rfl, Below.refl _ _⟩
  go_enter Try.func9, Try.ntmps9
  go_wp2_with fail
  refine (drawCountOrders_any _ _ _ _ HR.out hc (by omega)).mono ?_
  rintro e w1 ⟨v, A1, n1, c1, ss, rfl, hs, hok, h1, h6, hb1⟩
  have HS := Lib.hid (hs.alloc (.cells #[.int .i64 v, .slice A1 n1 c1] 57)); clear hs
  have HOK := Lib.hid hok; clear hok
  have HB1 := Lib.hid (hb1.alloc hb1.size (.cells #[.int .i64 v, .slice A1 n1 c1] 57)); clear hb1
  have HX := Lib.hid (heap_new (w := w1) (o := .cells #[.int .i64 v, .slice A1 n1 c1] 57) rfl)
  have HLn := Lib.hid (show ss.length = n1 from HS.out.1)
  go_wp2_with fail
  refine (countOrdersI_any _ _ _ ⟨v, ss⟩ _ _ HS.out HOK.out).mono ?_
  rintro e w2 ⟨rfl, hb2⟩
  have HX2 := Lib.hid ((hb2.block w1.heap.size (by simp)).trans HX.out)
  have HB2 := Lib.hid (HB1.out.trans (hb2.mono HB1.out.size))
  have HS2 := Lib.hid (HS.out.below hb2)
  clear hb2
  have b1 := (blk_cl (k := 0) HX2.out rfl).1
  have b2 := (blk_cl (k := 1) HX2.out rfl).1
  go_wp2_with fail
  refine (countOrdersS_any _ _ _ ⟨v, ss⟩ _ _ HS2.out HOK.out).mono ?_
  rintro e w3 ⟨rfl, hb3⟩
  have HB3 := Lib.hid (HB2.out.trans (hb3.mono HB2.out.size))
  have HX3 := Lib.hid ((hb3.block w1.heap.size (heap_lt HX2.out)).trans HX2.out)
  have HS3 := Lib.hid (HS2.out.below hb3)
  clear hb3 b1 b2
  have hq := beq_self_eq_true (cntF ⟨v, ss⟩)
  have hq2 : (cntF ⟨v, ss⟩ != cntF ⟨v, ss⟩) = false := by simp
  have b1 := (blk_cl (k := 0) HX3.out rfl).1
  have b2 := (blk_cl (k := 1) HX3.out rfl).1
  rcases shape ⟨v, ss⟩ with ⟨hf, hd, hw⟩ | ⟨hf, d, W, hd, hw, hsh⟩
  · have hw0 : cntF ⟨v, ss⟩ = -1 := by unfold cntF; rw [if_neg (by rw [hf]; simp)]
    have h0 : cntF ⟨v, ss⟩ < 0 := by rw [hw0]; omega
    clear hd hw hf hw0
    generalize cntF ⟨v, ss⟩ = z at *
    go_wp2_with fail
    go_ret
    exact ⟨rfl, HB3.out⟩
  have HF := Lib.hid hf; clear hf
  have HSH := Lib.hid hsh; clear hsh
  have HDE := Lib.hid hd; clear hd
  have HWE := Lib.hid hw; clear hw
  clear HSH HDE HWE
  have HC := Lib.hid (show cntF ⟨v, ss⟩ = (cnt ss n1 [] : Nat) by unfold cntF; rw [if_pos ⟨HF.out, by show ss.length ≤ 6; rw [HLn.out]; exact h6⟩]; show ((cnt ss ss.length [] : Nat) : Int) = _; rw [HLn.out])
  rw [HC.out] at hq hq2 ⊢
  obtain ⟨z, hz⟩ : ∃ z, z = cnt ss n1 [] := ⟨_, rfl⟩
  rw [← hz] at hq hq2 ⊢
  have HZ := Lib.hid hz; clear hz
  have HX8 := Lib.hid HX3.out
  have HSR8 := Lib.hid HS3.out
  have HLO8 := Lib.hid HB3.out.size
  have hneA : (Value.slice (some ⟨w3.heap.size, 0, none⟩) 0 0).ownBlock ≠ some (w3.heap.size + 1) := by simp [Value.ownBlock]
  have hneB : (Value.slice (some ⟨w3.heap.size + 1, 0, none⟩) 0 0).ownBlock ≠ some w3.heap.size := by simp [Value.ownBlock]
  have HSB8 : Hid (∀ w', Below w3.heap.size w3 w' → (w'.cell? ⟨w1.heap.size, 0, none⟩ = some (.int .i64 v) ∧ w'.cell? ⟨w1.heap.size, 1, none⟩ = some (.slice A1 n1 c1)) ∧ Below w3.heap.size w3 w') :=
    fun w' h => ⟨⟨(blk_cl (k := 0) ((h.block _ (heap_lt HX8.out)).trans HX8.out) rfl).1, (blk_cl (k := 1) ((h.block _ (heap_lt HX8.out)).trans HX8.out) rfl).1⟩, h⟩
  go_upto_region 8 with fail
  go_cut [6] (fun sx wx => ∃ (b bs c' : Nat), sx = .pointer (some ⟨b, 0, none⟩) ∧ wx.heap[b]? = some (.cells #[.int .i64 v, .slice (some ⟨bs, 0, none⟩) n1 c'] 57 (0, 0)) ∧ HRow wx w3.heap.size w.heap.size (.slice (some ⟨bs, 0, none⟩) n1 c') n1 ss ∧ w3.heap.size ≤ b ∧ w3.heap.size ≤ bs ∧ Below w3.heap.size w3 wx)
  case first =>
    go_region_held3 (fun w' => (w'.cell? ⟨w1.heap.size, 0, none⟩ = some (.int .i64 v) ∧ w'.cell? ⟨w1.heap.size, 1, none⟩ = some (.slice A1 n1 c1)) ∧ Below w3.heap.size w3 w')
      (first | exact HSB8.out _ (Below.refl _ _).drew | exact HSB8.out _ ((Below.refl _ _).alloc (Nat.le_refl _) _).drew | exact HSB8.out _ (((Below.refl w3.heap.size w3).alloc (Nat.le_refl _) _).alloc (sz_le _ _) _).drew | exact HSB8.out _ hbw | exact HSB8.out _ (hbw.alloc hbw.size _) | exact HSB8.out _ ((hbw.setCell (p := ⟨_, 0, none⟩) hle1 _).setCell (p := ⟨_, 1, none⟩) hle1 _) | fail "keep")
      (first
        | (refine steps_step (o := ⟨some 33, _, _, _, _, _⟩) w3.heap.size w.heap.size _ A1 n1 c1 ss (by first | exact step_new (b := w3.heap.size) (Nat.le_refl _) rfl | exact (step_new (b := w3.heap.size) (Nat.le_refl _) rfl).alloc _ | exact step_new (b := w3.heap.size + 1) (Nat.le_trans (Nat.le_succ _) (Nat.le_of_eq (sz_push _ _))) (sz_push _ _)) (by first | exact HSR8.out.low.below ((Below.refl _ _).alloc (Nat.le_refl _) _).drew (Nat.le_refl _) | exact HSR8.out.low.below (show Below w3.heap.size w3 _ by go_split_ands; assumption) (Nat.le_refl _)) (by rfl) (.tmp 30) (.tmp 32) (by rfl) (by rfl) (by rfl) (by omega) (by omega) HLO8.out (by first | exact (show Below w3.heap.size w3 _ by go_split_ands; assumption).size) ?_; intro b7 c7 w7 hst7 hle7 hg7 hbel7; have hbw : Below w3.heap.size w3 w7 := (show Below w3.heap.size w3 _ by go_split_ands; assumption).trans hbel7;
            (first
              | (have hb1 := grown_blk hg7 (heap_new (b := w3.heap.size + 1) (o := .cells #[.int .i64 0, .slice none 0 0] 57) (sz_push _ _)) hneA; have hle1 : w3.heap.size ≤ w3.heap.size + 1 := Nat.le_succ _; obtain ⟨x0, y0⟩ := blk_cl (k := 0) hb1 rfl; obtain ⟨x1, y1⟩ := blk_cl (k := 1) hb1 rfl)
              | (have hb1 := grown_blk hg7 (heap_old (heap_new (b := w3.heap.size) (o := .cells #[.int .i64 0, .slice none 0 0] 57) rfl)) hneB; have hle1 : w3.heap.size ≤ w3.heap.size := Nat.le_refl _; obtain ⟨x0, y0⟩ := blk_cl (k := 0) hb1 rfl; obtain ⟨x1, y1⟩ := blk_cl (k := 1) hb1 rfl)
              | skip))
        | fail "no arm")
    all_goals
      go_wp2_with fail
      go_meet
      first
        | with_reducible exact ⟨_, _, _, rfl, heap_new rfl, hst7.alloc hbw.size _, hbw.size, hle7, hbw.alloc hbw.size _⟩
        | exact ⟨_, _, _, rfl, set21 (set20 hb1), (hst7.set hb1 (by decide) hle1).set (set20 hb1) (by decide) hle1, hle1, hle7, (hbw.setCell (p := ⟨_, 0, none⟩) hle1 _).setCell (p := ⟨_, 1, none⟩) hle1 _⟩
  case rest =>
  obtain ⟨bx, bs, cx, rfl, hbx, hrx, hlx, hls, hbw⟩ := hcut
  have hlo3 := HLO8.out
  have HBW := Lib.hid hbw; clear hbw
  have hsw := HBW.out.size
  have HT := Lib.hid (hrx.hat hlo3 (by omega) hsw); clear hrx
  have HXB := Lib.hid hbx; clear hbx
  have HOK0 := Lib.hid (show okSteps ss from HOK.out)
  go_wp2_with fail
  go_loopw [7] (fun i wr => ∃ (k : Nat) (tt : List Step), k ≤ n1 ∧ i = .int .i64 k ∧ RStep wr w.heap.size (some ⟨bs, 0, none⟩) n1 tt ∧ okSteps tt ∧ (∀ j, j < n1 → ∃ u, nth tt j = { nth ss j with undo := u }) ∧ wr.heap[bx]? = some (.cells #[.int .i64 v, .slice (some ⟨bs, 0, none⟩) n1 cx] 57 (0, 0)) ∧ Below w3.heap.size w3 wr) (fun i _ => n1 - (intOf i).toNat)
  case atStart => exact ⟨0, ss, Nat.zero_le _, rfl, HT.out, HOK0.out, fun j _ => ⟨(nth ss j).undo, rfl⟩, HXB.out, HBW.out⟩
  case round =>
  obtain ⟨k, tt, hk, rfl, htt, hokt, hu, hxk, hbk⟩ := hrel
  have HTT := Lib.hid htt; clear htt
  have HOKT := Lib.hid hokt; clear hokt
  have HU := Lib.hid hu; clear hu
  have HXK := Lib.hid hxk; clear hxk
  have HBK := Lib.hid hbk; clear hbk
  have x1 := (blk_cl (k := 1) HXK.out rfl).1
  by_cases hlt : k < n1
  · obtain ⟨b', off', e', ⟨_, hb2⟩, hcs⟩ := RStep.at_ HTT.out hlt
    injection e' with e'; injection e' with e1 e2
    have HE := Lib.hid e1; clear e1
    subst e2
    obtain ⟨A', n', c', ⟨_, _, f1⟩, _, _, _, f2⟩ := hcs k hlt
    rw [← HE.out, Nat.zero_add] at f1 f2
    clear hcs
    have hne : bx ≠ bs := by
      intro e
      subst e
      have h0 := RStep.at_ HTT.out hlt
      obtain ⟨b9, o9, e9, _, hc9⟩ := h0
      injection e9 with e9; injection e9 with e91 e92
      subst e91; subst e92
      obtain ⟨_, _, _, ⟨g1, _, _⟩, _⟩ := hc9 0 (by omega)
      have g2 := (blk_cl (k := 0) HXK.out rfl).1
      have g3 := g2.symm.trans (by simpa using g1)
      exact absurd (Option.some.inj g3) (by intro e; cases e)
    go_wp2_with fail
    go_roundw
    case rel =>
      refine ⟨k + 1, tt.set k { nth tt k with undo := false }, by omega, by go_num, ?_, okSteps_undo HOKT.out, ?_, set_ne HXK.out hne, HBK.out.setCell hls _⟩
      · have := RStep.setUndo HTT.out hlt false
        rwa [Nat.zero_add] at this
      · intro j hj
        rw [nth_set (by rw [HTT.out.1]; exact hlt)]
        obtain ⟨u, hu⟩ := HU.out j hj
        by_cases e : j = k
        · rw [if_pos e, ← e, hu]; exact ⟨false, rfl⟩
        · rw [if_neg e]; exact ⟨u, hu⟩
    case measure => simp [intOf]; omega
  have HTF := Lib.hid (less_undo_flow (f := ⟨v, ss⟩) (tt := tt) HF.out (by rw [HTT.out.1]; exact HLn.out.symm) (fun j hj => HU.out j (by rw [← HLn.out]; exact hj)))
  have HCX := Lib.hid (show cntF ⟨v, tt⟩ = (z : Nat) by
    unfold cntF
    rw [if_pos ⟨HTF.out.1, by show tt.length ≤ 6; rw [HTT.out.1]; exact h6⟩]
    show ((cnt tt tt.length [] : Nat) : Int) = _
    rw [HTT.out.1, HTF.out.2, HZ.out])
  obtain ⟨w5, hw5⟩ : ∃ w5 : World, w5 = wr := ⟨_, rfl⟩
  subst hw5
  have hs5 := HBK.out.size
  have HX13 := Lib.hid ((HBK.out.block w1.heap.size (heap_lt HX3.out)).trans HX3.out)
  have HSR13 := Lib.hid (HS3.out.below HBK.out)
  have HLO13 := Lib.hid (show w.heap.size ≤ w5.heap.size by omega)
  have hneA : (Value.slice (some ⟨w5.heap.size, 0, none⟩) 0 0).ownBlock ≠ some (w5.heap.size + 1) := by simp [Value.ownBlock]
  have hneB : (Value.slice (some ⟨w5.heap.size + 1, 0, none⟩) 0 0).ownBlock ≠ some w5.heap.size := by simp [Value.ownBlock]
  have HSB13 : Hid (∀ w', Below w5.heap.size w5 w' → (w'.cell? ⟨w1.heap.size, 0, none⟩ = some (.int .i64 v) ∧ w'.cell? ⟨w1.heap.size, 1, none⟩ = some (.slice A1 n1 c1)) ∧ Below w5.heap.size w5 w') :=
    fun w' h => ⟨⟨(blk_cl (k := 0) ((h.block _ (heap_lt HX13.out)).trans HX13.out) rfl).1, (blk_cl (k := 1) ((h.block _ (heap_lt HX13.out)).trans HX13.out) rfl).1⟩, h⟩
  go_upto_region 13 with fail
  go_cut [8] (fun sx wx => ∃ (b bs c' : Nat), sx = .pointer (some ⟨b, 0, none⟩) ∧ wx.heap[b]? = some (.cells #[.int .i64 v, .slice (some ⟨bs, 0, none⟩) n1 c'] 57 (0, 0)) ∧ HRow wx w5.heap.size w.heap.size (.slice (some ⟨bs, 0, none⟩) n1 c') n1 ss ∧ w5.heap.size ≤ b ∧ w5.heap.size ≤ bs ∧ Below w5.heap.size w5 wx)
  case first =>
    go_region_held3 (fun w' => (w'.cell? ⟨w1.heap.size, 0, none⟩ = some (.int .i64 v) ∧ w'.cell? ⟨w1.heap.size, 1, none⟩ = some (.slice A1 n1 c1)) ∧ Below w5.heap.size w5 w')
      (first | exact HSB13.out _ (Below.refl _ _).drew | exact HSB13.out _ ((Below.refl _ _).alloc (Nat.le_refl _) _).drew | exact HSB13.out _ (((Below.refl w5.heap.size w5).alloc (Nat.le_refl _) _).alloc (sz_le _ _) _).drew | exact HSB13.out _ hbw | exact HSB13.out _ (hbw.alloc hbw.size _) | exact HSB13.out _ ((hbw.setCell (p := ⟨_, 0, none⟩) hle1 _).setCell (p := ⟨_, 1, none⟩) hle1 _) | fail "keep")
      (first
        | (refine steps_step (o := ⟨some 52, _, _, _, _, _⟩) w5.heap.size w.heap.size _ A1 n1 c1 ss (by first | exact step_new (b := w5.heap.size) (Nat.le_refl _) rfl | exact (step_new (b := w5.heap.size) (Nat.le_refl _) rfl).alloc _ | exact step_new (b := w5.heap.size + 1) (Nat.le_trans (Nat.le_succ _) (Nat.le_of_eq (sz_push _ _))) (sz_push _ _)) (by first | exact HSR13.out.low.below ((Below.refl _ _).alloc (Nat.le_refl _) _).drew (Nat.le_refl _) | exact HSR13.out.low.below (show Below w5.heap.size w5 _ by go_split_ands; assumption) (Nat.le_refl _)) (by rfl) (.tmp 49) (.tmp 51) (by rfl) (by rfl) (by rfl) (by omega) (by omega) HLO13.out (by first | exact (show Below w5.heap.size w5 _ by go_split_ands; assumption).size) ?_; intro b7 c7 w7 hst7 hle7 hg7 hbel7; have hbw : Below w5.heap.size w5 w7 := (show Below w5.heap.size w5 _ by go_split_ands; assumption).trans hbel7;
            (first
              | (have hb1 := grown_blk hg7 (heap_new (b := w5.heap.size + 1) (o := .cells #[.int .i64 0, .slice none 0 0] 57) (sz_push _ _)) hneA; have hle1 : w5.heap.size ≤ w5.heap.size + 1 := Nat.le_succ _; obtain ⟨x0, y0⟩ := blk_cl (k := 0) hb1 rfl; obtain ⟨x1, y1⟩ := blk_cl (k := 1) hb1 rfl)
              | (have hb1 := grown_blk hg7 (heap_old (heap_new (b := w5.heap.size) (o := .cells #[.int .i64 0, .slice none 0 0] 57) rfl)) hneB; have hle1 : w5.heap.size ≤ w5.heap.size := Nat.le_refl _; obtain ⟨x0, y0⟩ := blk_cl (k := 0) hb1 rfl; obtain ⟨x1, y1⟩ := blk_cl (k := 1) hb1 rfl)
              | skip))
        | fail "no arm")
    all_goals
      go_wp2_with fail
      go_meet
      first
        | with_reducible exact ⟨_, _, _, rfl, heap_new rfl, hst7.alloc hbw.size _, hbw.size, hle7, hbw.alloc hbw.size _⟩
        | exact ⟨_, _, _, rfl, set21 (set20 hb1), (hst7.set hb1 (by decide) hle1).set (set20 hb1) (by decide) hle1, hle1, hle7, (hbw.setCell (p := ⟨_, 0, none⟩) hle1 _).setCell (p := ⟨_, 1, none⟩) hle1 _⟩
  case rest =>
  obtain ⟨by_, bt, cy, rfl, hby, hry, hly, hlt2, hbw2⟩ := hcut
  have HBW2 := Lib.hid hbw2; clear hbw2
  have hsc := HBW2.out.size
  have HTY := Lib.hid (hry.hat HLO13.out (by omega) hsc); clear hry
  have HYB := Lib.hid hby; clear hby
  have hn1b : n1 - 1 < n1 := by omega
  obtain ⟨b', off', e', ⟨_, hbt⟩, hcs⟩ := RStep.at_ HTY.out hn1b
  injection e' with e'; injection e' with e1 e2
  have HE := Lib.hid e1; clear e1
  subst e2
  obtain ⟨A', n', c', ⟨_, f1, _⟩, _, _, f2, _⟩ := hcs (n1 - 1) hn1b
  rw [← HE.out, Nat.zero_add] at f1 f2
  rw [← HE.out] at hbt
  clear hcs
  have hneY : by_ ≠ bt := by
    intro e
    subst e
    obtain ⟨b9, o9, e9, _, hc9⟩ := RStep.at_ HTY.out hn1b
    injection e9 with e9; injection e9 with e91 e92
    subst e91; subst e92
    obtain ⟨_, _, _, ⟨g1, _, _⟩, _⟩ := hc9 0 (by omega)
    have g2 := (blk_cl (k := 0) HYB.out rfl).1
    have g3 := g2.symm.trans (by simpa using g1)
    exact absurd (Option.some.inj g3) (by intro e; cases e)
  have y1 := (blk_cl (k := 1) HYB.out rfl).1
  have hw1 : IntKind.i64.wrap ((n1 : Int) - 1) = ((n1 - 1 : Nat) : Int) := by rw [IntWalk.i64_in _ (by omega)]; omega
  have hw2 : (n1 : Int) - 1 = ((n1 - 1 : Nat) : Int) := by omega
  have hi1 : ((n1 - 1 : Nat) : Int) < (n1 : Int) := by omega
  have hi0 : (0 : Int) ≤ ((n1 - 1 : Nat) : Int) := by omega
  have hi2 : ((n1 - 1 : Nat) : Int).toNat = n1 - 1 := by omega
  have HXW := Lib.hid (HBW2.out.block bx (heap_lt HXK.out) |>.trans HXK.out)
  have HTW := Lib.hid (HTT.out.below HBW2.out)
  have HSA := Lib.hid (RStep.setAfter (j := n1 - 1) (d := 0) (B := some ⟨wc.heap.size, 0, none⟩) (HTY.out.alloc (.cells #[] 9)) hn1b RL.nil)
  rw [Nat.zero_add, World.setCell_alloc_past _ _ _ _ hbt] at HSA
  have HBS := Lib.hid ((Below.refl w5.heap.size w5).trans (HBW2.out))
  have HLL := Lib.hid (less_last (f := ⟨v, ss⟩) (tt := ss.set (n1 - 1) { nth ss (n1 - 1) with after := [] }) (j0 := n1 - 1) HF.out (by rw [HLn.out]; exact hn1b) rfl)
  have HCY := Lib.hid (show cntF ⟨v, ss.set (n1 - 1) { nth ss (n1 - 1) with after := [] }⟩ = (cnt (ss.set (n1 - 1) { nth ss (n1 - 1) with after := [] }) n1 [] : Nat) by
    unfold cntF
    rw [if_pos ⟨HLL.out.1, by show (ss.set (n1 - 1) { nth ss (n1 - 1) with after := [] }).length ≤ 6; rw [List.length_set, HLn.out]; exact h6⟩]
    show ((cnt _ (ss.set (n1 - 1) { nth ss (n1 - 1) with after := [] }).length [] : Nat) : Int) = _
    rw [List.length_set, HLn.out])
  have HZY := Lib.hid (show z ≤ cnt (ss.set (n1 - 1) { nth ss (n1 - 1) with after := [] }) n1 [] by rw [HZ.out]; exact HLL.out.2 n1 [])
  have HOKY := Lib.hid (okSteps_set (j := n1 - 1) (ys := []) HOK0.out okS_nil)
  have hbx5 := heap_lt HXK.out
  have HB14 := Lib.hid ((HBW2.out.setCell (p := ⟨bt, (n1 - 1) * 3 + 1, none⟩) hlt2 (.slice (some ⟨wc.heap.size, 0, none⟩) 0 0)).alloc (by simp; exact hsc) (.cells #[] 9))
  have HX14 := Lib.hid ((HB14.out.block bx hbx5).trans HXK.out)
  have HY14 := Lib.hid (heap_old (o := .cells #[] 9) (set_ne (b := bt) (o := (n1 - 1) * 3 + 1) (u := .slice (some ⟨wc.heap.size, 0, none⟩) 0 0) HYB.out hneY))
  have HT14 := Lib.hid ((HTT.out.low.below HB14.out (Nat.le_refl _)).up HB14.out.size)
  have p0 := (blk_cl (k := 0) HX14.out rfl).1
  have p1 := (blk_cl (k := 1) HX14.out rfl).1
  go_wp2_with fail
  refine (countOrdersI_any _ _ _ ⟨v, tt⟩ _ _ HT14.out HOKT.out).mono ?_
  rintro e w15 ⟨rfl, hb15⟩
  rw [HCX.out]
  have HY15 := Lib.hid ((hb15.block by_ (heap_lt HY14.out)).trans HY14.out)
  have HS15 := Lib.hid (HSA.out.below hb15)
  have HB15 := Lib.hid ((HB14.out.trans (hb15.mono HB14.out.size)))
  clear p0 p1 hb15
  have p0 := (blk_cl (k := 0) HY15.out rfl).1
  have p1 := (blk_cl (k := 1) HY15.out rfl).1
  go_wp2_with fail
  refine (countOrdersI_any _ _ _ ⟨v, ss.set (n1 - 1) { nth ss (n1 - 1) with after := [] }⟩ _ _ HS15.out HOKY.out).mono ?_
  rintro e w16 ⟨rfl, hb16⟩
  rw [HCY.out]
  have hzy := HZY.out
  have HB16 := Lib.hid (HB3.out.trans ((HBK.out.trans ((HB15.out.trans (hb16.mono HB15.out.size)).mono hs5)).mono HB3.out.size))
  clear hb16
  generalize cnt (ss.set (n1 - 1) { nth ss (n1 - 1) with after := [] }) n1 [] = zy at *
  go_wp2_with fail
  go_ret
  first | exact ⟨rfl, HB16.out⟩ | exact ⟨ret_b (decide_eq_true (by omega)), HB16.out⟩
end Go.Proofs.Ytnlibaoegfdoeaa
