/- FnExactStepText: the argument opened, the walk. -/
import Derived.Test.YtnlibaoegfdoeaaT1
import Derived.Test.YtnlibaoegfdoeaaE4
import Derived.Test.YtnlibaoegfdoeaaF10
namespace Go.Proofs.Ytnlibaoegfdoeaa
open Go.RowKit

set_option maxRecDepth 100000 in
set_option maxHeartbeats 1000000 in
theorem fnExactStepText_any (A : Option Addr) (n c : Nat) (s : Step) (w : World) (hr : RStr w 0 A n s.after) (hz : s.name.size ≤ maxLen) (hn : n ≤ maxLen) (hs : ∀ j, j < n → (nth s.after j).size ≤ maxLen) :
    Calls Try.prog 7 #[.agg #[.string s.name, .slice A n c, .bool s.undo]] w fun e w' => e = .returned (.bool true) ∧ Below w.heap.size w w' := by
  have HR := Lib.hid hr; clear hr
  have HN := Lib.hid hn; clear hn
  have HS := Lib.hid hs; clear hs
  have HZ := Lib.hid hz; clear hz
  have HX0 := Lib.hid (heap_new (w := w) (o := .cells #[.string s.name, .slice A n c, .bool s.undo] 50) rfl)
  have HB0 := Lib.hid ((Below.refl w.heap.size w).alloc (Nat.le_refl _) (.cells #[.string s.name, .slice A n c, .bool s.undo] 50))
  have HR0 := Lib.hid (HR.out.alloc (.cells #[.string s.name, .slice A n c, .bool s.undo] 50))
  go_enter Try.func7, Try.ntmps7
  go_wp2_with fail
  refine (szStep_any _ _ _ s _ _ _ HR0.out HN.out HS.out HZ.out (by omega) (by omega)).mono ?_
  rintro e w1 ⟨r, rfl, hr0, hr1, hb1⟩
  have HX1 := Lib.hid ((hb1.block w.heap.size (by simp)).trans HX0.out)
  have HB1 := Lib.hid (HB0.out.trans (hb1.mono HB0.out.size))
  have HRW1 := Lib.hid (HR0.out.below hb1)
  clear hb1
  by_cases hneg : r < 0
  · clear hr1
    go_wp2_with fail
    go_ret
    exact ⟨rfl, HB1.out⟩
  obtain ⟨_, hok⟩ := hr1 (by omega)
  have HOK := Lib.hid hok; clear hok
  have hn1 : n ≤ 1048576 := by have := HOK.out.2.1; rw [HR.out.1] at this; exact this
  have b0 := (blk_cl (k := 0) HX1.out rfl).1
  have b1 := (blk_cl (k := 1) HX1.out rfl).1
  have b2 := (blk_cl (k := 2) HX1.out rfl).1
  go_wp2_with fail
  refine (toStepc_any _ _ _ s _ _ HRW1.out hn1).mono ?_
  rintro e w2 ⟨A2, c2, rfl, h2, hb2, _⟩
  have H2 := Lib.hid h2; clear h2
  have HX2 := Lib.hid ((hb2.block w.heap.size (heap_lt HX1.out)).trans HX1.out)
  have HB2 := Lib.hid (HB1.out.trans (hb2.mono HB1.out.size))
  have HRW2 := Lib.hid (HRW1.out.below hb2)
  clear hb2 b0 b1 b2
  go_wp2_with fail
  refine (stepTextS_any _ _ _ s _ _ H2.out HOK.out).mono ?_
  rintro e w3 ⟨rfl, hb3⟩
  have HX3 := Lib.hid ((hb3.block w.heap.size (heap_lt HX2.out)).trans HX2.out)
  have HB3 := Lib.hid (HB2.out.trans (hb3.mono HB2.out.size))
  have HRW3 := Lib.hid (HRW2.out.below hb3)
  clear hb3 H2
  have b0 := (blk_cl (k := 0) HX3.out rfl).1
  have b1 := (blk_cl (k := 1) HX3.out rfl).1
  have b2 := (blk_cl (k := 2) HX3.out rfl).1
  go_wp2_with fail
  refine (toStepc_any _ _ _ s _ _ HRW3.out hn1).mono ?_
  rintro e w4 ⟨A4, c4, rfl, h4, hb4, hc4⟩
  have H4 := Lib.hid (h4.alloc (.cells #[.string s.name, .slice A4 n c4, .bool s.undo] 47)); clear h4
  have HX4 := Lib.hid (heap_old (o := .cells #[.string s.name, .slice A4 n c4, .bool s.undo] 47) ((hb4.block w.heap.size (heap_lt HX3.out)).trans HX3.out))
  have HY4 := Lib.hid (heap_new (w := w4) (o := .cells #[.string s.name, .slice A4 n c4, .bool s.undo] 47) rfl)
  have HB4a := HB3.out.trans (hb4.mono HB3.out.size)
  have HB4 := Lib.hid (HB4a.alloc HB4a.size (.cells #[.string s.name, .slice A4 n c4, .bool s.undo] 47))
  have HRW4 := Lib.hid ((HRW3.out.below hb4).alloc (.cells #[.string s.name, .slice A4 n c4, .bool s.undo] 47))
  clear hb4 b0 b1 b2 HB4a
  go_wp2_with fail
  refine (stepTextI_any _ _ _ s _ _ H4.out HOK.out hc4).mono ?_
  rintro e w5 ⟨rfl, hb5⟩
  have HX5 := Lib.hid ((hb5.block w.heap.size (heap_lt HX4.out)).trans HX4.out)
  have HY5 := Lib.hid ((hb5.block w4.heap.size (heap_lt HY4.out)).trans HY4.out)
  have HB5 := Lib.hid (HB4.out.trans (hb5.mono HB4.out.size))
  have HRW5 := Lib.hid (HRW4.out.below hb5)
  have H5 := Lib.hid (H4.out.below hb5)
  clear hb5
  have HSB : Hid (∀ w', Below w5.heap.size w5 w' → ((w'.cell? ⟨w.heap.size, 0, none⟩ = some (.string s.name) ∧ w'.cell? ⟨w.heap.size, 1, none⟩ = some (.slice A n c) ∧ w'.cell? ⟨w.heap.size, 2, none⟩ = some (.bool s.undo)) ∧
      (w'.cell? ⟨w4.heap.size, 0, none⟩ = some (.string s.name) ∧ w'.cell? ⟨w4.heap.size, 1, none⟩ = some (.slice A4 n c4) ∧ w'.cell? ⟨w4.heap.size, 2, none⟩ = some (.bool s.undo))) ∧ Below w5.heap.size w5 w') := fun w' h => by
    have e1 := (h.block _ (heap_lt HX5.out)).trans HX5.out
    have e2 := (h.block _ (heap_lt HY5.out)).trans HY5.out
    exact ⟨⟨⟨(blk_cl (k := 0) e1 rfl).1, (blk_cl (k := 1) e1 rfl).1, (blk_cl (k := 2) e1 rfl).1⟩, (blk_cl (k := 0) e2 rfl).1, (blk_cl (k := 1) e2 rfl).1, (blk_cl (k := 2) e2 rfl).1⟩, h⟩
  generalize textS s = z at *
  have hq2 : (z.toList != z.toList) = false := by simp
  go_wp2_with fail
  go_region_held3 (fun w' => ((w'.cell? ⟨w.heap.size, 0, none⟩ = some (.string s.name) ∧ w'.cell? ⟨w.heap.size, 1, none⟩ = some (.slice A n c) ∧ w'.cell? ⟨w.heap.size, 2, none⟩ = some (.bool s.undo)) ∧
      (w'.cell? ⟨w4.heap.size, 0, none⟩ = some (.string s.name) ∧ w'.cell? ⟨w4.heap.size, 1, none⟩ = some (.slice A4 n c4) ∧ w'.cell? ⟨w4.heap.size, 2, none⟩ = some (.bool s.undo))) ∧ Below w5.heap.size w5 w')
    (first | exact HSB.out _ hbw | exact HSB.out _ (Below.refl _ _).drew | fail "keep")
    (first
      | (go_at_call 36; refine (toStepc_any _ _ _ s _ _ (HRW5.out.below (Below.refl _ _).drew) hn1).mono ?_; rintro e w6 ⟨A6, c6, rfl, h6, hb6, _⟩; have hbw : Below w5.heap.size w5 w6 := (Below.refl w5.heap.size w5).drew.trans hb6)
      | (go_at_call 37; refine (eqStep_same _ _ _ _ _ s _ _ _ (H5.out.below hbw) hn1 h6).mono ?_; rintro e w7 ⟨rfl, hb7⟩; replace hbw := hbw.trans (hb7.mono hbw.size))
      | fail "no arm")
  go_wp2_with fail
  go_ret
  exact ⟨rfl, HB5.out.trans (hbw.mono HB5.out.size)⟩
end Go.Proofs.Ytnlibaoegfdoeaa
