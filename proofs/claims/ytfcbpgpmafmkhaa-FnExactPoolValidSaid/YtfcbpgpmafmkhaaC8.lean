/- FnExactPoolValid: the walk. -/
import Derived.Test.YtfcbpgpmafmkhaaC2
import Derived.Test.YtfcbpgpmafmkhaaC6
import Derived.Test.YtfcbpgpmafmkhaaC7
import Derived.Test.YtfcbpgpmafmkhaaE5
namespace Go.Proofs.Ytfcbpgpmafmkhaa
open Go.RowKit

set_option maxRecDepth 100000 in
set_option maxHeartbeats 2000000 in
theorem fnExactPoolValid_any (A B : Option Addr) (n c m d : Nat) (f : Flow) (cs : List Case) (w : World) (hr : RStep w 0 A n f.steps) (hn : n ≤ maxLen) (hs : ∀ j, j < n → stepSz (nth f.steps j)) (hd : RCase w 0 B m cs) (hm : m ≤ maxLen) (hcs : ∀ j, j < m → caseSz (nth cs j)) :
    Calls Try.prog 11 #[.agg #[.int .i64 f.ver, .slice A n c], .slice B m d] w fun e w' => e = .returned (.bool true) ∧ Below w.heap.size w w' := by
  have HN := Lib.hid hn; clear hn
  have HS := Lib.hid hs; clear hs
  have HM := Lib.hid hm; clear hm
  have HCS := Lib.hid hcs; clear hcs
  have HX0 := Lib.hid (heap_new (w := w) (o := .cells #[.int .i64 f.ver, .slice A n c] 24) rfl)
  have HB0 := Lib.hid ((Below.refl w.heap.size w).alloc (Nat.le_refl _) (.cells #[.int .i64 f.ver, .slice A n c] 24))
  have HR0 := Lib.hid (hr.alloc (.cells #[.int .i64 f.ver, .slice A n c] 24)); clear hr
  have HD0 := Lib.hid (hd.alloc (.cells #[.int .i64 f.ver, .slice A n c] 24)); clear hd
  go_enter Try.func11, Try.ntmps11
  go_wp2_with fail
  refine (szFlow_any _ _ _ f _ _ _ HR0.out HN.out HS.out (by omega) (by omega)).mono ?_
  rintro e w1 ⟨r, rfl, hr0, hr1, hb1⟩
  have HX1 := Lib.hid ((hb1.block w.heap.size (by simp)).trans HX0.out)
  have HB1 := Lib.hid (HB0.out.trans (hb1.mono HB0.out.size))
  have HR1 := Lib.hid (HR0.out.below hb1)
  have HD1 := Lib.hid (HD0.out.below hb1)
  clear hb1
  by_cases hneg : r < 0
  · clear hr1
    go_wp2_with fail
    go_ret
    exact ⟨rfl, HB1.out⟩
  obtain ⟨hle, hok⟩ := hr1 (by omega)
  have HOK := Lib.hid hok; clear hok
  go_wp2_with fail
  refine (szCaseS_any _ _ _ cs _ _ _ HD1.out HM.out HCS.out (by omega) (by omega)).mono ?_
  rintro e w2 ⟨r2, rfl, hr20, hr21, hb2⟩
  have HX2 := Lib.hid ((hb2.block w.heap.size (heap_lt HX1.out)).trans HX1.out)
  have HB2 := Lib.hid (HB1.out.trans (hb2.mono HB1.out.size))
  have HR2 := Lib.hid (HR1.out.below hb2)
  have HD2 := Lib.hid (HD1.out.below hb2)
  clear hb2
  by_cases hneg2 : r2 < 0
  · clear hr21
    go_wp2_with fail
    go_ret
    exact ⟨rfl, HB2.out⟩
  obtain ⟨_, hokc⟩ := hr21 (by omega)
  have HOC := Lib.hid hokc; clear hokc
  have b0 := (blk_cl (k := 0) HX2.out rfl).1
  have b1 := (blk_cl (k := 1) HX2.out rfl).1
  go_wp2_with fail
  refine (toFlow_any _ _ _ f _ _ HR2.out HOK.out).mono ?_
  rintro e w3 ⟨A3, c3, rfl, h3, hb3⟩
  have HF3 := Lib.hid h3; clear h3
  have HX3 := Lib.hid ((hb3.block w.heap.size (heap_lt HX2.out)).trans HX2.out)
  have HB3 := Lib.hid (HB2.out.trans (hb3.mono HB2.out.size))
  have HR3 := Lib.hid (HR2.out.below hb3)
  have HD3 := Lib.hid (HD2.out.below hb3)
  clear hb3 b0 b1
  go_wp2_with fail
  refine (toCaseS_any _ _ _ cs _ _ HD3.out HOC.out).mono ?_
  rintro e w4 ⟨B4, d4, rfl, h4, hb4⟩
  have HC4 := Lib.hid h4; clear h4
  have HF4 := Lib.hid (HF3.out.below hb4)
  have HX4 := Lib.hid ((hb4.block w.heap.size (heap_lt HX3.out)).trans HX3.out)
  have HB4 := Lib.hid (HB3.out.trans (hb4.mono HB3.out.size))
  have HR4 := Lib.hid (HR3.out.below hb4)
  have HD4 := Lib.hid (HD3.out.below hb4)
  clear hb4
  go_wp2_with fail
  refine (poolS_any _ _ _ _ _ _ f cs _ _ _ HF4.out HOK.out HC4.out HOC.out).mono ?_
  rintro e w5 ⟨rfl, hb5⟩
  have HX5 := Lib.hid ((hb5.block w.heap.size (heap_lt HX4.out)).trans HX4.out)
  have HB5 := Lib.hid (HB4.out.trans (hb5.mono HB4.out.size))
  have HR5 := Lib.hid (HR4.out.below hb5)
  have HD5 := Lib.hid (HD4.out.below hb5)
  clear hb5
  have b0 := (blk_cl (k := 0) HX5.out rfl).1
  have b1 := (blk_cl (k := 1) HX5.out rfl).1
  go_wp2_with fail
  refine (toFlow_any _ _ _ f _ _ HR5.out HOK.out).mono ?_
  rintro e w6 ⟨A6, c6, rfl, h6, hb6⟩
  have HF6 := Lib.hid (h6.alloc (.cells #[.int .i64 f.ver, .slice A6 n c6] 29)); clear h6
  have HX6 := Lib.hid (heap_old (o := .cells #[.int .i64 f.ver, .slice A6 n c6] 29) ((hb6.block w.heap.size (heap_lt HX5.out)).trans HX5.out))
  have HY6 := Lib.hid (heap_new (w := w6) (o := .cells #[.int .i64 f.ver, .slice A6 n c6] 29) rfl)
  have HB6a := HB5.out.trans (hb6.mono HB5.out.size)
  have HB6 := Lib.hid (HB6a.alloc HB6a.size (.cells #[.int .i64 f.ver, .slice A6 n c6] 29))
  have HR6 := Lib.hid ((HR5.out.below hb6).alloc (.cells #[.int .i64 f.ver, .slice A6 n c6] 29))
  have HD6 := Lib.hid ((HD5.out.below hb6).alloc (.cells #[.int .i64 f.ver, .slice A6 n c6] 29))
  clear hb6 b0 b1 HB6a
  go_wp2_with fail
  refine (toCaseS_any _ _ _ cs _ _ HD6.out HOC.out).mono ?_
  rintro e w7 ⟨B7, d7, rfl, h7, hb7⟩
  have HC7 := Lib.hid h7; clear h7
  have HF7 := Lib.hid (HF6.out.below hb7)
  have HX7 := Lib.hid ((hb7.block w.heap.size (heap_lt HX6.out)).trans HX6.out)
  have HY7 := Lib.hid ((hb7.block w6.heap.size (heap_lt HY6.out)).trans HY6.out)
  have HB7 := Lib.hid (HB6.out.trans (hb7.mono HB6.out.size))
  have HR7 := Lib.hid (HR6.out.below hb7)
  have HD7 := Lib.hid (HD6.out.below hb7)
  clear hb7
  have b0 := (blk_cl (k := 0) HY7.out rfl).1
  have b1 := (blk_cl (k := 1) HY7.out rfl).1
  go_wp2_with fail
  refine (poolI_any _ _ _ _ _ _ f cs _ _ _ HF7.out HOK.out HC7.out HOC.out).mono ?_
  rintro e w8 ⟨rfl, hb8⟩
  have HC8 := Lib.hid (HC7.out.below hb8)
  have HF8 := Lib.hid (HF7.out.below hb8)
  have HX8 := Lib.hid ((hb8.block w.heap.size (heap_lt HX7.out)).trans HX7.out)
  have HY8 := Lib.hid ((hb8.block w6.heap.size (heap_lt HY7.out)).trans HY7.out)
  have HB8 := Lib.hid (HB7.out.trans (hb8.mono HB7.out.size))
  have HR8 := Lib.hid (HR7.out.below hb8)
  have HD8 := Lib.hid (HD7.out.below hb8)
  clear hb8 b0 b1
  have hq2 : (poolB f cs != poolB f cs) = false := by simp
  have HSB : Hid (∀ w', Below w8.heap.size w8 w' → ((w'.cell? ⟨w.heap.size, 0, none⟩ = some (.int .i64 f.ver) ∧ w'.cell? ⟨w.heap.size, 1, none⟩ = some (.slice A n c)) ∧
      (w'.cell? ⟨w6.heap.size, 0, none⟩ = some (.int .i64 f.ver) ∧ w'.cell? ⟨w6.heap.size, 1, none⟩ = some (.slice A6 n c6))) ∧ Below w8.heap.size w8 w') := fun w' h => by
    have e1 := (h.block _ (heap_lt HX8.out)).trans HX8.out
    have e2 := (h.block _ (heap_lt HY8.out)).trans HY8.out
    exact ⟨⟨⟨(blk_cl (k := 0) e1 rfl).1, (blk_cl (k := 1) e1 rfl).1⟩, (blk_cl (k := 0) e2 rfl).1, (blk_cl (k := 1) e2 rfl).1⟩, h⟩
  generalize poolB f cs = z at *
  go_wp2_with fail
  go_region_held3 (fun w' => ((w'.cell? ⟨w.heap.size, 0, none⟩ = some (.int .i64 f.ver) ∧ w'.cell? ⟨w.heap.size, 1, none⟩ = some (.slice A n c)) ∧
      (w'.cell? ⟨w6.heap.size, 0, none⟩ = some (.int .i64 f.ver) ∧ w'.cell? ⟨w6.heap.size, 1, none⟩ = some (.slice A6 n c6))) ∧ Below w8.heap.size w8 w')
    (first | exact HSB.out _ hbw | exact HSB.out _ (Below.refl _ _).drew | fail "keep")
    (first
      | (go_at_call 17; refine (toFlow_any _ _ _ f _ _ (HR8.out.below (Below.refl _ _).drew) HOK.out).mono ?_; rintro e w9 ⟨A9, c9, rfl, h9, hb9⟩; have hbw : Below w8.heap.size w8 w9 := (Below.refl w8.heap.size w8).drew.trans hb9)
      | (go_at_call 19; refine (eqFlow_same _ _ _ _ _ f _ _ _ (HF8.out.below hbw) HOK.out h9).mono ?_; rintro e w10 ⟨rfl, hb10⟩; replace hbw := hbw.trans (hb10.mono hbw.size))
      | fail "no arm")
  have HBW := Lib.hid hbw
  go_wp2_with fail
  refine (toCaseS_any _ _ _ cs _ _ (HD8.out.below HBW.out) HOC.out).mono ?_
  rintro e w11 ⟨B11, d11, rfl, h11, hb11⟩
  have HB11 := Lib.hid (HBW.out.trans (hb11.mono HBW.out.size))
  have H11 := Lib.hid h11; clear h11
  clear hb11
  go_wp2_with fail
  refine (eqCaseS_same _ _ _ _ _ cs _ _ _ (HC8.out.below HB11.out) HOC.out H11.out).mono ?_
  rintro e w12 ⟨rfl, hb12⟩
  have HB12 := Lib.hid (HB11.out.trans (hb12.mono HB11.out.size))
  clear hb12
  go_wp2_with fail
  go_ret
  exact ⟨rfl, HB8.out.trans (HB12.out.mono HB8.out.size)⟩
end Go.Proofs.Ytfcbpgpmafmkhaa
