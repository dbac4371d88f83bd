/- FnExactPoolStart returns true at every input, and leaves its arguments as they were. No condition. -/
import Derived.Deep.RegionHeld3
import Derived.Carry
import Derived.Test.YtakeijgoonagcaaZI
import Derived.Test.YtakeijgoonagcaaZK
import Derived.Test.YtakeijgoonagcaaZD

/- FnExactPoolStart: the walk. -/
namespace Go.Proofs.Ytakeijgoonagcaa
open Go.RowKit

theorem psL_small {f : Flow} {cs : List Case} {nm : Str} : (psL f cs nm).length ≤ 8 ∧ (∀ j, j < (psL f cs nm).length → (nth (psL f cs nm) j).done.length ≤ 1000) := by
  cases h : psB f cs nm
  · rw [psL_no h]
    exact ⟨Nat.zero_le _, fun j hj => absurd hj (by simp)⟩
  · have hp := ps_pool h
    exact ⟨pool_len hp, fun j hj => Nat.le_trans (run_sizes (pool_run hp hj)).1 (by omega)⟩

set_option maxRecDepth 100000 in
set_option maxHeartbeats 8000000 in
theorem fnExactPoolStart_any (A B : Option Addr) (n c m d : Nat) (f : Flow) (cs : List Case) (nm : Str) (w : World) (hr : RStep w 0 A n f.steps) (hn : n ≤ maxLen) (hs : ∀ j, j < n → stepSz (nth f.steps j)) (hd : RCase w 0 B m cs) (hm : m ≤ maxLen) (hcs : ∀ j, j < m → caseSz (nth cs j)) :
    Calls Try.prog 9 #[.agg #[.int .i64 f.ver, .slice A n c], .slice B m d, .string nm] w fun e w' => e = .returned (.bool true) ∧ Below w.heap.size w w' := by
  have HN := Lib.hid hn; clear hn
  have HS := Lib.hid hs; clear hs
  have HM := Lib.hid hm; clear hm
  have HCS := Lib.hid hcs; clear hcs
  have HX0 := Lib.hid (heap_new (w := w) (o := .cells #[.int .i64 f.ver, .slice A n c] 24) rfl)
  have HB0 := Lib.hid ((Below.refl w.heap.size w).alloc (Nat.le_refl _) (.cells #[.int .i64 f.ver, .slice A n c] 24))
  have HR0 := Lib.hid (hr.alloc (.cells #[.int .i64 f.ver, .slice A n c] 24)); clear hr
  have HD0 := Lib.hid (hd.alloc (.cells #[.int .i64 f.ver, .slice A n c] 24)); clear hd
  have HK : Hid (∀ w', Below (w.alloc (.cells #[.int .i64 f.ver, .slice A n c] 24)).heap.size (w.alloc (.cells #[.int .i64 f.ver, .slice A n c] 24)) w' → (w'.cell? ⟨w.heap.size, 0, none⟩ = some (.int .i64 f.ver) ∧ w'.cell? ⟨w.heap.size, 1, none⟩ = some (.slice A n c)) ∧ RStep w' 0 A n f.steps ∧ RCase w' 0 B m cs ∧ Below w.heap.size w w') := fun w' h => by
    have e1 := (h.block w.heap.size (by simp)).trans HX0.out
    exact ⟨⟨(blk_cl (k := 0) e1 rfl).1, (blk_cl (k := 1) e1 rfl).1⟩, HR0.out.below h, HD0.out.below h, HB0.out.trans (h.mono HB0.out.size)⟩
  by_cases hlong : 1048576 < nm.size
  · have hlong2 : (1048576 : Int) < (nm.size : Int) := by omega
    go_enter Try.func9, Try.ntmps9
    go_wp2_with fail
    go_ret
    exact ⟨rfl, (HK.out _ (Below.refl _ _)).2.2.2⟩
  have hlong2 : ¬ ((1048576 : Int) < (nm.size : Int)) := by omega
  have HNM := Lib.hid (show nm.size ≤ maxLen by unfold maxLen; omega)
  go_enter Try.func9, Try.ntmps9
  go_wp2_with fail
  refine (szFlow_any _ _ _ f _ _ _ HR0.out HN.out HS.out (by omega) (by omega)).mono ?_
  rintro e w1 ⟨r, rfl, hr0, hr1, hb1⟩
  have HB1 := Lib.hid hb1; clear hb1
  by_cases hneg : r < 0
  · clear hr1
    go_wp2_with fail
    go_ret
    exact ⟨rfl, (HK.out _ HB1.out).2.2.2⟩
  obtain ⟨hle, hok⟩ := hr1 (by omega)
  have HOK := Lib.hid hok; clear hok
  go_wp2_with fail
  refine (szCaseS_any _ _ _ cs _ _ _ (HK.out _ HB1.out).2.2.1 HM.out HCS.out (by omega) (by omega)).mono ?_
  rintro e w2 ⟨r2, rfl, hr20, hr21, hb2⟩
  have HB2 := Lib.hid (HB1.out.trans (hb2.mono HB1.out.size)); clear hb2
  by_cases hneg2 : r2 < 0
  · clear hr21
    go_wp2_with fail
    go_ret
    exact ⟨rfl, (HK.out _ HB2.out).2.2.2⟩
  obtain ⟨_, hokc⟩ := hr21 (by omega)
  have HOC := Lib.hid hokc; clear hokc
  have HSM := Lib.hid (psL_small (f := f) (cs := cs) (nm := nm))
  have HOP := Lib.hid (okCases_ps (f := f) (nm := nm) HOC.out HNM.out)
  obtain ⟨⟨b0, b1⟩, _⟩ := HK.out _ HB2.out
  go_wp2_with fail
  refine (toFlow_any _ _ _ f _ _ (HK.out _ HB2.out).2.1 HOK.out).mono ?_
  rintro e w3 ⟨A3, c3, rfl, h3, hb3⟩
  have HF3 := Lib.hid h3; clear h3
  have HB3 := Lib.hid (HB2.out.trans (hb3.mono HB2.out.size)); clear hb3 b0 b1
  go_wp2_with fail
  refine (toCaseS_any _ _ _ cs _ _ (HK.out _ HB3.out).2.2.1 HOC.out).mono ?_
  rintro e w4 ⟨B4, d4, rfl, h4, hb4⟩
  have HC4 := Lib.hid h4; clear h4
  have HF4 := Lib.hid (HF3.out.below hb4)
  have HB4 := Lib.hid (HB3.out.trans (hb4.mono HB3.out.size)); clear hb4
  go_wp2_with fail
  refine (psS_any _ _ _ _ _ _ f cs nm _ _ _ HF4.out HOK.out HC4.out HOC.out HNM.out).mono ?_
  rintro e w5 ⟨A5, n5, d5, rfl, h5, _, hb5⟩
  have hn58 : n5 ≤ 8 := by rw [← h5.1]; exact HSM.out.1
  have HPW := Lib.hid h5.low; clear h5
  have HB5 := Lib.hid (HB4.out.trans (hb5.mono HB4.out.size)); clear hb5
  obtain ⟨⟨b0, b1⟩, _⟩ := HK.out _ HB5.out
  go_wp2_with fail
  refine (toFlow_any _ _ _ f _ _ (HK.out _ HB5.out).2.1 HOK.out).mono ?_
  rintro e w6 ⟨A6, c6, rfl, h6, hb6⟩
  have hs6 := hb6.size
  have hs6a : (w6.alloc (.cells #[.int .i64 f.ver, .slice A6 n c6] 34)).heap.size = w6.heap.size + 1 := by simp
  have HY6 := Lib.hid (heap_new (w := w6) (o := .cells #[.int .i64 f.ver, .slice A6 n c6] 34) rfl)
  have HA6 := Lib.hid ((Below.refl w6.heap.size w6).alloc (Nat.le_refl _) (.cells #[.int .i64 f.ver, .slice A6 n c6] 34))
  have H56 := Lib.hid (HPW.out.below (hb6.alloc hb6.size (.cells #[.int .i64 f.ver, .slice A6 n c6] 34)) (Nat.le_refl _))
  have H6 := Lib.hid (h6.low.below HA6.out (Nat.le_refl _))
  have HF6 := Lib.hid (h6.alloc (.cells #[.int .i64 f.ver, .slice A6 n c6] 34)); clear h6
  have HB6a := HB5.out.trans (hb6.mono HB5.out.size)
  have HB6 := Lib.hid (HB6a.alloc HB6a.size (.cells #[.int .i64 f.ver, .slice A6 n c6] 34))
  clear hb6 b0 b1 HB6a
  go_wp2_with fail
  refine (toCaseS_any _ _ _ cs _ _ (HK.out _ HB6.out).2.2.1 HOC.out).mono ?_
  rintro e w7 ⟨B7, d7, rfl, h7, hb7⟩
  have hs7 := hb7.size
  have HY7 := Lib.hid ((hb7.block w6.heap.size (heap_lt HY6.out)).trans HY6.out)
  have H57 := Lib.hid (H56.out.below hb7 (by omega))
  have H67 := Lib.hid (H6.out.below hb7 (by omega))
  have H7 := Lib.hid h7.low
  have HC7 := Lib.hid h7; clear h7
  have HF7 := Lib.hid (HF6.out.below hb7)
  have HB7 := Lib.hid (HB6.out.trans (hb7.mono HB6.out.size))
  clear hb7
  have b0 := (blk_cl (k := 0) HY7.out rfl).1
  have b1 := (blk_cl (k := 1) HY7.out rfl).1
  go_wp2_with fail
  refine (psI_any _ _ _ _ _ _ f cs nm _ _ _ HF7.out HOK.out HC7.out HOC.out HNM.out).mono ?_
  rintro e w8 ⟨A8, n8, c8, rfl, h8, hnc8, hbw⟩
  obtain rfl : n8 = n5 := by rw [← h8.1, ← HPW.out.1]
  have hs8 := hbw.size
  have HY8 := Lib.hid ((hbw.block w6.heap.size (heap_lt HY7.out)).trans HY7.out)
  have H58 := Lib.hid (H57.out.below hbw (by omega))
  have H68 := Lib.hid (H67.out.below hbw (by omega))
  have H78 := Lib.hid (H7.out.below hbw (by omega))
  have HC8 := Lib.hid (HC7.out.below hbw)
  have HF8 := Lib.hid (HF7.out.below hbw)
  have H8 := Lib.hid h8; clear h8
  have HB8 := Lib.hid (HB7.out.trans (hbw.mono HB7.out.size))
  clear hbw b0 b1
  have hpe : (psB f cs nm != psB f cs nm) = false := by simp
  go_wp2_with fail
  refine (eqCaseS_same _ _ _ _ _ (psL f cs nm) _ _ _ H8.out.hat HOP.out (H58.out.up (by omega))).mono ?_
  rintro e w9 ⟨rfl, hb9⟩
  have hs9 := hb9.size
  have HB9 := Lib.hid (HB8.out.trans (hb9.mono HB8.out.size))
  have HF9 := Lib.hid (HF8.out.below hb9)
  have HY9 := Lib.hid ((hb9.block w6.heap.size (heap_lt HY8.out)).trans HY8.out)
  have HBB9 := Lib.hid hb9; clear hb9
  have HSB : Hid (∀ w', Below w9.heap.size w9 w' → ((w'.cell? ⟨w.heap.size, 0, none⟩ = some (.int .i64 f.ver) ∧ w'.cell? ⟨w.heap.size, 1, none⟩ = some (.slice A n c)) ∧
      (w'.cell? ⟨w6.heap.size, 0, none⟩ = some (.int .i64 f.ver) ∧ w'.cell? ⟨w6.heap.size, 1, none⟩ = some (.slice A6 n c6))) ∧ Below w9.heap.size w9 w') := fun w' h => by
    have e2 := (h.block _ (heap_lt HY9.out)).trans HY9.out
    exact ⟨⟨(HK.out _ (HB9.out.trans (h.mono HB9.out.size))).1, (blk_cl (k := 0) e2 rfl).1, (blk_cl (k := 1) e2 rfl).1⟩, h⟩
  go_wp2_with fail
  go_region_held3 (fun w' => ((w'.cell? ⟨w.heap.size, 0, none⟩ = some (.int .i64 f.ver) ∧ w'.cell? ⟨w.heap.size, 1, none⟩ = some (.slice A n c)) ∧
      (w'.cell? ⟨w6.heap.size, 0, none⟩ = some (.int .i64 f.ver) ∧ w'.cell? ⟨w6.heap.size, 1, none⟩ = some (.slice A6 n c6))) ∧ Below w9.heap.size w9 w')
    (first | exact HSB.out _ hbw | exact HSB.out _ (Below.refl _ _).drew | fail "keep")
    (first
      | (go_at_call 17; refine (toFlow_any _ _ _ f _ _ ((HK.out _ HB9.out).2.1.below (Below.refl _ _).drew) HOK.out).mono ?_; rintro e w10 ⟨A10, c10, rfl, h10, hb10⟩; have hbw : Below w9.heap.size w9 w10 := (Below.refl w9.heap.size w9).drew.trans hb10)
      | (go_at_call 22; refine (eqFlow_same _ _ _ _ _ f _ _ _ (HF9.out.below hbw) HOK.out h10).mono ?_; rintro e w10 ⟨rfl, hb10⟩; replace hbw := hbw.trans (hb10.mono hbw.size))
      | fail "no arm")
  have HBW := Lib.hid hbw
  go_wp2_with fail
  refine (toCaseS_any _ _ _ cs _ _ (HK.out _ (HB9.out.trans (HBW.out.mono HB9.out.size))).2.2.1 HOC.out).mono ?_
  rintro e w11 ⟨B11, d11, rfl, h11, hb11⟩
  have HB11 := Lib.hid (HBB9.out.trans ((HBW.out.trans (hb11.mono HBW.out.size)).mono HBB9.out.size))
  have H11 := Lib.hid h11; clear h11
  clear hb11
  go_wp2_with fail
  refine (eqCaseS_same _ _ _ _ _ cs _ _ _ (HC8.out.below HB11.out) HOC.out H11.out).mono ?_
  rintro e w12 ⟨rfl, hb12⟩
  have H812 := Lib.hid (HB11.out.trans (hb12.mono HB11.out.size))
  clear hb12
  have hs12 := H812.out.size
  have HB12 := Lib.hid (HB8.out.trans (H812.out.mono HB8.out.size))
  have HY12 := Lib.hid ((H812.out.block w6.heap.size (heap_lt HY8.out)).trans HY8.out)
  have b0 := (blk_cl (k := 0) HY12.out rfl).1
  have b1 := (blk_cl (k := 1) HY12.out rfl).1
  clear hbw
  go_wp2_with fail
  refine (markFlow_any _ _ _ 1 f _ _ _ (H68.out.below H812.out (by omega)) HOK.out (by omega) (by omega) (by omega)).mono ?_
  rintro e w13 ⟨⟨k13, rfl, hk1, hk2⟩, ho13⟩
  have HO13 := Lib.hid ho13; clear ho13
  have hs13 := HO13.out.size
  have hn13 : n ≤ 1048576 := by have := HOK.out.1; rw [(HK.out _ HB12.out).2.1.1] at this; exact this
  have hk3 : k13 ≤ 1649269538816 := by
    have := Nat.mul_le_mul_right 1048578 hn13
    omega
  clear b0 b1 hk2
  go_wp2_with fail
  refine (markCaseS_any _ _ _ k13 cs _ _ _ ((H78.out.below H812.out (by omega)).out HO13.out (by omega) (.inr (by omega))) HOC.out hk1 (by omega) (by omega)).mono ?_
  rintro e w14 ⟨⟨k14, rfl, hk4⟩, ho14⟩
  have HO14 := Lib.hid ho14; clear ho14
  have hs14 := HO14.out.size
  have hk5 : 1 ≤ k14 := by omega
  have H514 := Lib.hid (((H58.out.below H812.out (by omega)).out HO13.out (by omega) (.inl (by omega))).out HO14.out (by omega) (.inl (by omega)))
  have H814 := Lib.hid (((H8.out.below H812.out).out HO13.out (by omega)).out HO14.out (by omega))
  clear hk4 hk3 hk1
  have hz0 := HB0.out.size
  have hzz : (w.alloc (.cells #[.int .i64 f.ver, .slice A n c] 24)).heap.size = w.heap.size + 1 := by simp
  have hz5 := HB5.out.size
  have HB14 := Lib.hid ((HB12.out.trans ((HO13.out.below (by omega)).mono hz5)).trans ((HO14.out.below (by omega)).mono (by omega)))
  go_wp2_with fail
  refine (eqCaseS_same _ _ _ _ _ (psL f cs nm) _ _ _ H814.out.hat HOP.out (H514.out.up (by omega))).mono ?_
  rintro e w15 ⟨rfl, hb15⟩
  have HBB15 := Lib.hid hb15; clear hb15
  have hs15 := HBB15.out.size
  have H515 := Lib.hid (H514.out.below HBB15.out (by omega))
  have HB15 := Lib.hid (HB14.out.trans (HBB15.out.mono (by omega)))
  have HLEN := Lib.hid (fun j (hj : j < n8) => (Nat.le_trans (HSM.out.2 j (by rw [H8.out.1]; exact hj)) (by omega) : (nth (psL f cs nm) j).done.length ≤ 1000))
  go_wp2_with fail
  refine (markDR_any _ _ _ 1 _ (psL f cs nm) _ (H814.out.below HBB15.out) (by omega) HLEN.out (by omega) (by omega)).mono ?_
  rintro e w16 ⟨rfl, h16, ho16⟩
  have H16 := Lib.hid h16; clear h16
  have HO16 := Lib.hid ho16; clear ho16
  have hs16 := HO16.out.size
  have H516 := Lib.hid (H515.out.out HO16.out (by omega) (.inl (by omega)))
  have HB16 := Lib.hid (HB15.out.trans ((HO16.out.below (by omega)).mono (by omega)))
  obtain ⟨k7, hk7⟩ : ∃ k7 : Nat, k7 = mkC (nth (psL f cs nm)) 1 n8 := ⟨_, rfl⟩
  rw [← hk7]
  have HK7 := Lib.hid hk7
  have hq : ((k7 : Int) != (k7 : Int)) = false := by simp
  have hq0 : ¬ ((k7 : Int) < 0) := by omega
  clear hk7
  go_wp2_with fail
  refine (heldDR_any _ _ _ 1 _ (psL f cs nm) _ H16.out (by omega) HLEN.out (by omega) (by omega)).mono ?_
  rintro e w17 ⟨rfl, hb17⟩
  rw [← HK7.out]
  have HB17 := Lib.hid (HB16.out.trans (hb17.mono HB16.out.size))
  have HBB17 := Lib.hid hb17; clear hb17
  have hs17 := HBB17.out.size
  obtain ⟨⟨b0, b1⟩, _⟩ := HK.out _ HB17.out
  go_wp2_with fail
  refine (toFlow_any _ _ _ f _ _ (HK.out _ HB17.out).2.1 HOK.out).mono ?_
  rintro e w18 ⟨A18, c18, rfl, h18, hb18⟩
  have H18 := Lib.hid h18; clear h18
  have HB18 := Lib.hid (HB17.out.trans (hb18.mono HB17.out.size))
  have HBB18 := Lib.hid (HBB17.out.trans (hb18.mono HBB17.out.size)); clear hb18 b0 b1
  go_wp2_with fail
  refine (toCaseS_any _ _ _ cs _ _ (HK.out _ HB18.out).2.2.1 HOC.out).mono ?_
  rintro e w19 ⟨B19, d19, rfl, h19, hb19⟩
  have H19 := Lib.hid h19; clear h19
  have H189 := Lib.hid (H18.out.below hb19)
  have HB19 := Lib.hid (HB18.out.trans (hb19.mono HB18.out.size))
  have HBB19 := Lib.hid (HBB18.out.trans (hb19.mono HBB18.out.size)); clear hb19
  go_wp2_with fail
  refine (psI_any _ _ _ _ _ _ f cs nm _ _ _ H189.out HOK.out H19.out HOC.out HNM.out).mono ?_
  rintro e w20 ⟨Aq, nq, dq, rfl, hq20, _, hbw⟩
  obtain rfl : nq = n8 := by rw [← hq20.1, ← HPW.out.1]
  have HB20 := Lib.hid (HB19.out.trans (hbw.mono HB19.out.size))
  have HBB20 := Lib.hid (HBB19.out.trans (hbw.mono HBB19.out.size)); clear hbw
  have hs20 := HBB20.out.size
  have H20 := Lib.hid hq20.hat; clear hq20
  go_wp2_with fail
  refine (eqCaseS_same _ _ _ _ _ (psL f cs nm) _ _ _ H20.out HOP.out ((H516.out.below HBB20.out (by omega)).up (by omega))).mono ?_
  rintro e w21 ⟨rfl, hb21⟩
  have HB21 := Lib.hid (HB20.out.trans (hb21.mono HB20.out.size))
  have HBB21 := Lib.hid (HBB20.out.trans (hb21.mono HBB20.out.size)); clear hb21
  have hs21 := HBB21.out.size
  go_wp2_with fail
  refine (heldDR_any _ _ _ 1 _ (psL f cs nm) _ (H16.out.below HBB21.out) (by omega) HLEN.out (by omega) (by omega)).mono ?_
  rintro e w22 ⟨rfl, hb22⟩
  rw [← HK7.out]
  have HB22 := Lib.hid (HB21.out.trans (hb22.mono HB21.out.size)); clear hb22
  go_wp2_with fail
  go_ret
  exact ⟨rfl, (HK.out _ HB22.out).2.2.2⟩
end Go.Proofs.Ytakeijgoonagcaa

/- FnExactPoolStart returns true at every input, and leaves its arguments as they were. No condition. -/
namespace Go.Proofs.Ytakeijgoonagcaa
open Go.ChangeShapes Go.WideShapes Go.ChangeAt Go.RowKit

set_option maxRecDepth 100000 in
theorem fnExactPoolStart_lifted (os : Os) (started : os.Started) (H : Type) (enc : TypeId × Value → H) :
    ReturnsInHanded {} Try.checked os 9 .any (Rows.fnExactPoolStartSpec.pre6 enc Try.prog Try.f9 Rows.fnExactPoolStartRow.domain false) (Rows.fnExactPoolStartSpec.post enc Try.prog Try.f9 false true false false) := by
  refine returnsInHanded_of_change (C := Try.checked) Try.own started (by kernel_rfl) Try.func9
    (ChangeSpec.witness6 (enc := enc) (C := Try.checked) false ⟨#[], #[.agg #[.int .i64 0, .slice none 0 0], .slice none 0 0, .string ⟨#[]⟩], []⟩ 8 (by kernel_rfl) (by kernel_rfl) (by kernel_rfl) (by kernel_rfl)) ?_
  intro W base args ds gs before hval0 hW hcnd _
  have hval : ∀ (j : Nat) t v, Try.f9.params[j]? = some t → args[j]? = some v → Value.okWide Try.prog W .any base t v := hval0
  have hW' := hW
  obtain ⟨p, q, hA0, hV, rfl, hfz, hnd⟩ := hW
  have hA : DataW.TrodAll enc Try.prog W 0 (fun _ => true) true Try.f9.params.toList args.toList ds p := hA0
  rw [Try.params9] at hA hval
  obtain ⟨v0, v1, v2, d0, d1, d2, p0, p1, p2, rfl, rfl, rfl, h0, h1, h2⟩ := trodAll_three hA
  obtain ⟨rfl, rfl⟩ := trodVars_none hV
  have h0k := h0
  have h1k := h1
  have h2k := h2
  obtain ⟨B0, m0, dd0, rfl⟩ := okWide_slice Try.underlying25 (hval 1 25 v1 rfl rfl)
  obtain ⟨nm, rfl⟩ := okWide_string Try.underlying9 (hval 2 9 v2 rfl rfl)
  obtain ⟨fuel, hf⟩ := h0
  obtain ⟨fuel1, hf1⟩ := h1
  simp only [List.append_nil] at hW' hfz
  have hlt : ∀ x ∈ p0 ++ p1 ++ p2, x.block < W.heap.size := fun x hx => hW'.lt x hx
  obtain ⟨ver, A, n, c, ss, rfl, hr, hn, hs⟩ := open_flow (hval 0 24 v0 rfl rfl) hf (fun b off hb => hfz b off (List.mem_append_left _ (List.mem_append_left _ hb)))
  obtain ⟨B, m, d, cs, hcase, hd, hm, hc⟩ := open_caseS hf1 (fun b off hb => hfz b off (List.mem_append_left _ (List.mem_append_right _ hb)))
  clear hA0 hval0 hA
  rw [hcase]
  rw [hcase] at h1k hW'
  refine (fnExactPoolStart_any A B n c m d ⟨ver, ss⟩ cs nm W hr hn hs hd hm hc).mono fun e W' ⟨he, hb⟩ => ?_
  subst he
  have k0 := Below.trod Try.laidOut (by kernel_rfl) (of_decide_eq_true (by kernel_rfl)) h0k hb (fun x hx => hlt x (List.mem_append_left _ (List.mem_append_left _ hx)))
  have k1 := Below.trod Try.laidOut (by kernel_rfl) (of_decide_eq_true (by kernel_rfl)) h1k hb (fun x hx => hlt x (List.mem_append_left _ (List.mem_append_right _ hx)))
  have k2 := Below.trod Try.laidOut (by kernel_rfl) (of_decide_eq_true (by kernel_rfl)) h2k hb (fun x hx => hlt x (List.mem_append_right _ hx))
  have hall := trodAll_mk3 k0 k1 k2
  rw [← List.append_assoc] at hall
  exact ⟨_, rfl, post_law hW' rfl (by kernel_rfl) Try.underlying4 rfl rfl rfl hall hb⟩

theorem fnExactPoolStart_holds : Rows.FnExactPoolStartSaid :=
  OpenClaim.holds_of_wide 9 Try.f9 rfl rfl rfl rfl rfl rfl rfl ⟨rfl, rfl, rfl, rfl, rfl⟩ rfl rfl rfl rfl rfl (by kernel_rfl) Try.func9 (by kernel_rfl)
    (of_decide_eq_true (by kernel_rfl)) (by unfold Func.isWrapper; rw [if_neg (by decide +kernel)]; exact ⟨rfl, rfl⟩)
    (fun os started H enc _ => fnExactPoolStart_lifted os started H enc)
end Go.Proofs.Ytakeijgoonagcaa
