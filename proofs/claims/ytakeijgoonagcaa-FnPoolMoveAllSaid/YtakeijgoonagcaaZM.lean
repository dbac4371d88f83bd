/- Contracts of functions and plain lemmas, joined. No condition but those that each states. -/
import Derived.Deep.RegionHeld3
import Derived.Test.YtakeijgoonagcaaZI
import Derived.Test.YtakeijgoonagcaaZJ
import Derived.Test.YtakeijgoonagcaaZD
import Derived.Test.YtakeijgoonagcaaZG

/- FnExactPoolMove: the walk. -/
namespace Go.Proofs.Ytakeijgoonagcaa
open Go.RowKit

theorem pmL_small {f g : Flow} {cs : List Case} : (pmL f g cs).length ≤ 8 ∧ (∀ j, j < (pmL f g cs).length → (nth (pmL f g cs) j).done.length ≤ 1000) ∧ (pmN f g cs).length ≤ 8 := by
  cases h : pmB f g cs
  · rw [pmL_no h, pmN_no h]
    exact ⟨Nat.zero_le _, fun j hj => absurd hj (by simp), Nat.zero_le _⟩
  · rw [pmL_yes h, pmN_yes h]
    unfold pmB at h
    rw [Bool.and_eq_true] at h
    have hp := mv_pool h.1 h.2
    have h8 := pool_len h.1
    have hs := mv_len f g cs
    exact ⟨pool_len hp, fun j hj => Nat.le_trans (run_sizes (pool_run hp hj)).1 (by omega), by omega⟩
theorem pmL_ok {f g : Flow} {cs : List Case} (hok : okCases cs) : okCases (pmL f g cs) := by
  have hsm := pmL_small (f := f) (g := g) (cs := cs)
  refine ⟨by omega, fun j hj => ⟨?_, Nat.le_trans (hsm.2.1 j hj) (by omega)⟩⟩
  have hm := mem_nth hj
  generalize nth (pmL f g cs) j = x at *
  cases h : pmB f g cs
  · rw [pmL_no h] at hm; cases hm
  · rw [pmL_yes h] at hm
    unfold mvL at hm
    obtain ⟨c, hc, rfl⟩ := List.mem_map.1 hm
    obtain ⟨i, hi, e⟩ := nth_of_mem (List.mem_filter.1 hc).1
    show c.name.size ≤ maxLen
    rw [← e]
    exact (hok.2 i hi).1
theorem row_out {w w' : World} {base lo hi : Nat} {e : TypeId} {size : Nat} {v : Value} {n : Nat} {cs : List Value} (h : w.ownsRow base e size v n cs) (ho : Out lo hi w w') (hh : hi ≤ base) : w'.ownsRow base e size v n cs := by
  refine ⟨h.1, ?_⟩
  rcases h.2 with h0 | ⟨g, cap, cur, hv, hb, hg, hr⟩
  · exact .inl h0
  · exact .inr ⟨g, cap, cur, hv, hb, (ho.block g (heap_lt hg) (.inr (by omega))).trans hg, hr⟩

theorem pmI_any (A G B : Option Addr) (n c ng cg m d : Nat) (f g : Flow) (cs : List Case) (lo log lo' : Nat) (w : World) (hr : RStep w lo A n f.steps) (hok : okSteps f.steps) (hg : RStep w log G ng g.steps) (hokg : okSteps g.steps) (hd : RCase w lo' B m cs) (hcs : okCases cs) :
    Calls Try.prog 19 #[.agg #[.int .i64 f.ver, .slice A n c], .agg #[.int .i64 g.ver, .slice G ng cg], .slice B m d] w fun e w' => ∃ B' m' d' C k e', e = .returned (.tuple #[.slice B' m' d', .slice C k e', .bool (pmB f g cs)]) ∧
      RCase w' w.heap.size B' m' (pmL f g cs) ∧ m' ≤ d' ∧ RStr w' w.heap.size C k (pmN f g cs) ∧ Below w.heap.size w w' := by
  refine (pmD_any A G B n c ng cg m d f g cs lo log lo' w hr hok hg hokg hd hcs).mono ?_
  rintro e w' ⟨B', m', d', C, k, e', rfl, h1, h2, h3, hb⟩
  obtain ⟨_, _, e9, hn⟩ := own_str h3
  injection e9 with i1 _ i3
  subst i1; subst i3
  exact ⟨_, _, _, _, _, _, rfl, h1.dr.hat, h2, hn, hb⟩

set_option maxRecDepth 100000 in
set_option maxHeartbeats 8000000 in
theorem fnExactPoolMove_any (A G B : Option Addr) (n c ng cg m d : Nat) (f g : Flow) (cs : List Case) (w : World) (hr : RStep w 0 A n f.steps) (hn : n ≤ maxLen) (hs : ∀ j, j < n → stepSz (nth f.steps j)) (hg : RStep w 0 G ng g.steps) (hng : ng ≤ maxLen) (hsg : ∀ j, j < ng → stepSz (nth g.steps j)) (hd : RCase w 0 B m cs) (hm : m ≤ maxLen) (hcs : ∀ j, j < m → caseSz (nth cs j)) :
    Calls Try.prog 3 #[.agg #[.int .i64 f.ver, .slice A n c], .agg #[.int .i64 g.ver, .slice G ng cg], .slice B m d] w fun e w' => e = .returned (.bool true) ∧ Below w.heap.size w w' := by
  have HN := Lib.hid hn; clear hn
  have HS := Lib.hid hs; clear hs
  have HNG := Lib.hid hng; clear hng
  have HSG := Lib.hid hsg; clear hsg
  have HM := Lib.hid hm; clear hm
  have HCS := Lib.hid hcs; clear hcs
  have HX0 := Lib.hid (heap_old (o := .cells #[.int .i64 g.ver, .slice G ng cg] 24) (heap_new (w := w) (o := .cells #[.int .i64 f.ver, .slice A n c] 24) rfl))
  have HXG := Lib.hid (heap_new (w := w.alloc (.cells #[.int .i64 f.ver, .slice A n c] 24)) (b := w.heap.size + 1) (o := .cells #[.int .i64 g.ver, .slice G ng cg] 24) (by simp))
  have HB0 := Lib.hid (((Below.refl w.heap.size w).alloc (Nat.le_refl _) (.cells #[.int .i64 f.ver, .slice A n c] 24)).alloc (by simp) (.cells #[.int .i64 g.ver, .slice G ng cg] 24))
  have HR0 := Lib.hid ((hr.alloc (.cells #[.int .i64 f.ver, .slice A n c] 24)).alloc (.cells #[.int .i64 g.ver, .slice G ng cg] 24)); clear hr
  have HG0 := Lib.hid ((hg.alloc (.cells #[.int .i64 f.ver, .slice A n c] 24)).alloc (.cells #[.int .i64 g.ver, .slice G ng cg] 24)); clear hg
  have HD0 := Lib.hid ((hd.alloc (.cells #[.int .i64 f.ver, .slice A n c] 24)).alloc (.cells #[.int .i64 g.ver, .slice G ng cg] 24)); clear hd
  have HK : Hid (∀ w', Below ((w.alloc (.cells #[.int .i64 f.ver, .slice A n c] 24)).alloc (.cells #[.int .i64 g.ver, .slice G ng cg] 24)).heap.size ((w.alloc (.cells #[.int .i64 f.ver, .slice A n c] 24)).alloc (.cells #[.int .i64 g.ver, .slice G ng cg] 24)) w' → ((w'.cell? ⟨w.heap.size, 0, none⟩ = some (.int .i64 f.ver) ∧ w'.cell? ⟨w.heap.size, 1, none⟩ = some (.slice A n c)) ∧ (w'.cell? ⟨w.heap.size + 1, 0, none⟩ = some (.int .i64 g.ver) ∧ w'.cell? ⟨w.heap.size + 1, 1, none⟩ = some (.slice G ng cg))) ∧ RStep w' 0 A n f.steps ∧ RStep w' 0 G ng g.steps ∧ RCase w' 0 B m cs ∧ Below w.heap.size w w') := fun w' h => by
    have e1 := (h.block w.heap.size (by simp; omega)).trans HX0.out
    have e2 := (h.block (w.heap.size + 1) (by simp)).trans HXG.out
    exact ⟨⟨⟨(blk_cl (k := 0) e1 rfl).1, (blk_cl (k := 1) e1 rfl).1⟩, ⟨(blk_cl (k := 0) e2 rfl).1, (blk_cl (k := 1) e2 rfl).1⟩⟩, HR0.out.below h, HG0.out.below h, HD0.out.below h, HB0.out.trans (h.mono HB0.out.size)⟩
  go_enter Try.func3, Try.ntmps3
  go_wp2_with fail
  refine (szFlow_any _ _ _ f _ _ _ HR0.out HN.out HS.out (by omega) (by omega)).mono ?_
  rintro e w1 ⟨r, rfl, hr0, hr1, hb1⟩
  have HB1 := Lib.hid hb1; clear hb1
  by_cases hneg : r < 0
  · clear hr1
    go_wp2_with fail
    go_ret
    exact ⟨rfl, (HK.out _ HB1.out).2.2.2.2⟩
  obtain ⟨hle, hok⟩ := hr1 (by omega)
  have HOK := Lib.hid hok; clear hok
  obtain ⟨⟨⟨a0, a1⟩, ⟨a2, a3⟩⟩, _⟩ := HK.out _ HB1.out
  go_wp2_with fail
  refine (szFlow_any _ _ _ g _ _ _ (HK.out _ HB1.out).2.2.1 HNG.out HSG.out (by omega) (by omega)).mono ?_
  rintro e w1g ⟨r1, rfl, hr10, hr11, hb1g⟩
  have HB1g := Lib.hid (HB1.out.trans (hb1g.mono HB1.out.size)); clear hb1g a0 a1 a2 a3
  by_cases hneg1 : r1 < 0
  · clear hr11
    go_wp2_with fail
    go_ret
    exact ⟨rfl, (HK.out _ HB1g.out).2.2.2.2⟩
  obtain ⟨hle1, hokg⟩ := hr11 (by omega)
  have HOG := Lib.hid hokg; clear hokg
  go_wp2_with fail
  refine (szCaseS_any _ _ _ cs _ _ _ (HK.out _ HB1g.out).2.2.2.1 HM.out HCS.out (by omega) (by omega)).mono ?_
  rintro e w2 ⟨r2, rfl, hr20, hr21, hb2⟩
  have HB2 := Lib.hid (HB1g.out.trans (hb2.mono HB1g.out.size)); clear hb2
  by_cases hneg2 : r2 < 0
  · clear hr21
    go_wp2_with fail
    go_ret
    exact ⟨rfl, (HK.out _ HB2.out).2.2.2.2⟩
  obtain ⟨_, hokc⟩ := hr21 (by omega)
  have HOC := Lib.hid hokc; clear hokc
  have HSM := Lib.hid (pmL_small (f := f) (g := g) (cs := cs))
  have HOP := Lib.hid (pmL_ok (f := f) (g := g) HOC.out)
  have HSA : Hid (∀ w', Below w2.heap.size w2 w' → ((w'.cell? ⟨w.heap.size, 0, none⟩ = some (.int .i64 f.ver) ∧ w'.cell? ⟨w.heap.size, 1, none⟩ = some (.slice A n c)) ∧ (w'.cell? ⟨w.heap.size + 1, 0, none⟩ = some (.int .i64 g.ver) ∧ w'.cell? ⟨w.heap.size + 1, 1, none⟩ = some (.slice G ng cg))) ∧ Below w2.heap.size w2 w') := fun w' h => ⟨(HK.out _ (HB2.out.trans (h.mono HB2.out.size))).1, h⟩
  go_wp2_with fail
  go_region_held3 (fun w' => ((w'.cell? ⟨w.heap.size, 0, none⟩ = some (.int .i64 f.ver) ∧ w'.cell? ⟨w.heap.size, 1, none⟩ = some (.slice A n c)) ∧ (w'.cell? ⟨w.heap.size + 1, 0, none⟩ = some (.int .i64 g.ver) ∧ w'.cell? ⟨w.heap.size + 1, 1, none⟩ = some (.slice G ng cg))) ∧ Below w2.heap.size w2 w')
    (first | exact HSA.out _ hbw | exact HSA.out _ (Below.refl _ _).drew | fail "keep")
    (first
      | (go_at_call_of 17 (Value.int .i64 f.ver); refine (toFlow_any A n c f _ _ ((HK.out _ HB2.out).2.1.below (Below.refl _ _).drew) HOK.out).mono ?_; rintro e wa ⟨Aa, ca, rfl, ha, hba⟩; have hbw : Below w2.heap.size w2 wa := (Below.refl w2.heap.size w2).drew.trans hba)
      | (go_at_call_of 17 (Value.int .i64 g.ver); refine (toFlow_any G ng cg g _ _ ((HK.out _ HB2.out).2.2.1.below hbw) HOG.out).mono ?_; rintro e wd ⟨Ad, cd, rfl, hd, hbd⟩; replace ha := ha.below hbd; replace hbw := hbw.trans (hbd.mono hbw.size))
      | (go_at_call 18; refine (toCaseS_any B m d cs _ _ ((HK.out _ HB2.out).2.2.2.1.below hbw) HOC.out).mono ?_; rintro e wc ⟨Bc, dc, rfl, hc, hbc⟩; replace ha := ha.below hbc; replace hd := hd.below hbc; replace hbw := hbw.trans (hbc.mono hbw.size))
      | (go_at_call 16; refine (pmS_any _ _ _ _ _ _ _ _ _ f g cs _ _ _ _ ha HOK.out hd HOG.out hc HOC.out).mono ?_; rintro e wp ⟨A5, n5, d5, C5, k5, e5, rfl, h5, _, hn5, hbp⟩; have hsp := hbw.size; replace hbw := hbw.trans (hbp.mono hsp))
      | fail "no arm")
  clear HSA ha hc hd hba hbc hbd
  have hn58 : n5 ≤ 8 := by rw [← h5.1]; exact HSM.out.1
  have hk58 : k5 ≤ 8 := by rw [← hn5.1]; exact HSM.out.2.2
  have H5 := Lib.hid h5.low; clear h5
  have N5 := Lib.hid hn5.low; clear hn5
  have HB5 := Lib.hid (HB2.out.trans (hbw.mono HB2.out.size))
  clear hbw hbp hsp
  have hz5w := HB5.out.size
  generalize wp = w5 at *
  obtain ⟨⟨⟨a0, a1⟩, ⟨a2, a3⟩⟩, _⟩ := HK.out _ HB5.out
  go_wp2_with fail
  refine (toFlow_any _ _ _ f _ _ (HK.out _ HB5.out).2.1 HOK.out).mono ?_
  rintro e w6 ⟨A6, c6, rfl, h6, hb6⟩
  have hs6 := hb6.size
  have hs6a : (w6.alloc (.cells #[.int .i64 f.ver, .slice A6 n c6] 34)).heap.size ≤ w6.heap.size + 1 := by simp
  have hs6b : w6.heap.size + 1 ≤ (w6.alloc (.cells #[.int .i64 f.ver, .slice A6 n c6] 34)).heap.size := by simp
  have HY6 := Lib.hid (heap_new (w := w6) (o := .cells #[.int .i64 f.ver, .slice A6 n c6] 34) rfl)
  have HA6 := Lib.hid ((Below.refl w6.heap.size w6).alloc (Nat.le_refl _) (.cells #[.int .i64 f.ver, .slice A6 n c6] 34))
  have H56 := Lib.hid (H5.out.below (hb6.alloc hb6.size (.cells #[.int .i64 f.ver, .slice A6 n c6] 34)) (Nat.le_refl _))
  have N56 := Lib.hid (N5.out.below (hb6.alloc hb6.size (.cells #[.int .i64 f.ver, .slice A6 n c6] 34)) (Nat.le_refl _))
  have H6 := Lib.hid (h6.low.below HA6.out (Nat.le_refl _))
  have HF6 := Lib.hid (h6.alloc (.cells #[.int .i64 f.ver, .slice A6 n c6] 34)); clear h6
  have HB6a := HB5.out.trans (hb6.mono HB5.out.size)
  have HB6 := Lib.hid (HB6a.alloc HB6a.size (.cells #[.int .i64 f.ver, .slice A6 n c6] 34))
  clear hb6 a0 a1 a2 a3 HB6a
  obtain ⟨⟨⟨a0, a1⟩, ⟨a2, a3⟩⟩, _⟩ := HK.out _ HB6.out
  go_wp2_with fail
  refine (toFlow_any _ _ _ g _ _ (HK.out _ HB6.out).2.2.1 HOG.out).mono ?_
  rintro e w7 ⟨A7, c7, rfl, h7, hb7⟩
  have hs7 := hb7.size
  have hs7a : (w7.alloc (.cells #[.int .i64 g.ver, .slice A7 ng c7] 34)).heap.size ≤ w7.heap.size + 1 := by simp
  have hs7b : w7.heap.size + 1 ≤ (w7.alloc (.cells #[.int .i64 g.ver, .slice A7 ng c7] 34)).heap.size := by simp
  have HA7 := Lib.hid ((Below.refl w7.heap.size w7).alloc (Nat.le_refl _) (.cells #[.int .i64 g.ver, .slice A7 ng c7] 34))
  have HZ7 := Lib.hid (heap_new (w := w7) (o := .cells #[.int .i64 g.ver, .slice A7 ng c7] 34) rfl)
  have hb7a := hb7.alloc hb7.size (.cells #[.int .i64 g.ver, .slice A7 ng c7] 34)
  have HY7 := Lib.hid ((hb7a.block w6.heap.size (heap_lt HY6.out)).trans HY6.out)
  have H57 := Lib.hid (H56.out.below hb7a (by omega))
  have N57 := Lib.hid (N56.out.below hb7a (by omega))
  have H67 := Lib.hid (H6.out.below hb7a (by omega))
  have HF7 := Lib.hid (HF6.out.below hb7a)
  have H7 := Lib.hid (h7.low.below HA7.out (Nat.le_refl _))
  have HG7 := Lib.hid (h7.alloc (.cells #[.int .i64 g.ver, .slice A7 ng c7] 34)); clear h7
  have HB7a := HB6.out.trans (hb7.mono HB6.out.size)
  have HB7 := Lib.hid (HB7a.alloc HB7a.size (.cells #[.int .i64 g.ver, .slice A7 ng c7] 34))
  clear hb7 hb7a a0 a1 a2 a3 HB7a
  go_wp2_with fail
  refine (toCaseS_any _ _ _ cs _ _ (HK.out _ HB7.out).2.2.2.1 HOC.out).mono ?_
  rintro e w7c ⟨B7, d7, rfl, h7, hb7⟩
  have hs7c := hb7.size
  have HY7c := Lib.hid ((hb7.block w6.heap.size (heap_lt HY7.out)).trans HY7.out)
  have HZ7c := Lib.hid ((hb7.block w7.heap.size (heap_lt HZ7.out)).trans HZ7.out)
  have H57c := Lib.hid (H57.out.below hb7 (by omega))
  have N57c := Lib.hid (N57.out.below hb7 (by omega))
  have H67c := Lib.hid (H67.out.below hb7 (by omega))
  have H77c := Lib.hid (H7.out.below hb7 (by omega))
  have HC7c := Lib.hid h7.low
  have HCC7c := Lib.hid h7; clear h7
  have HF7c := Lib.hid (HF7.out.below hb7)
  have HG7c := Lib.hid (HG7.out.below hb7)
  have HB7c := Lib.hid (HB7.out.trans (hb7.mono HB7.out.size))
  clear hb7
  have b0 := (blk_cl (k := 0) HY7c.out rfl).1
  have b1 := (blk_cl (k := 1) HY7c.out rfl).1
  have b2 := (blk_cl (k := 0) HZ7c.out rfl).1
  have b3 := (blk_cl (k := 1) HZ7c.out rfl).1
  go_wp2_with fail
  refine (pmD_any _ _ _ _ _ _ _ _ _ f g cs _ _ _ _ HF7c.out HOK.out HG7c.out HOG.out HCC7c.out HOC.out).mono ?_
  rintro e w8 ⟨A8, n8, c8, C8, k8, e8, rfl, h8, _, hm8, hb8⟩
  obtain rfl : n8 = n5 := by rw [← h8.1, ← H5.out.1]
  obtain ⟨_, _, e9, hnr8⟩ := own_str hm8
  injection e9 with i1 i2 i3
  subst i1; subst i3
  obtain rfl : k8 = k5 := by rw [← hnr8.1, ← N5.out.1]
  have hs8 := hb8.size
  have HY8 := Lib.hid ((hb8.block w6.heap.size (heap_lt HY7c.out)).trans HY7c.out)
  have HZ8 := Lib.hid ((hb8.block w7.heap.size (heap_lt HZ7c.out)).trans HZ7c.out)
  have H58 := Lib.hid (H57c.out.below hb8 (by omega))
  have N58 := Lib.hid (N57c.out.below hb8 (by omega))
  have H68 := Lib.hid (H67c.out.below hb8 (by omega))
  have H78 := Lib.hid (H77c.out.below hb8 (by omega))
  have HC78 := Lib.hid (HC7c.out.below hb8 (by omega))
  have HC8 := Lib.hid (HCC7c.out.below hb8)
  have HF8 := Lib.hid (HF7c.out.below hb8)
  have HG8 := Lib.hid (HG7c.out.below hb8)
  have H8 := Lib.hid h8; clear h8
  have M8 := Lib.hid hm8; clear hm8
  have MR8 := Lib.hid hnr8; clear hnr8
  have HB8 := Lib.hid (HB7c.out.trans (hb8.mono HB7c.out.size))
  clear hb8 b0 b1 b2 b3
  have hpe : (pmB f g cs != pmB f g cs) = false := by simp
  go_wp2_with fail
  refine (eqCaseS_same _ _ _ _ _ (pmL f g cs) _ _ _ H8.out.dr.hat HOP.out (H58.out.up (by omega))).mono ?_
  rintro e w9a ⟨rfl, hb9a⟩
  have hs9a := hb9a.size
  go_wp2_with fail
  refine (eqStringS_same _ _ k8 k8 _ _ (pmN f g cs) _ _ _ (MR8.out.below hb9a) (by omega) ((N58.out.below hb9a (by omega)).up (by omega))).mono ?_
  rintro e w9 ⟨rfl, q9, hq9⟩
  have hb9 : Below w8.heap.size w8 w9 := by rw [hq9]; exact below_drewN hb9a _
  clear hq9 hb9a hs9a
  have hs9 := hb9.size
  have HB9 := Lib.hid (HB8.out.trans (hb9.mono HB8.out.size))
  have HF9 := Lib.hid (HF8.out.below hb9)
  have HG9 := Lib.hid (HG8.out.below hb9)
  have HY9 := Lib.hid ((hb9.block w6.heap.size (heap_lt HY8.out)).trans HY8.out)
  have HZ9 := Lib.hid ((hb9.block w7.heap.size (heap_lt HZ8.out)).trans HZ8.out)
  have HBB9 := Lib.hid hb9; clear hb9
  have HSB : Hid (∀ w', Below w9.heap.size w9 w' → (((w'.cell? ⟨w.heap.size, 0, none⟩ = some (.int .i64 f.ver) ∧ w'.cell? ⟨w.heap.size, 1, none⟩ = some (.slice A n c)) ∧ (w'.cell? ⟨w.heap.size + 1, 0, none⟩ = some (.int .i64 g.ver) ∧ w'.cell? ⟨w.heap.size + 1, 1, none⟩ = some (.slice G ng cg))) ∧ ((w'.cell? ⟨w6.heap.size, 0, none⟩ = some (.int .i64 f.ver) ∧ w'.cell? ⟨w6.heap.size, 1, none⟩ = some (.slice A6 n c6)) ∧ (w'.cell? ⟨w7.heap.size, 0, none⟩ = some (.int .i64 g.ver) ∧ w'.cell? ⟨w7.heap.size, 1, none⟩ = some (.slice A7 ng c7)))) ∧ Below w9.heap.size w9 w') := fun w' h => by
    have e2 := (h.block _ (heap_lt HY9.out)).trans HY9.out
    have e3 := (h.block _ (heap_lt HZ9.out)).trans HZ9.out
    exact ⟨⟨(HK.out _ (HB9.out.trans (h.mono HB9.out.size))).1, ⟨(blk_cl (k := 0) e2 rfl).1, (blk_cl (k := 1) e2 rfl).1⟩, ⟨(blk_cl (k := 0) e3 rfl).1, (blk_cl (k := 1) e3 rfl).1⟩⟩, h⟩
  go_wp2_with fail
  go_region_held3 (fun w' => (((w'.cell? ⟨w.heap.size, 0, none⟩ = some (.int .i64 f.ver) ∧ w'.cell? ⟨w.heap.size, 1, none⟩ = some (.slice A n c)) ∧ (w'.cell? ⟨w.heap.size + 1, 0, none⟩ = some (.int .i64 g.ver) ∧ w'.cell? ⟨w.heap.size + 1, 1, none⟩ = some (.slice G ng cg))) ∧ ((w'.cell? ⟨w6.heap.size, 0, none⟩ = some (.int .i64 f.ver) ∧ w'.cell? ⟨w6.heap.size, 1, none⟩ = some (.slice A6 n c6)) ∧ (w'.cell? ⟨w7.heap.size, 0, none⟩ = some (.int .i64 g.ver) ∧ w'.cell? ⟨w7.heap.size, 1, none⟩ = some (.slice A7 ng c7)))) ∧ Below w9.heap.size w9 w')
    (first | exact HSB.out _ hbw | exact HSB.out _ (Below.refl _ _).drew | fail "keep")
    (first
      | (go_at_call 17; refine (toFlow_any _ _ _ f _ _ ((HK.out _ HB9.out).2.1.below (Below.refl _ _).drew) HOK.out).mono ?_; rintro e w10 ⟨A10, c10, rfl, h10, hb10⟩; have hbw : Below w9.heap.size w9 w10 := (Below.refl w9.heap.size w9).drew.trans hb10)
      | (go_at_call 22; refine (eqFlow_same _ _ _ _ _ f _ _ _ (HF9.out.below hbw) HOK.out h10).mono ?_; rintro e w10 ⟨rfl, hb10⟩; replace hbw := hbw.trans (hb10.mono hbw.size))
      | fail "no arm")
  have HBW := Lib.hid hbw
  clear HSB
  generalize w10 = wx at *
  have hsx := HBW.out.size
  have HBX := Lib.hid (HB9.out.trans (HBW.out.mono HB9.out.size))
  have HYX := Lib.hid ((HBW.out.block w6.heap.size (heap_lt HY9.out)).trans HY9.out)
  have HZX := Lib.hid ((HBW.out.block w7.heap.size (heap_lt HZ9.out)).trans HZ9.out)
  have HGX := Lib.hid (HG9.out.below HBW.out)
  clear hbw
  have HSB : Hid (∀ w', Below wx.heap.size wx w' → (((w'.cell? ⟨w.heap.size, 0, none⟩ = some (.int .i64 f.ver) ∧ w'.cell? ⟨w.heap.size, 1, none⟩ = some (.slice A n c)) ∧ (w'.cell? ⟨w.heap.size + 1, 0, none⟩ = some (.int .i64 g.ver) ∧ w'.cell? ⟨w.heap.size + 1, 1, none⟩ = some (.slice G ng cg))) ∧ ((w'.cell? ⟨w6.heap.size, 0, none⟩ = some (.int .i64 f.ver) ∧ w'.cell? ⟨w6.heap.size, 1, none⟩ = some (.slice A6 n c6)) ∧ (w'.cell? ⟨w7.heap.size, 0, none⟩ = some (.int .i64 g.ver) ∧ w'.cell? ⟨w7.heap.size, 1, none⟩ = some (.slice A7 ng c7)))) ∧ Below wx.heap.size wx w') := fun w' h => by
    have e2 := (h.block _ (heap_lt HYX.out)).trans HYX.out
    have e3 := (h.block _ (heap_lt HZX.out)).trans HZX.out
    exact ⟨⟨(HK.out _ (HBX.out.trans (h.mono HBX.out.size))).1, ⟨(blk_cl (k := 0) e2 rfl).1, (blk_cl (k := 1) e2 rfl).1⟩, ⟨(blk_cl (k := 0) e3 rfl).1, (blk_cl (k := 1) e3 rfl).1⟩⟩, h⟩
  go_wp2_with fail
  go_region_held3 (fun w' => (((w'.cell? ⟨w.heap.size, 0, none⟩ = some (.int .i64 f.ver) ∧ w'.cell? ⟨w.heap.size, 1, none⟩ = some (.slice A n c)) ∧ (w'.cell? ⟨w.heap.size + 1, 0, none⟩ = some (.int .i64 g.ver) ∧ w'.cell? ⟨w.heap.size + 1, 1, none⟩ = some (.slice G ng cg))) ∧ ((w'.cell? ⟨w6.heap.size, 0, none⟩ = some (.int .i64 f.ver) ∧ w'.cell? ⟨w6.heap.size, 1, none⟩ = some (.slice A6 n c6)) ∧ (w'.cell? ⟨w7.heap.size, 0, none⟩ = some (.int .i64 g.ver) ∧ w'.cell? ⟨w7.heap.size, 1, none⟩ = some (.slice A7 ng c7)))) ∧ Below wx.heap.size wx w')
    (first | exact HSB.out _ hbw | exact HSB.out _ (Below.refl _ _).drew | fail "keep")
    (first
      | (go_at_call 17; refine (toFlow_any _ _ _ g _ _ ((HK.out _ HBX.out).2.2.1.below (Below.refl _ _).drew) HOG.out).mono ?_; rintro e wy ⟨Ay, cy, rfl, hy, hby⟩; have hbw : Below wx.heap.size wx wy := (Below.refl wx.heap.size wx).drew.trans hby)
      | (go_at_call 22; refine (eqFlow_same _ _ _ _ _ g _ _ _ (HGX.out.below hbw) HOG.out hy).mono ?_; rintro e wy ⟨rfl, hby⟩; replace hbw := hbw.trans (hby.mono hbw.size))
      | fail "no arm")
  have HBY := Lib.hid (HBB9.out.trans ((HBW.out.trans (hbw.mono HBW.out.size)).mono HBB9.out.size))
  have HBY9 := Lib.hid (HBX.out.trans (hbw.mono HBX.out.size))
  clear hbw HSB
  generalize wy = wz at *
  go_wp2_with fail
  refine (toCaseS_any _ _ _ cs _ _ (HK.out _ HBY9.out).2.2.2.1 HOC.out).mono ?_
  rintro e w11 ⟨B11, d11, rfl, h11, hb11⟩
  have HB11 := Lib.hid (HBY.out.trans (hb11.mono HBY.out.size))
  have H11 := Lib.hid h11; clear h11
  clear hb11
  go_wp2_with fail
  refine (eqCaseS_same _ _ _ _ _ cs _ _ _ (HC8.out.below HB11.out) HOC.out H11.out).mono ?_
  rintro e w12 ⟨rfl, hb12⟩
  have H812 := Lib.hid (HB11.out.trans (hb12.mono HB11.out.size))
  clear hb12
  have hs12 := H812.out.size
  have HB12 := Lib.hid (HB8.out.trans (H812.out.mono HB8.out.size))
  have HY12 := Lib.hid ((H812.out.block w6.heap.size (heap_lt HY8.out)).trans HY8.out)
  have HZ12 := Lib.hid ((H812.out.block w7.heap.size (heap_lt HZ8.out)).trans HZ8.out)
  have b0 := (blk_cl (k := 0) HY12.out rfl).1
  have b1 := (blk_cl (k := 1) HY12.out rfl).1
  go_wp2_with fail
  refine (markFlow_any _ _ _ 1 f _ _ _ (H68.out.below H812.out (by omega)) HOK.out (by omega) (by omega) (by omega)).mono ?_
  rintro e w13 ⟨⟨k13, rfl, hk1, hk2⟩, ho13⟩
  have HO13 := Lib.hid ho13; clear ho13
  have hs13 := HO13.out.size
  have hn13 : n ≤ 1048576 := by have := HOK.out.1; rw [(HK.out _ HB12.out).2.1.1] at this; exact this
  have hng13 : ng ≤ 1048576 := by have := HOG.out.1; rw [(HK.out _ HB12.out).2.2.1.1] at this; exact this
  have hk3 : k13 ≤ 1649269538816 := by
    have := Nat.mul_le_mul_right 1048578 hn13
    omega
  clear b0 b1 hk2
  have HZ13 := Lib.hid ((HO13.out.block w7.heap.size (heap_lt HZ12.out) (.inr (by omega))).trans HZ12.out)
  have b2 := (blk_cl (k := 0) HZ13.out rfl).1
  have b3 := (blk_cl (k := 1) HZ13.out rfl).1
  go_wp2_with fail
  refine (markFlow_any _ _ _ k13 g _ _ _ ((H78.out.below H812.out (by omega)).out HO13.out (by omega) (.inr (by omega))) HOG.out hk1 (by omega) (by omega)).mono ?_
  rintro e w13g ⟨⟨k13g, rfl, hk1g, hk2g⟩, ho13g⟩
  have HO13g := Lib.hid ho13g; clear ho13g
  have hs13g := HO13g.out.size
  have hk3g : k13g ≤ 3298539077632 := by
    have := Nat.mul_le_mul_right 1048578 hng13
    omega
  have hk4g : 1 ≤ k13g := by omega
  clear b2 b3 hk2g hk1g hk1 hk3
  go_wp2_with fail
  refine (markCaseS_any _ _ _ k13g cs _ _ _ (((HC78.out.below H812.out (by omega)).out HO13.out (by omega) (.inr (by omega))).out HO13g.out (by omega) (.inr (by omega))) HOC.out hk4g (by omega) (by omega)).mono ?_
  rintro e w14 ⟨⟨k14, rfl, hk4⟩, ho14⟩
  have HO14 := Lib.hid ho14; clear ho14
  have hs14 := HO14.out.size
  have hk5 : 1 ≤ k14 := by omega
  have H514 := Lib.hid ((((H58.out.below H812.out (by omega)).out HO13.out (by omega) (.inl (by omega))).out HO13g.out (by omega) (.inl (by omega))).out HO14.out (by omega) (.inl (by omega)))
  have N514 := Lib.hid ((((N58.out.below H812.out (by omega)).out HO13.out (by omega) (.inl (by omega))).out HO13g.out (by omega) (.inl (by omega))).out HO14.out (by omega) (.inl (by omega)))
  have H814 := Lib.hid ((((H8.out.below H812.out).out HO13.out (by omega)).out HO13g.out (by omega)).out HO14.out (by omega))
  have M814 := Lib.hid (row_out (row_out (row_out (row_below M8.out H812.out) HO13.out (by omega)) HO13g.out (by omega)) HO14.out (by omega))
  obtain ⟨_, _, e9, hnr⟩ := own_str M814.out
  injection e9 with i1 _ i3
  subst i1; subst i3
  have MR14 := Lib.hid hnr; clear hnr
  clear hk4 hk3g hk4g
  have hz0 := HB0.out.size
  have hzz : ((w.alloc (.cells #[.int .i64 f.ver, .slice A n c] 24)).alloc (.cells #[.int .i64 g.ver, .slice G ng cg] 24)).heap.size ≤ w.heap.size + 2 := by simp
  have hz5 := HB5.out.size
  have HB14 := Lib.hid (((HB12.out.trans ((HO13.out.below (by omega)).mono hz5)).trans ((HO13g.out.below (by omega)).mono (by omega))).trans ((HO14.out.below (by omega)).mono (by omega)))
  go_wp2_with fail
  refine (eqCaseS_same _ _ _ _ _ (pmL f g cs) _ _ _ H814.out.dr.hat HOP.out (H514.out.up (by omega))).mono ?_
  rintro e w15a ⟨rfl, hb15a⟩
  have hs15a := hb15a.size
  go_wp2_with fail
  refine (eqStringS_same _ _ k8 k8 _ _ (pmN f g cs) _ _ _ (MR14.out.below hb15a) (by omega) ((N514.out.below hb15a (by omega)).up (by omega))).mono ?_
  rintro e w15 ⟨rfl, q15, hq15⟩
  have hb15 : Below w14.heap.size w14 w15 := by rw [hq15]; exact below_drewN hb15a _
  clear hq15 hb15a hs15a
  have HBB15 := Lib.hid hb15; clear hb15
  have hs15 := HBB15.out.size
  have H515 := Lib.hid (H514.out.below HBB15.out (by omega))
  have N515 := Lib.hid (N514.out.below HBB15.out (by omega))
  have HB15 := Lib.hid (HB14.out.trans (HBB15.out.mono (by omega)))
  have HLEN := Lib.hid (fun j (hj : j < n8) => HSM.out.2.1 j (by rw [H8.out.1]; exact hj))
  go_wp2_with fail
  refine (markDX_any _ _ _ _ 1 _ _ _ (pmL f g cs) (pmN f g cs) _ (H814.out.below HBB15.out) (row_below M814.out HBB15.out) (by omega) (by omega) HLEN.out (by omega) (by omega)).mono ?_
  rintro e w16 ⟨rfl, ho16, q1, q2, hy16, hq1, hq12, hq2, hdm⟩
  have HO16 := Lib.hid ho16; clear ho16
  have HDM := Lib.hid hdm; clear hdm
  have HY16 := Lib.hid hy16; clear hy16
  have hs16 := HO16.out.size
  have H516 := Lib.hid (H515.out.out HO16.out (by omega) (.inl (by omega)))
  have N516 := Lib.hid (N515.out.out HO16.out (by omega) (.inl (by omega)))
  have HB16 := Lib.hid (HB15.out.trans ((HO16.out.below (by omega)).mono (by omega)))
  have hkh := mkC_hi (k := 1) HLEN.out n8 (Nat.le_refl _)
  have hkl := mkC_lo (nth (pmL f g cs)) 1 n8
  obtain ⟨k7, hk7⟩ : ∃ k7 : Nat, k7 = mkC (nth (pmL f g cs)) 1 n8 := ⟨_, rfl⟩
  rw [← hk7] at hkh hkl
  rw [← hk7]
  have HK7 := Lib.hid hk7
  have hq0 : ¬ ((k7 : Int) < 0) := by omega
  clear hk7
  go_wp2_with fail
  refine (markStringS_any _ _ _ k7 (pmN f g cs) q1 q2 _ HY16.out (by omega) (by omega) (by omega) (by omega)).mono ?_
  rintro e w17 ⟨rfl, h17, ho17⟩
  have HO17 := Lib.hid ho17; clear ho17
  have H17 := Lib.hid h17; clear h17
  have HD17 := Lib.hid (HDM.out.outQ HO17.out)
  have hs17 := HO17.out.size
  have H517 := Lib.hid (H516.out.out HO17.out (by omega) (.inl (by omega)))
  have N517 := Lib.hid (N516.out.out HO17.out (by omega) (.inl (by omega)))
  have HB17 := Lib.hid (HB16.out.trans ((HO17.out.below (by omega)).mono (by omega)))
  obtain ⟨k9, hk9⟩ : ∃ k9 : Nat, k9 = k7 + k8 := ⟨_, rfl⟩
  rw [← hk9]
  have HK9 := Lib.hid hk9
  have hq3 : ((k9 : Int) != (k9 : Int)) = false := by simp
  have hq4 : ¬ ((k9 : Int) < 0) := by omega
  clear hk9
  go_wp2_with fail
  refine (heldDR_any _ _ _ 1 _ (pmL f g cs) _ HD17.out (by omega) HLEN.out (by omega) (by omega)).mono ?_
  rintro e w18 ⟨rfl, hb18⟩
  rw [← HK7.out]
  have HB18 := Lib.hid (HB17.out.trans (hb18.mono HB17.out.size))
  have HBB18 := Lib.hid hb18; clear hb18
  have hs18 := HBB18.out.size
  go_wp2_with fail
  refine (heldStringS_any _ _ _ k7 q1 _ ((H17.out.below HBB18.out (by omega)).up (by omega)) (by omega) (by omega) (by omega)).mono ?_
  rintro e w19 ⟨rfl, hb19⟩
  rw [← HK9.out]
  have HB19 := Lib.hid (HB18.out.trans (hb19.mono HB18.out.size))
  have HBB19 := Lib.hid (HBB18.out.trans (hb19.mono HBB18.out.size)); clear hb19
  have hs19 := HBB19.out.size
  have HSA : Hid (∀ w', Below w19.heap.size w19 w' → ((w'.cell? ⟨w.heap.size, 0, none⟩ = some (.int .i64 f.ver) ∧ w'.cell? ⟨w.heap.size, 1, none⟩ = some (.slice A n c)) ∧ (w'.cell? ⟨w.heap.size + 1, 0, none⟩ = some (.int .i64 g.ver) ∧ w'.cell? ⟨w.heap.size + 1, 1, none⟩ = some (.slice G ng cg))) ∧ Below w19.heap.size w19 w') := fun w' h => ⟨(HK.out _ (HB19.out.trans (h.mono HB19.out.size))).1, h⟩
  go_wp2_with fail
  go_region_held3 (fun w' => ((w'.cell? ⟨w.heap.size, 0, none⟩ = some (.int .i64 f.ver) ∧ w'.cell? ⟨w.heap.size, 1, none⟩ = some (.slice A n c)) ∧ (w'.cell? ⟨w.heap.size + 1, 0, none⟩ = some (.int .i64 g.ver) ∧ w'.cell? ⟨w.heap.size + 1, 1, none⟩ = some (.slice G ng cg))) ∧ Below w19.heap.size w19 w')
    (first | exact HSA.out _ hbw | exact HSA.out _ (Below.refl _ _).drew | fail "keep")
    (first
      | (go_at_call_of 17 (Value.int .i64 f.ver); refine (toFlow_any A n c f _ _ ((HK.out _ HB19.out).2.1.below (Below.refl _ _).drew) HOK.out).mono ?_; rintro e wa ⟨Aa, ca, rfl, ha, hba⟩; have hbw : Below w19.heap.size w19 wa := (Below.refl w19.heap.size w19).drew.trans hba)
      | (go_at_call_of 17 (Value.int .i64 g.ver); refine (toFlow_any G ng cg g _ _ ((HK.out _ HB19.out).2.2.1.below hbw) HOG.out).mono ?_; rintro e wd ⟨Ad, cd, rfl, hd, hbd⟩; replace ha := ha.below hbd; replace hbw := hbw.trans (hbd.mono hbw.size))
      | (go_at_call 18; refine (toCaseS_any B m d cs _ _ ((HK.out _ HB19.out).2.2.2.1.below hbw) HOC.out).mono ?_; rintro e wc ⟨Bc, dc, rfl, hc, hbc⟩; replace ha := ha.below hbc; replace hd := hd.below hbc; replace hbw := hbw.trans (hbc.mono hbw.size))
      | (go_at_call 19; refine (pmI_any _ _ _ _ _ _ _ _ _ f g cs _ _ _ _ ha HOK.out hd HOG.out hc HOC.out).mono ?_; rintro e wp ⟨A22, n22, c22, C22, k22, e22, rfl, h22, _, hn22, hbp⟩; have hsp := hbw.size; replace hbw := hbw.trans (hbp.mono hsp))
      | fail "no arm")
  clear HSA ha hc hd hba hbc hbd
  obtain rfl : n22 = n8 := by rw [← h22.1, ← H5.out.1]
  obtain rfl : k22 = k8 := by rw [← hn22.1, ← N5.out.1]
  have H22 := Lib.hid h22; clear h22
  have N22 := Lib.hid hn22; clear hn22
  have HB22 := Lib.hid (HB19.out.trans (hbw.mono HB19.out.size))
  have HBB22 := Lib.hid (HBB19.out.trans (hbw.mono HBB19.out.size)); clear hbw hbp
  generalize wp = w22 at *
  have hs22 := HBB22.out.size
  go_wp2_with fail
  refine (eqCaseS_same _ _ _ _ _ (pmL f g cs) _ _ _ H22.out HOP.out ((H517.out.below HBB22.out (by omega)).up (by omega))).mono ?_
  rintro e w23a ⟨rfl, hb23a⟩
  have HBA := Lib.hid (HBB22.out.trans (hb23a.mono HBB22.out.size))
  have hs23a := HBA.out.size
  go_wp2_with fail
  refine (eqStringS_same _ _ k22 k22 _ _ (pmN f g cs) _ _ _ (N22.out.below hb23a) (by omega) ((N517.out.below HBA.out (by omega)).up (by omega))).mono ?_
  rintro e w23 ⟨rfl, q23, hq23⟩
  have hb23 : Below w22.heap.size w22 w23 := by rw [hq23]; exact below_drewN hb23a _
  clear hq23 hb23a
  have HB23 := Lib.hid (HB22.out.trans (hb23.mono HB22.out.size))
  have HBB23 := Lib.hid (HBB22.out.trans (hb23.mono HBB22.out.size)); clear hb23
  have hs23 := HBB23.out.size
  go_wp2_with fail
  refine (heldDR_any _ _ _ 1 _ (pmL f g cs) _ (HD17.out.below HBB23.out) (by omega) HLEN.out (by omega) (by omega)).mono ?_
  rintro e w24 ⟨rfl, hb24⟩
  rw [← HK7.out]
  have HB24 := Lib.hid (HB23.out.trans (hb24.mono HB23.out.size))
  have HBB24 := Lib.hid (HBB23.out.trans (hb24.mono HBB23.out.size)); clear hb24
  have hs24 := HBB24.out.size
  go_wp2_with fail
  refine (heldStringS_any _ _ _ k7 q1 _ ((H17.out.below HBB24.out (by omega)).up (by omega)) (by omega) (by omega) (by omega)).mono ?_
  rintro e w25 ⟨rfl, hb25⟩
  rw [← HK9.out]
  have HB25 := Lib.hid (HB24.out.trans (hb25.mono HB24.out.size)); clear hb25
  go_wp2_with fail
  go_ret
  exact ⟨rfl, (HK.out _ HB25.out).2.2.2.2⟩
end Go.Proofs.Ytakeijgoonagcaa

/- Pools that move: where a case lies. No program in sight. -/
namespace Go.Proofs.Ytakeijgoonagcaa

theorem idx_decM {xs : List Str} {s : Str} {b : Bool} (h : hasB xs s = b) : decide (0 ≤ idxI xs s) = b := by rw [hasB_idx]; exact h
theorem at_case {f : Flow} {cs : List Case} {c : Case} (h : poolB f cs = true) (hc : c ∈ cs) : ∃ i, i < cs.length ∧ idxI (caseNames cs) c.name = (i : Int) ∧ nth cs i = c := by
  obtain ⟨i, hi, rfl⟩ := nth_of_mem hc
  refine ⟨i, hi, idxI_at (fun j hj e => ?_) (by rw [caseNames_len]; exact hi) (caseNames_at hi), rfl⟩
  rw [caseNames_at (by omega)] at e
  have := pool_names h (by omega : j < cs.length) hi e
  omega
theorem mv_names (f g : Flow) (cs : List Case) : caseNames (mvL f g cs) = caseNames (cs.filter fun c => fitB f g c.st c.done) := by
  unfold caseNames mvL
  rw [List.map_map]
  rfl
theorem mv_has {f g : Flow} {cs : List Case} (h : poolB f cs = true) {k : Nat} (hk : k < cs.length) : hasB (caseNames (mvL f g cs)) (nth cs k).name = fitB f g (nth cs k).st (nth cs k).done := by
  rw [mv_names, Bool.eq_iff_iff, hasB_true, mem_names h hk (fun c hc => (List.mem_filter.1 hc).1), List.mem_filter]
  exact ⟨fun h => h.2, fun h => ⟨mem_nth hk, h⟩⟩
theorem mvN_has {f g : Flow} {cs : List Case} (h : poolB f cs = true) {k : Nat} (hk : k < cs.length) : hasB (mvN f g cs) (nth cs k).name = !fitB f g (nth cs k).st (nth cs k).done := by
  have e : mvN f g cs = caseNames (cs.filter fun c => !fitB f g c.st c.done) := rfl
  rw [e, Bool.eq_iff_iff, hasB_true, mem_names h hk (fun c hc => (List.mem_filter.1 hc).1), List.mem_filter]
  exact ⟨fun h => h.2, fun h => ⟨mem_nth hk, h⟩⟩
theorem pm_parts {f g : Flow} {cs : List Case} (h : pmB f g cs = true) : poolB f cs = true ∧ flowB g = true := by
  unfold pmB at h
  simpa only [Bool.and_eq_true] using h
theorem pm_pool {f g : Flow} {cs : List Case} (h : pmB f g cs = true) : poolB g (mvL f g cs) = true := mv_pool (pm_parts h).1 (pm_parts h).2
theorem pm_at {f g : Flow} {cs : List Case} (h : pmB f g cs = true) {k : Nat} (hk : k < cs.length) (hf : fitB f g (nth cs k).st (nth cs k).done = true) :
    ∃ i, i < (mvL f g cs).length ∧ idxI (caseNames (mvL f g cs)) (nth cs k).name = (i : Int) ∧ nth (mvL f g cs) i = mvC f g (nth cs k) :=
  at_case (c := mvC f g (nth cs k)) (pm_pool h) (List.mem_map.2 ⟨_, List.mem_filter.2 ⟨mem_nth hk, hf⟩, rfl⟩)
theorem pm_again {f g : Flow} {cs : List Case} (h : pmB f g cs = true) : pmB g f (mvL f g cs) = true := by
  unfold pmB; rw [pm_pool h, pool_flow (pm_parts h).1]; rfl
theorem pm_back {f g : Flow} {cs : List Case} (h : pmB f g cs = true) : (pmL g f (mvL f g cs)).length = (mvL f g cs).length ∧ pmN g f (mvL f g cs) = [] ∧
    ∀ j, j < (mvL f g cs).length → ∃ i, i < cs.length ∧ idxI (caseNames cs) (nth (pmL g f (mvL f g cs)) j).name = (i : Int) ∧ nth cs i = nth (pmL g f (mvL f g cs)) j := by
  have e1 := pmL_yes (pm_again h)
  have e2 := pmN_yes (pm_again h)
  obtain ⟨b1, b2⟩ := mv_back (f := f) (g := g) (cs := cs)
  rw [e1, e2, b1, b2]
  have hl : (cs.filter fun c => fitB f g c.st c.done).length = (mvL f g cs).length := by unfold mvL; rw [List.length_map]
  refine ⟨hl, rfl, fun j hj => ?_⟩
  rw [← hl] at hj
  exact at_case (pm_parts h).1 (List.mem_filter.1 (mem_nth hj)).1
end Go.Proofs.Ytakeijgoonagcaa
