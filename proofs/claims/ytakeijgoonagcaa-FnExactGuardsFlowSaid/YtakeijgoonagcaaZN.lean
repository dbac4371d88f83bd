/- Contracts of functions and plain lemmas, joined. No condition but those that each states. -/
import Derived.Lib.SlicesCompact
import Derived.Lib.Strings
import Derived.Lib.SliceRun
import Derived.Deep.RegionLaw
import Derived.Test.YtakeijgoonagcaaZL
import Derived.Test.YtakeijgoonagcaaZA
import Derived.Test.YtakeijgoonagcaaZC
import Derived.Test.YtakeijgoonagcaaZB
import Derived.Test.YtakeijgoonagcaaZK
import Derived.Test.YtakeijgoonagcaaZF

/- A flow without the steps whose guards are closed. No program in sight. -/
namespace Go.Proofs.Ytakeijgoonagcaa

def gfStep (ss : List Step) (n : Str) : List Step := if hasB (namesOf ss) n = true then woL ss n else ss
def gfTo (ss : List Step) (names : List Str) (k : Nat) : List Step := (names.take k).foldl gfStep ss
def gfAll (ss : List Step) (names : List Str) : List Step := names.foldl gfStep ss
theorem gfTo_yes {ss : List Step} {names : List Str} {k : Nat} (hk : k < names.length) (h : hasB (namesOf (gfTo ss names k)) (nth names k) = true) : gfTo ss names (k + 1) = woL (gfTo ss names k) (nth names k) := by
  unfold gfTo at *; rw [take_nth hk, List.foldl_append]
  exact if_pos h
theorem gfTo_no {ss : List Step} {names : List Str} {k : Nat} (hk : k < names.length) (h : hasB (namesOf (gfTo ss names k)) (nth names k) = false) : gfTo ss names (k + 1) = gfTo ss names k := by
  unfold gfTo at *; rw [take_nth hk, List.foldl_append]
  exact if_neg (fun e => by rw [h] at e; cases e)
theorem gfTo_all {ss : List Step} {names : List Str} {k : Nat} (hk : names.length ≤ k) : gfTo ss names k = gfAll ss names := by
  unfold gfTo gfAll; rw [List.take_of_length_le hk]

/-- What stays true of the steps all along. -/
def goodS (N : List Str) (ss : List Step) : Prop := okSteps ss ∧ ss.length ≤ 8 ∧ ∀ s ∈ ss, ascP s.after ∧ ∀ a ∈ s.after, a ∈ N
theorem ascP_nodup {xs : List Str} (h : ascP xs) : xs.Nodup := h.imp fun {a b} e => by
  rintro rfl
  rw [strLt_irr] at e; cases e
theorem good_short {N : List Str} {ss : List Step} (h : goodS N ss) (hN : N.length ≤ 8) : ∀ s ∈ ss, s.after.length ≤ 8 := fun s hs => by
  obtain ⟨h1, h2⟩ := h.2.2 s hs
  have := nodup_le (ascP_nodup h1) h2
  omega
theorem good_wo {N : List Str} {ss : List Step} {n : Str} (h : goodS N ss) (hN : N.length ≤ 8) (hn : hasB (namesOf ss) n = true) : goodS N (woL ss n) := by
  have hs := good_short h hN
  obtain ⟨h1, h2, h3⟩ := h
  have hg : ∀ a ∈ goneOf ss n, a ∈ N := fun a ha => (h3 _ (mem_nth (plc_ex hn).1)).2 a ha
  refine ⟨woL_ok h1 fun s hs' => by have := hs s hs'; omega, ?_, fun s hs' => ?_⟩
  · unfold woL; rw [List.length_map]; exact Nat.le_trans (List.length_filter_le _ _) h2
  · unfold woL at hs'
    obtain ⟨t, ht, rfl⟩ := List.mem_map.1 hs'
    have ht2 := (List.mem_filter.1 ht).1
    refine ⟨?_, fun a ha => ?_⟩
    · show ascP (woAfter n (goneOf ss n) t.after)
      unfold woAfter
      split
      · exact putAll_sorted _ _ (putAll_sorted _ _ List.Pairwise.nil)
      · exact (h3 t ht2).1
    · rcases woAfter_mem ha with ha | ha
      · exact (h3 t ht2).2 a ha
      · exact hg a ha
theorem good_to {N : List Str} {ss : List Step} {names : List Str} (h : goodS N ss) (hN : N.length ≤ 8) : ∀ k, goodS N (gfTo ss names k)
  | 0 => h
  | k + 1 => by
    have ih := good_to (names := names) h hN k
    by_cases hk : k < names.length
    · cases hh : hasB (namesOf (gfTo ss names k)) (nth names k)
      · rw [gfTo_no hk hh]; exact ih
      · rw [gfTo_yes hk hh]; exact good_wo ih hN hh
    · rw [gfTo_all (by omega), ← gfTo_all (k := k) (by omega)]; exact ih
theorem asc_lt {xs : List Str} (h : ascB xs = true) (i : Nat) : ∀ d, i + d + 1 < xs.length → strLt (nth xs i) (nth xs (i + d + 1)) = true
  | 0, hd => by
    have := allN_iff.1 h (i + 1) hd
    unfold ascAt at this
    simp only [Bool.and_eq_true, Bool.or_eq_true, decide_eq_true_eq] at this
    rcases this.2 with e | e
    · omega
    · exact e
  | d + 1, hd => by
    have ih := asc_lt h i d (by omega)
    have := allN_iff.1 h (i + (d + 1) + 1) hd
    unfold ascAt at this
    simp only [Bool.and_eq_true, Bool.or_eq_true, decide_eq_true_eq] at this
    rcases this.2 with e | e
    · omega
    · exact strLt_trans ih e
theorem asc_pair {xs : List Str} (h : ascB xs = true) : ascP xs := by
  refine List.pairwise_iff_getElem.2 fun i j hi hj hij => ?_
  have := asc_lt h i (j - i - 1) (by omega)
  rw [show i + (j - i - 1) + 1 = j by omega, nth_eq hi, nth_eq hj] at this
  exact this
theorem good_flow {f : Flow} (h : flowB f = true) : goodS (namesOf f.steps) f.steps := by
  refine ⟨okSteps_of h, (flowB_iff.1 h).2.2.1.2, fun s hs => ?_⟩
  obtain ⟨j, hj, rfl⟩ := nth_of_mem hs
  have h1 := (flowB_iff.1 h).1 j hj
  unfold stepAt at h1
  simp only [Bool.and_eq_true] at h1
  refine ⟨?_, haveB_iff.1 h1.2⟩
  have h2 := h1.1.1
  unfold stepB at h2
  simp only [Bool.and_eq_true] at h2
  exact asc_pair h2.1.1.1

/-- The whole of it. -/
def gfB (f : Flow) (gs : List Guard) (vs : List Int) : Bool := flowB f && (guardsB gs && (varsB vs && flowB ⟨f.ver, gfAll f.steps (closL gs vs)⟩))
def gfF (f : Flow) (gs : List Guard) (vs : List Int) : Flow := if gfB f gs vs = true then ⟨f.ver, gfAll f.steps (closL gs vs)⟩ else ⟨0, []⟩
theorem gfF_no {f : Flow} {gs : List Guard} {vs : List Int} (h : gfB f gs vs = false) : gfF f gs vs = ⟨0, []⟩ := by unfold gfF; rw [if_neg (by rw [h]; simp)]
theorem gfF_yes {f : Flow} {gs : List Guard} {vs : List Int} (h : gfB f gs vs = true) : gfF f gs vs = ⟨f.ver, gfAll f.steps (closL gs vs)⟩ := if_pos h
theorem clos_small {gs : List Guard} {vs : List Int} : (closL gs vs).length ≤ 8 := by
  unfold closL
  split
  · rename_i h
    simp only [Bool.and_eq_true] at h
    have h1 := h.1
    unfold guardsB at h1
    simp only [Bool.and_eq_true, decide_eq_true_eq] at h1
    have : (closTo gs vs gs.length).length ≤ gs.length := by
      unfold closTo; rw [List.length_map]
      exact Nat.le_trans (List.length_filter_le _ _) (List.length_take_le _ _)
    omega
  · simp
end Go.Proofs.Ytakeijgoonagcaa

/- A flow without the steps whose guards are closed: the reference's side. -/
namespace Go.Proofs.Ytakeijgoonagcaa
open Go.RowKit

set_option maxRecDepth 100000 in
set_option maxHeartbeats 4000000 in
theorem gfS_any (A G V : Option Addr) (n c ng cg nv cv : Nat) (f : Flow) (gs : List Guard) (vs : List Int) (lo log lov : Nat) (w : World) (hr : RStep w lo A n f.steps) (hok : okSteps f.steps) (hrg : RGuard w log G ng gs) (hokg : okG gs) (hrv : RInt w lov V nv vs) (hnv : nv ≤ 1048576) :
    Calls Try.prog 43 #[.agg #[.int .i64 f.ver, .slice A n c], .slice G ng cg, .slice V nv cv] w fun e w' => ∃ B m d, e = .returned (.tuple #[.agg #[.int .i64 (gfF f gs vs).ver, .slice B m d], .bool (gfB f gs vs)]) ∧ SRow w' w.heap.size (.slice B m d) m (gfF f gs vs).steps ∧ Below w.heap.size w w' := by
  have HX := Lib.hid (heap_old (o := .cells #[.int .i64 0, .slice none 0 0] 34) (heap_new (w := w) (o := .cells #[.int .i64 f.ver, .slice A n c] 34) rfl))
  have HZ := Lib.hid (heap_new (w := w.alloc (.cells #[.int .i64 f.ver, .slice A n c] 34)) (b := w.heap.size + 1) (o := .cells #[.int .i64 0, .slice none 0 0] 34) (by simp))
  have HBW := Lib.hid (((Below.refl w.heap.size w).alloc (Nat.le_refl _) (.cells #[.int .i64 f.ver, .slice A n c] 34)).alloc (by simp) (.cells #[.int .i64 0, .slice none 0 0] 34))
  have HRW := Lib.hid ((hr.alloc (.cells #[.int .i64 f.ver, .slice A n c] 34)).alloc (.cells #[.int .i64 0, .slice none 0 0] 34)); clear hr
  have HGW := Lib.hid ((hrg.alloc (.cells #[.int .i64 f.ver, .slice A n c] 34)).alloc (.cells #[.int .i64 0, .slice none 0 0] 34)); clear hrg
  have HVW := Lib.hid ((hrv.alloc (.cells #[.int .i64 f.ver, .slice A n c] 34)).alloc (.cells #[.int .i64 0, .slice none 0 0] 34)); clear hrv
  go_enter Try.func43, Try.ntmps43
  go_upto_region 1 with fail
  generalize (w.alloc (.cells #[.int .i64 f.ver, .slice A n c] 34)).alloc (.cells #[.int .i64 0, .slice none 0 0] 34) = W at *
  have hzl := heap_lt HZ.out
  have HSF : Hid (∀ w', Below W.heap.size W w' → w'.cell? ⟨w.heap.size, 0, none⟩ = some (.int .i64 f.ver) ∧ w'.cell? ⟨w.heap.size, 1, none⟩ = some (.slice A n c)) := Lib.hid (fun w' h => by
    have e1 := (h.block _ (heap_lt HX.out)).trans HX.out
    exact ⟨(blk_cl (k := 0) e1 rfl).1, (blk_cl (k := 1) e1 rfl).1⟩)
  have HFV := Lib.hid (fun (cur : World) (h : Below W.heap.size W cur) => (flowS_any A n c f lo cur (HRW.out.below h) hok).mono (R' := fun e w' => e = .returned (.bool (flowB f)) ∧ Below W.heap.size W w') (by
    rintro e w' ⟨h1, h2⟩
    exact ⟨h1, h.trans (h2.mono h.size)⟩))
  have HGV := Lib.hid (fun (cur : World) (h : Below W.heap.size W cur) => (guardsS_any G ng cg gs log cur (HGW.out.below h) hokg).mono (R' := fun e w' => e = .returned (.bool (guardsB gs)) ∧ Below W.heap.size W w') (by
    rintro e w' ⟨h1, q, rfl⟩
    exact ⟨h1, below_drewN h q⟩))
  have HVV := Lib.hid (fun (cur : World) (h : Below W.heap.size W cur) => (varsS_any V nv cv vs lov cur (HVW.out.below h) hnv).mono (R' := fun e w' => e = .returned (.bool (varsB vs)) ∧ Below W.heap.size W w') (by
    rintro e w' ⟨h1, h2⟩
    exact ⟨h1, h2 ▸ h⟩))
  have hbw := Below.refl W.heap.size W
  obtain ⟨f0, f1⟩ := HSF.out _ hbw
  have HGB : Hid (gfB f gs vs = (flowB f && (guardsB gs && (varsB vs && flowB ⟨f.ver, gfAll f.steps (closL gs vs)⟩)))) := Lib.hid rfl
  cases hf : flowB f
  · go_upto_region 2 with (first
      | (go_at_call 60; refine (HFV.out _ hbw).mono ?_; clear f0 f1; rintro e w1 ⟨rfl, hbw⟩; (try rw [hf]); obtain ⟨f0, f1⟩ := HSF.out _ hbw)
      | (go_at_call 101; refine (HGV.out _ hbw).mono ?_; clear f0 f1; rintro e w2 ⟨rfl, hbw⟩; (try rw [hg]); obtain ⟨f0, f1⟩ := HSF.out _ hbw)
      | (go_at_call 102; refine (HVV.out _ hbw).mono ?_; clear f0 f1; rintro e w3 ⟨rfl, hbw⟩; (try rw [hv]); obtain ⟨f0, f1⟩ := HSF.out _ hbw)
      | fail "no arm")
    have HE := Lib.hid (gfF_no (by rw [HGB.out, hf]; rfl : gfB f gs vs = false))
    have HPF := Lib.hid (by rw [HGB.out, hf]; rfl : gfB f gs vs = false)
    have HZ9 := Lib.hid ((hbw.block _ (heap_lt HZ.out)).trans HZ.out)
    have z0 := (blk_cl (k := 0) HZ9.out rfl).1
    have z0' := (blk_cl (k := 0) HZ9.out rfl).2
    have z1 := (blk_cl (k := 1) HZ9.out rfl).1
    have z1' := (blk_cl (k := 1) HZ9.out rfl).2
    go_wp2_with fail
    have hres := set21 (u := .slice none 0 0) (set20 (u := .int .i64 0) HZ9.out)
    have e0 := (blk_cl (k := 0) hres rfl).1
    have e1 := (blk_cl (k := 1) hres rfl).1
    exact bodyPost_ret (v := .tuple #[.agg #[.int .i64 0, .slice none 0 0], .bool false]) (by simp [results, Try.results43, go_sem, e0, e1]) rfl ⟨none, 0, 0, by rw [HE.out, HPF.out], by rw [HE.out]; exact ⟨[], rfl, own_nil, fun p hp => by cases hp⟩, ((HBW.out.trans (hbw.mono HBW.out.size)).setCell (p := ⟨w.heap.size + 1, 0, none⟩) (by show w.heap.size ≤ w.heap.size + 1; omega) _).setCell (p := ⟨w.heap.size + 1, 1, none⟩) (by show w.heap.size ≤ w.heap.size + 1; omega) _⟩
  cases hg : guardsB gs
  · go_upto_region 2 with (first
      | (go_at_call 60; refine (HFV.out _ hbw).mono ?_; clear f0 f1; rintro e w1 ⟨rfl, hbw⟩; (try rw [hf]); obtain ⟨f0, f1⟩ := HSF.out _ hbw)
      | (go_at_call 101; refine (HGV.out _ hbw).mono ?_; clear f0 f1; rintro e w2 ⟨rfl, hbw⟩; (try rw [hg]); obtain ⟨f0, f1⟩ := HSF.out _ hbw)
      | (go_at_call 102; refine (HVV.out _ hbw).mono ?_; clear f0 f1; rintro e w3 ⟨rfl, hbw⟩; (try rw [hv]); obtain ⟨f0, f1⟩ := HSF.out _ hbw)
      | fail "no arm")
    have HE := Lib.hid (gfF_no (by rw [HGB.out, hf, hg]; rfl : gfB f gs vs = false))
    have HPF := Lib.hid (by rw [HGB.out, hf, hg]; rfl : gfB f gs vs = false)
    have HZ9 := Lib.hid ((hbw.block _ (heap_lt HZ.out)).trans HZ.out)
    have z0 := (blk_cl (k := 0) HZ9.out rfl).1
    have z0' := (blk_cl (k := 0) HZ9.out rfl).2
    have z1 := (blk_cl (k := 1) HZ9.out rfl).1
    have z1' := (blk_cl (k := 1) HZ9.out rfl).2
    go_wp2_with fail
    have hres := set21 (u := .slice none 0 0) (set20 (u := .int .i64 0) HZ9.out)
    have e0 := (blk_cl (k := 0) hres rfl).1
    have e1 := (blk_cl (k := 1) hres rfl).1
    exact bodyPost_ret (v := .tuple #[.agg #[.int .i64 0, .slice none 0 0], .bool false]) (by simp [results, Try.results43, go_sem, e0, e1]) rfl ⟨none, 0, 0, by rw [HE.out, HPF.out], by rw [HE.out]; exact ⟨[], rfl, own_nil, fun p hp => by cases hp⟩, ((HBW.out.trans (hbw.mono HBW.out.size)).setCell (p := ⟨w.heap.size + 1, 0, none⟩) (by show w.heap.size ≤ w.heap.size + 1; omega) _).setCell (p := ⟨w.heap.size + 1, 1, none⟩) (by show w.heap.size ≤ w.heap.size + 1; omega) _⟩
  cases hv : varsB vs
  · go_upto_region 2 with (first
      | (go_at_call 60; refine (HFV.out _ hbw).mono ?_; clear f0 f1; rintro e w1 ⟨rfl, hbw⟩; (try rw [hf]); obtain ⟨f0, f1⟩ := HSF.out _ hbw)
      | (go_at_call 101; refine (HGV.out _ hbw).mono ?_; clear f0 f1; rintro e w2 ⟨rfl, hbw⟩; (try rw [hg]); obtain ⟨f0, f1⟩ := HSF.out _ hbw)
      | (go_at_call 102; refine (HVV.out _ hbw).mono ?_; clear f0 f1; rintro e w3 ⟨rfl, hbw⟩; (try rw [hv]); obtain ⟨f0, f1⟩ := HSF.out _ hbw)
      | fail "no arm")
    have HE := Lib.hid (gfF_no (by rw [HGB.out, hf, hg, hv]; rfl : gfB f gs vs = false))
    have HPF := Lib.hid (by rw [HGB.out, hf, hg, hv]; rfl : gfB f gs vs = false)
    have HZ9 := Lib.hid ((hbw.block _ (heap_lt HZ.out)).trans HZ.out)
    have z0 := (blk_cl (k := 0) HZ9.out rfl).1
    have z0' := (blk_cl (k := 0) HZ9.out rfl).2
    have z1 := (blk_cl (k := 1) HZ9.out rfl).1
    have z1' := (blk_cl (k := 1) HZ9.out rfl).2
    go_wp2_with fail
    have hres := set21 (u := .slice none 0 0) (set20 (u := .int .i64 0) HZ9.out)
    have e0 := (blk_cl (k := 0) hres rfl).1
    have e1 := (blk_cl (k := 1) hres rfl).1
    exact bodyPost_ret (v := .tuple #[.agg #[.int .i64 0, .slice none 0 0], .bool false]) (by simp [results, Try.results43, go_sem, e0, e1]) rfl ⟨none, 0, 0, by rw [HE.out, HPF.out], by rw [HE.out]; exact ⟨[], rfl, own_nil, fun p hp => by cases hp⟩, ((HBW.out.trans (hbw.mono HBW.out.size)).setCell (p := ⟨w.heap.size + 1, 0, none⟩) (by show w.heap.size ≤ w.heap.size + 1; omega) _).setCell (p := ⟨w.heap.size + 1, 1, none⟩) (by show w.heap.size ≤ w.heap.size + 1; omega) _⟩
  go_upto_region 3 with (first
      | (go_at_call 60; refine (HFV.out _ hbw).mono ?_; clear f0 f1; rintro e w1 ⟨rfl, hbw⟩; (try rw [hf]); obtain ⟨f0, f1⟩ := HSF.out _ hbw)
      | (go_at_call 101; refine (HGV.out _ hbw).mono ?_; clear f0 f1; rintro e w2 ⟨rfl, hbw⟩; (try rw [hg]); obtain ⟨f0, f1⟩ := HSF.out _ hbw)
      | (go_at_call 102; refine (HVV.out _ hbw).mono ?_; clear f0 f1; rintro e w3 ⟨rfl, hbw⟩; (try rw [hv]); obtain ⟨f0, f1⟩ := HSF.out _ hbw)
      | fail "no arm")
  have HB3 := Lib.hid hbw
  have hs3 := hbw.size
  clear hbw
  go_wp2_with fail
  refine (l2Copy_any _ _ _ f _ _ (HRW.out.below HB3.out) hok).mono ?_
  rintro e w4 ⟨B4, d4, rfl, hrow4, hb4⟩
  clear f0 f1
  have HB4 := Lib.hid (HB3.out.trans (hb4.mono hs3))
  have HR4 := Lib.hid ((hrow4.mono hs3).below ((Below.refl _ _).alloc (Nat.le_refl _) (.cells #[.int .i64 f.ver, .slice B4 n d4] 34)))
  have HP4 := Lib.hid (heap_new (w := w4) (o := .cells #[.int .i64 f.ver, .slice B4 n d4] 34) rfl)
  have HB4a := Lib.hid (HB4.out.alloc HB4.out.size (.cells #[.int .i64 f.ver, .slice B4 n d4] 34))
  have hWp := HB4.out.size
  clear hrow4 hb4
  go_upto_region 4 with fail
  generalize w4.alloc (.cells #[.int .i64 f.ver, .slice B4 n d4] 34) = W4 at *
  generalize w4.heap.size = p at *
  have hpl4 := heap_lt HP4.out
  go_wp2_with fail
  refine (closS_any _ _ _ _ _ _ gs vs _ _ _ (HGW.out.below HB4a.out) hokg (HVW.out.below HB4a.out) hnv).mono ?_
  rintro e w6 ⟨C, q, cq, rfl, hnm, hb6⟩
  have HP6 := Lib.hid ((hb6.block _ hpl4).trans HP4.out)
  have HR6 := Lib.hid (HR4.out.below hb6)
  have HB6 := Lib.hid (HB4a.out.trans (hb6.mono HB4a.out.size))
  have HN6 := Lib.hid hnm
  have HQL := Lib.hid hnm.1
  have hq8 : q ≤ 8 := by rw [← hnm.1]; exact clos_small
  have hplo : p < W4.heap.size := hpl4
  have hgd0 := good_flow hf
  have hN8 : (namesOf f.steps).length ≤ 8 := by rw [namesOf_len]; exact hgd0.2.1
  have HGD := Lib.hid (fun k => good_to (names := closL gs vs) hgd0 hN8 k)
  have HGA := Lib.hid (fun (k : Nat) (hk : (closL gs vs).length ≤ k) => gfTo_all (ss := f.steps) hk)
  clear hnm hb6 hgd0
  generalize hnames : closL gs vs = names at *
  have HNE := Lib.hid hnames
  clear hnames
  go_wp2_with fail
  go_loopw [10] (fun i wr => ∃ (k : Nat) (A' : Option Addr) (m' d' : Nat), k ≤ q ∧ i = .int .i64 (k : Int) ∧ wr.heap[p]? = some (.cells #[.int .i64 f.ver, .slice A' m' d'] 34) ∧ SRow wr W.heap.size (.slice A' m' d') m' (gfTo f.steps names k) ∧ RStr wr W4.heap.size C q names ∧ Below W.heap.size W wr) (fun i _ => q - (intOf i).toNat)
  case atStart => exact ⟨0, B4, n, d4, Nat.zero_le _, rfl, HP6.out, HR6.out, HN6.out, HB6.out⟩
  case round =>
    obtain ⟨wo, rfl⟩ : ∃ wo : World, wo = wr := ⟨_, rfl⟩
    obtain ⟨k, A', m', d', hk, rfl, hpb, hrow, hnm, hbo⟩ := hrel
    have HPB := Lib.hid hpb; clear hpb
    have HROW := Lib.hid hrow; clear hrow
    have HNM := Lib.hid hnm; clear hnm
    have HBO := Lib.hid hbo; clear hbo
    have hpl := heap_lt HPB.out
    have hso' := HBO.out.size
    have hml := HROW.out.len
    have hm8 : m' ≤ 8 := by rw [← hml]; exact (HGD.out k).2.1
    have HSH : Hid (∀ j, j < m' → (nth (gfTo f.steps names k) j).after.length ≤ 100) := Lib.hid (fun j hj => by
      have := good_short (HGD.out k) hN8 _ (mem_nth (show j < (gfTo f.steps names k).length by omega))
      omega)
    clear hml
    have x1 := (blk_cl (k := 1) HPB.out rfl).1
    by_cases hlt : k < q
    · have hkn : k < names.length := by rw [HQL.out]; exact hlt
      obtain ⟨bn, ofn, rfl, ⟨hbn1, hbn2⟩, hcn⟩ := RStr.at_ HNM.out hlt
      have q1 := (hcn k hlt).1
      clear hcn
      have hk0 : (0 : Int) ≤ (k : Int) := by omega
      have hk1 : (k : Int) < (q : Int) := by omega
      have hk2 : ¬ ((k : Int) < 0) := by omega
      have HAT := Lib.hid (fun z => l2At_any A' m' d' (gfTo f.steps names k) (nth names k) _ _ (HROW.out.hat2.drewN z) (by omega))
      have hidx := hasB_idx (namesOf (gfTo f.steps names k)) (nth names k)
      cases hh : hasB (namesOf (gfTo f.steps names k)) (nth names k)
      · rw [hh] at hidx
        have HT := Lib.hid (gfTo_no hkn hh)
        go_wp2_with fail
        go_quiet ((go_at_call 105; exact q_same (HAT.out _)))
        go_wp2_with fail
        go_roundw
        case rel => exact ⟨k + 1, A', m', d', by omega, by go_num, (below_drewN (Below.refl _ _) _).block _ hpl |>.trans HPB.out, by rw [HT.out]; exact HROW.out.below (below_drewN (Below.refl _ _) _), HNM.out.below (below_drewN (Below.refl _ _) _), below_drewN HBO.out _⟩
        case measure => simp [intOf]; omega
      · rw [hh] at hidx
        have HT := Lib.hid (gfTo_yes hkn hh)
        go_wp2_with fail
        go_quiet ((go_at_call 105; exact q_same (HAT.out _)))
        go_upto_region 9 with fail
        rename_i nq
        have hbq := below_drewN (Below.refl wo.heap.size wo) nq
        generalize wo.drewN nq = wq at *
        have HPQ := Lib.hid ((hbq.block _ hpl).trans HPB.out)
        have HRQ := Lib.hid (HROW.out.below hbq)
        have HNQ := Lib.hid (HNM.out.below hbq)
        have HBQ := Lib.hid (HBO.out.trans (hbq.mono hso'))
        have hsq := HBQ.out.size
        have hplq := heap_lt HPQ.out
        have hbn3 : bn < wq.heap.size := Nat.lt_of_lt_of_le hbn2 hbq.size
        have q2 := (hbq.cell (p := ⟨bn, ofn + k, none⟩) hbn2).trans q1
        have HSB : Hid (∀ w', Below wq.heap.size wq w' → (fun w' : World => w'.cell? ⟨bn, ofn + k, none⟩ = some (.string (nth names k))) w') := Lib.hid (fun w' h => (h.cell (p := ⟨bn, ofn + k, none⟩) hbn3).trans q2)
        clear q1 q2 hbq x1 HAT hidx
        have x1 := (blk_cl (k := 1) HPQ.out rfl).1
        have x1' := (blk_cl (k := 1) HPQ.out rfl).2
        refine wp_region_held_drew (S := fun w' : World => w'.cell? ⟨bn, ofn + k, none⟩ = some (.string (nth names k))) (by kernel_rfl) (HSB.out _ (Below.refl _ _).drew) (fun hH => ?_)
        refine wpAnyH_takeE (i := 0) (d := some 44) (v := ?v101) rfl (by rfl) (by kernel_rfl) (by kernel_rfl) (by kernel_rfl) (fun _ _ _ h => h) (Or.inl ⟨by rfl, ?y101⟩) hH ?r101
        case y101 => (intro w' hS; (try dsimp only at hS); go_simp; (try with_reducible rfl))
        (try simp only [Act.put, List.setIfInBounds_toArray, List.set_cons_zero, List.set_cons_succ])
        refine wpAnyH_takeE (i := 2) (d := some 46) (v := ?v102) rfl (by rfl) (by kernel_rfl) (by kernel_rfl) (by kernel_rfl) (fun _ _ _ h => h) (Or.inl ⟨by rfl, ?y102⟩) hH ?r102
        case y102 => (intro w' hS; (try dsimp only at hS); go_simp; (try with_reducible rfl))
        (try simp only [Act.put, List.setIfInBounds_toArray, List.set_cons_zero, List.set_cons_succ])
        refine wpAnyH_takeE (i := 3) (d := some 47) (v := ?v103) rfl (by rfl) (by kernel_rfl) (by kernel_rfl) (by kernel_rfl) (fun _ _ _ h => h) (Or.inl ⟨by rfl, ?y103⟩) hH ?r103
        case y103 => (intro w' hS; (try dsimp only at hS); go_simp; (try with_reducible rfl))
        (try simp only [Act.put, List.setIfInBounds_toArray, List.set_cons_zero, List.set_cons_succ])
        refine wpAnyH_takeE (i := 4) (d := some 48) (v := ?v104) rfl (by rfl) (by kernel_rfl) (by kernel_rfl) (by kernel_rfl) (fun _ _ _ h => h) (Or.inl ⟨by rfl, ?y104⟩) hH ?r104
        case y104 => (intro w' hS; (try dsimp only at hS); go_simp; (try with_reducible rfl))
        (try simp only [Act.put, List.setIfInBounds_toArray, List.set_cons_zero, List.set_cons_succ])
        refine wpAnyH_takeE (i := 5) (d := some 49) (v := ?v105) rfl (by rfl) (by kernel_rfl) (by kernel_rfl) (by kernel_rfl) (fun _ _ _ h => h) (Or.inl ⟨by rfl, ?y105⟩) hH ?r105
        case y105 => (intro w' hS; (try dsimp only at hS); go_simp; (try with_reducible rfl))
        (try simp only [Act.put, List.setIfInBounds_toArray, List.set_cons_zero, List.set_cons_succ])
        refine wpAnyH_ready (rs := [1]) (by kernel_rfl) (by simp) ?_
        refine AllReadyH.cons rfl (fun K hK => ?_) AllReadyH.nil
        go_simp
        refine hK.out _ _ (HSB.out _ (Below.refl _ _).drew) (fun hH2 => ?_)
        clear hK K hH
        have hH := hH2
        (try simp only [Act.put, List.setIfInBounds_toArray, List.set_cons_zero, List.set_cons_succ])
        refine wpAnyH_ready (rs := [6]) (by kernel_rfl) (by simp) ?_
        refine AllReadyH.cons rfl (fun K hK => ?_) AllReadyH.nil
        go_wp2_with fail
        go_at_call 106
        refine (l12Without_any _ _ _ (gfTo f.steps names k) (nth names k) _ _ (HRQ.out.hat2.below (Below.refl _ _).drew) (HGD.out k).1 (by omega) (fun j hj => HSH.out j hj) hh).mono ?_
        rintro e w5 ⟨B5, m5, d5, rfl, hk5, hb5⟩
        have hbw : Below wq.heap.size wq w5 := (Below.refl wq.heap.size wq).drew.trans hb5
        have HX5 := Lib.hid ((hbw.block _ hplq).trans HPQ.out)
        have y1 := (blk_cl (k := 1) HX5.out rfl).1
        have y1' := (blk_cl (k := 1) HX5.out rfl).2
        go_wp2_with fail
        refine hK.out _ _ (HSB.out _ hbw) (fun hH2 => ?_)
        clear hK K hH
        have hH := hH2
        (try simp only [Act.put, List.setIfInBounds_toArray, List.set_cons_zero, List.set_cons_succ])
        refine wpAnyH_takeE (i := 7) (d := some 51) (v := ?v106) rfl (by rfl) (by kernel_rfl) (by kernel_rfl) (by kernel_rfl) (fun _ _ _ h => h) (Or.inl ⟨by rfl, ?y106⟩) hH ?r106
        case y106 => (intro w' hS; (try dsimp only at hS); go_simp; (try with_reducible rfl))
        (try simp only [Act.put, List.setIfInBounds_toArray, List.set_cons_zero, List.set_cons_succ])
        refine wpAnyH_ready (rs := [8]) (by kernel_rfl) (by simp) ?_
        refine AllReadyH.cons rfl (fun K hK => ?_) AllReadyH.nil
        go_simp
        (try simp only [Oper.upon])
        refine hK.out _ _ ((cellFarQ (by omega)).trans (HSB.out _ hbw)) (fun _ => ?_)
        clear hK K hH
        (try simp only [Act.put, List.setIfInBounds_toArray, List.set_cons_zero, List.set_cons_succ])
        refine wpAnyH_done (by kernel_rfl) ?_ _
        have hso : wq.drew.heap.size = wq.heap.size := rfl
        have HK8 := Lib.hid ((hk5.mono (show W.heap.size ≤ wq.drew.heap.size by omega)).set (o := 1) (u := .slice B5 m5 d5) HX5.out (by decide) (by decide))
        have HP8 := Lib.hid (set21 (u := .slice B5 m5 d5) HX5.out)
        have HN8 := Lib.hid ((HNQ.out.below hbw).setLow (u := .slice B5 m5 d5) (o := 1) hplo)
        have HB8 := Lib.hid ((HBQ.out.trans (hbw.mono HBQ.out.size)).setCell (p := ⟨p, 1, none⟩) hWp (.slice B5 m5 d5))
        clear hk5 hb5 hbw y1 y1'
        go_wp2_with fail
        go_roundw
        case rel => exact ⟨k + 1, B5, m5, d5, by omega, by go_num, HP8.out, by rw [HT.out]; exact HK8.out, HN8.out, HB8.out⟩
        case measure => simp [intOf]; omega
    · have hkq : k = q := by omega
      subst hkq
      have HGK := Lib.hid (HGA.out k (by rw [HQL.out]; exact Nat.le_refl _))
      have x0 := (blk_cl (k := 0) HPB.out rfl).1
      go_wp2_with fail
      refine (flowS_any _ _ _ ⟨f.ver, gfTo f.steps names k⟩ _ _ HROW.out.hat2 (HGD.out k).1).mono ?_
      rintro e w7 ⟨rfl, hb7⟩
      rw [HGK.out]
      have HP7 := Lib.hid ((hb7.block _ hpl).trans HPB.out)
      have HR7 := Lib.hid (HROW.out.below hb7)
      rw [HGK.out] at HR7
      have hbx := HBO.out.trans (hb7.mono hso')
      clear x0 x1
      have x0 := (blk_cl (k := 0) HP7.out rfl).1
      have x1 := (blk_cl (k := 1) HP7.out rfl).1
      cases hfin : flowB ⟨f.ver, gfAll f.steps names⟩
      · have HE := Lib.hid (gfF_no (by rw [HGB.out, hf, hg, hv, hfin]; rfl : gfB f gs vs = false))
        have HPF := Lib.hid (by rw [HGB.out, hf, hg, hv, hfin]; rfl : gfB f gs vs = false)
        have HZ9 := Lib.hid ((hbx.block _ (heap_lt HZ.out)).trans HZ.out)
        have z0 := (blk_cl (k := 0) HZ9.out rfl).1
        have z0' := (blk_cl (k := 0) HZ9.out rfl).2
        have z1 := (blk_cl (k := 1) HZ9.out rfl).1
        have z1' := (blk_cl (k := 1) HZ9.out rfl).2
        go_wp2_with fail
        have hres := set21 (u := .slice none 0 0) (set20 (u := .int .i64 0) HZ9.out)
        have e0 := (blk_cl (k := 0) hres rfl).1
        have e1 := (blk_cl (k := 1) hres rfl).1
        exact bodyPost_ret (v := .tuple #[.agg #[.int .i64 0, .slice none 0 0], .bool false]) (by simp [results, Try.results43, go_sem, e0, e1]) rfl ⟨none, 0, 0, by rw [HE.out, HPF.out], by rw [HE.out]; exact ⟨[], rfl, own_nil, fun p hp => by cases hp⟩, ((HBW.out.trans (hbx.mono HBW.out.size)).setCell (p := ⟨w.heap.size + 1, 0, none⟩) (by show w.heap.size ≤ w.heap.size + 1; omega) _).setCell (p := ⟨w.heap.size + 1, 1, none⟩) (by show w.heap.size ≤ w.heap.size + 1; omega) _⟩
      · have HPT : Hid (gfB f gs vs = true) := Lib.hid (by rw [HGB.out, hf, hg, hv, hfin]; rfl)
        have HE : Hid (gfF f gs vs = ⟨f.ver, gfAll f.steps names⟩) := Lib.hid (by rw [gfF_yes HPT.out, HNE.out])
        have HZ9 := Lib.hid ((hbx.block _ (heap_lt HZ.out)).trans HZ.out)
        have z0 := (blk_cl (k := 0) HZ9.out rfl).1
        have z0' := (blk_cl (k := 0) HZ9.out rfl).2
        have z1 := (blk_cl (k := 1) HZ9.out rfl).1
        have z1' := (blk_cl (k := 1) HZ9.out rfl).2
        go_wp2_with fail
        have hres := set21 (u := .slice A' m' d') (set20 (u := .int .i64 f.ver) HZ9.out)
        have e0 := (blk_cl (k := 0) hres rfl).1
        have e1 := (blk_cl (k := 1) hres rfl).1
        exact bodyPost_ret (v := .tuple #[.agg #[.int .i64 f.ver, .slice A' m' d'], .bool true]) (by simp [results, Try.results43, go_sem, e0, e1]) rfl ⟨A', m', d', by rw [HE.out, HPT.out], by (rw [HE.out]; exact ((HR7.out.mono HBW.out.size).set (o := 0) (u := .int .i64 f.ver) HZ9.out (by decide) (by decide)).set (o := 1) (u := .slice A' m' d') (set20 HZ9.out) (by decide) (by decide)), ((HBW.out.trans (hbx.mono HBW.out.size)).setCell (p := ⟨w.heap.size + 1, 0, none⟩) (by show w.heap.size ≤ w.heap.size + 1; omega) _).setCell (p := ⟨w.heap.size + 1, 1, none⟩) (by show w.heap.size ≤ w.heap.size + 1; omega) _⟩
end Go.Proofs.Ytakeijgoonagcaa

/- A step and a flow cloned: the program's. -/
namespace Go.Proofs.Ytakeijgoonagcaa
open Go.RowKit

set_option maxRecDepth 100000 in
theorem stepClone_any (A : Option Addr) (n c : Nat) (s : Step) (lo : Nat) (w : World) (hr : RStr w lo A n s.after) (hn : n ≤ 1048576) :
    Calls Try.prog 108 #[.agg #[.string s.name, .slice A n c, .bool s.undo]] w fun e w' => ∃ A' c', e = .returned (.agg #[.string s.name, .slice A' n c', .bool s.undo]) ∧ SStr w' w.heap.size A' n s.after ∧ Below w.heap.size w w' := by
  have HX := Lib.hid (heap_old (o := .cells #[.string ⟨#[]⟩, .slice none 0 0, .bool false] 75) (heap_new (w := w) (o := .cells #[.string s.name, .slice A n c, .bool s.undo] 75) rfl))
  have HZ := Lib.hid (heap_new (w := w.alloc (.cells #[.string s.name, .slice A n c, .bool s.undo] 75)) (b := w.heap.size + 1) (o := .cells #[.string ⟨#[]⟩, .slice none 0 0, .bool false] 75) (by simp))
  have HB := Lib.hid (((Below.refl w.heap.size w).alloc (Nat.le_refl _) (.cells #[.string s.name, .slice A n c, .bool s.undo] 75)).alloc (by simp) (.cells #[.string ⟨#[]⟩, .slice none 0 0, .bool false] 75))
  have HR := Lib.hid ((hr.alloc (.cells #[.string s.name, .slice A n c, .bool s.undo] 75)).alloc (.cells #[.string ⟨#[]⟩, .slice none 0 0, .bool false] 75)); clear hr
  go_enter Try.func108, Try.ntmps108
  go_upto_region 1 with fail
  generalize (w.alloc (.cells #[.string s.name, .slice A n c, .bool s.undo] 75)).alloc (.cells #[.string ⟨#[]⟩, .slice none 0 0, .bool false] 75) = W at *
  have x1 := (blk_cl (k := 1) HX.out rfl).1
  go_wp2_with fail
  refine (cloneNames_any _ _ _ s.after _ _ HR.out hn).mono ?_
  rintro e w3 ⟨v3, rfl, how3⟩
  have hb3 := how3.below
  have HX3 := Lib.hid ((hb3.block _ (heap_lt HX.out)).trans HX.out)
  have HZ3 := Lib.hid ((hb3.block _ (heap_lt HZ.out)).trans HZ.out)
  have HB3 := Lib.hid (HB.out.trans (hb3.mono HB.out.size))
  obtain ⟨A3, c3, rfl, hss⟩ := own_sstr how3.row
  have HS3 := Lib.hid (hss.mono HB.out.size)
  clear how3 hb3 hss x1
  have a1 := (blk_cl (k := 1) HX3.out rfl).1
  have a1' := (blk_cl (k := 1) HX3.out rfl).2
  have HX4 := Lib.hid (set31 (u := .slice A3 n c3) HX3.out)
  have HZ4 := Lib.hid (set_ne (b := w.heap.size) (o := 1) (u := .slice A3 n c3) HZ3.out (by omega))
  have y0 := (blk_cl (k := 0) HX4.out rfl).1
  have y0' := (blk_cl (k := 0) HX4.out rfl).2
  have y1 := (blk_cl (k := 1) HX4.out rfl).1
  have y1' := (blk_cl (k := 1) HX4.out rfl).2
  have y2 := (blk_cl (k := 2) HX4.out rfl).1
  have y2' := (blk_cl (k := 2) HX4.out rfl).2
  have z0 := (blk_cl (k := 0) HZ4.out rfl).1
  have z0' := (blk_cl (k := 0) HZ4.out rfl).2
  have z1 := (blk_cl (k := 1) HZ4.out rfl).1
  have z1' := (blk_cl (k := 1) HZ4.out rfl).2
  have z2 := (blk_cl (k := 2) HZ4.out rfl).1
  have z2' := (blk_cl (k := 2) HZ4.out rfl).2
  go_wp2_with fail
  have hres := set3 (u0 := .string s.name) (u1 := .slice A3 n c3) (u2 := .bool s.undo) HZ4.out
  have e0 := (blk_cl (k := 0) hres rfl).1
  have e1 := (blk_cl (k := 1) hres rfl).1
  have e2 := (blk_cl (k := 2) hres rfl).1
  have q1 : w.heap.size ≤ w.heap.size + 1 := by omega
  have hbl := (((HB3.out.setCell (p := ⟨w.heap.size, 1, none⟩) (Nat.le_refl _) (.slice A3 n c3)).setCell (p := ⟨w.heap.size + 1, 0, none⟩) q1 (.string s.name)).setCell (p := ⟨w.heap.size + 1, 1, none⟩) q1 (.slice A3 n c3)).setCell (p := ⟨w.heap.size + 1, 2, none⟩) q1 (.bool s.undo)
  exact bodyPost_ret (v := .agg #[.string s.name, .slice A3 n c3, .bool s.undo]) (by simp [results, Try.results108, go_sem, e0, e1, e2]) rfl ⟨_, _, rfl, HS3.out.kept (fun b cs _ hc => by
    have n1 : b ≠ w.heap.size := fun e => by rw [e, HX3.out] at hc; injection hc with hc; injection hc with _ hc _; exact absurd hc (by decide)
    have n2 : b ≠ w.heap.size + 1 := fun e => by rw [e, HZ3.out] at hc; injection hc with hc; injection hc with _ hc _; exact absurd hc (by decide)
    rw [Below.heap_setCell _ _ _ _ n2, Below.heap_setCell _ _ _ _ n2, Below.heap_setCell _ _ _ _ n2, Below.heap_setCell _ _ _ _ n1]), hbl⟩

set_option maxRecDepth 100000 in
set_option maxHeartbeats 4000000 in
theorem flowClone_any (A : Option Addr) (n c : Nat) (f : Flow) (lo : Nat) (w : World) (hr : RStep w lo A n f.steps) (hok : okSteps f.steps) :
    Calls Try.prog 98 #[.agg #[.int .i64 f.ver, .slice A n c]] w fun e w' => ∃ B d, e = .returned (.agg #[.int .i64 f.ver, .slice B n d]) ∧ SRow w' w.heap.size (.slice B n d) n f.steps ∧ Below w.heap.size w w' := by
  have HL := Lib.hid hr.1
  have HOK := Lib.hid hok; clear hok
  have hn : n ≤ 1048576 := by have := HOK.out.1; rw [HL.out] at this; exact this
  have HR := Lib.hid hr; clear hr
  have HF0 := Lib.hid (heap_old (o := .cells #[.int .i64 0, .slice none 0 0] 34) (heap_new (w := w) (o := .cells #[.int .i64 f.ver, .slice A n c] 34) rfl))
  have HZ0 := Lib.hid (heap_old (o := .cells #[.int .i64 f.ver, .slice none 0 0] 34) (heap_new (w := (w.alloc (.cells #[.int .i64 f.ver, .slice A n c] 34))) (b := w.heap.size + 1) (o := .cells #[.int .i64 0, .slice none 0 0] 34) (by simp)))
  have HX0 := Lib.hid (heap_new (w := ((w.alloc (.cells #[.int .i64 f.ver, .slice A n c] 34)).alloc (.cells #[.int .i64 0, .slice none 0 0] 34))) (b := w.heap.size + 1 + 1) (o := .cells #[.int .i64 f.ver, .slice none 0 0] 34) (by simp))
  have HB0 := Lib.hid ((((Below.refl w.heap.size w).alloc (Nat.le_refl _) (.cells #[.int .i64 f.ver, .slice A n c] 34)).alloc (by simp) (.cells #[.int .i64 0, .slice none 0 0] 34)).alloc (by simp; omega) (.cells #[.int .i64 f.ver, .slice none 0 0] 34))
  have HN0 : Hid (SRow (((w.alloc (.cells #[.int .i64 f.ver, .slice A n c] 34)).alloc (.cells #[.int .i64 0, .slice none 0 0] 34)).alloc (.cells #[.int .i64 f.ver, .slice none 0 0] 34)) w.heap.size (.slice none 0 0) 0 []) := Lib.hid ⟨[], rfl, own_nil, fun p hp => by cases hp⟩
  have f0 := (blk_cl (k := 0) HF0.out rfl).1
  have f1 := (blk_cl (k := 1) (heap_old (o := .cells #[.int .i64 f.ver, .slice none 0 0] 34) HF0.out) rfl).1
  go_enter Try.func98, Try.ntmps98
  go_wp2_with fail
  go_loopw [12] (fun i wr => ∃ k : Nat, ∃ B : Option Addr, ∃ d : Nat, k ≤ n ∧ i = .int .i64 (k : Int) ∧ SRow wr w.heap.size (.slice B k d) k (f.steps.take k) ∧ Below w.heap.size w wr ∧ wr.heap[w.heap.size + 1]? = some (.cells #[.int .i64 0, .slice none 0 0] 34) ∧ wr.heap[w.heap.size + 1 + 1]? = some (.cells #[.int .i64 f.ver, .slice B k d] 34)) (fun i _ => n - (intOf i).toNat)
  case atStart => exact ⟨0, _, 0, Nat.zero_le _, rfl, HN0.out, HB0.out, HZ0.out, HX0.out⟩
  case round =>
    obtain ⟨wo, rfl⟩ : ∃ wo : World, wo = wr := ⟨_, rfl⟩
    obtain ⟨k, B, d, hk, rfl, hrow, hbw0, hz, hx⟩ := hrel
    clear f0 f1
    by_cases hlt : k < n
    · obtain ⟨b, off, rfl, ⟨_, hbl⟩, hc⟩ := RStep.at_ HR.out hlt
      obtain ⟨A', n', c', ⟨d1, d2, d3⟩, hdr, _⟩ := hc k hlt
      clear hc
      have d1 := (hbw0.cell (p := ⟨b, off + k * 3, none⟩) hbl).trans d1
      have d2 := (hbw0.cell (p := ⟨b, off + k * 3 + 1, none⟩) hbl).trans d2
      have d3 := (hbw0.cell (p := ⟨b, off + k * 3 + 2, none⟩) hbl).trans d3
      have hkl : k < f.steps.length := by rw [HL.out]; exact hlt
      have hn' : n' ≤ 1048576 := by rw [← hdr.1]; exact (HOK.out.2 k hkl).2.1
      have HT := Lib.hid (take_nth hkl)
      have hk0 : (0 : Int) ≤ (k : Int) := by omega
      have hk1 : (k : Int) < (n : Int) := by omega
      have hk2 : ¬ ((k : Int) < 0) := by omega
      have HDR := Lib.hid ((hdr.below hbw0).alloc (.cells #[.string (nth f.steps k).name, .slice A' n' c', .bool (nth f.steps k).undo] 75))
      have HNPB : Hid ((Value.slice B k d).ownBlock ≠ some wo.heap.size) := Lib.hid (fun e => by have := (SRow.lt hrow e).2; omega)
      have HROW := Lib.hid (hrow.below ((Below.refl _ _).alloc (Nat.le_refl _) (.cells #[.string (nth f.steps k).name, .slice A' n' c', .bool (nth f.steps k).undo] 75)))
      have HBW := Lib.hid (hbw0.alloc hbw0.size (.cells #[.string (nth f.steps k).name, .slice A' n' c', .bool (nth f.steps k).undo] 75))
      have HZ := Lib.hid (heap_old (o := .cells #[.string (nth f.steps k).name, .slice A' n' c', .bool (nth f.steps k).undo] 75) hz)
      have HX := Lib.hid (heap_old (o := .cells #[.string (nth f.steps k).name, .slice A' n' c', .bool (nth f.steps k).undo] 75) hx)
      have HP := Lib.hid (heap_new (w := wo) (o := .cells #[.string (nth f.steps k).name, .slice A' n' c', .bool (nth f.steps k).undo] 75) rfl)
      have hp2 : w.heap.size + 1 + 1 < wo.heap.size := heap_lt hx
      clear hdr hrow hz hx hbw0
      go_upto_region 5 with fail
      generalize wo.alloc (.cells #[.string (nth f.steps k).name, .slice A' n' c', .bool (nth f.steps k).undo] 75) = wq at *
      generalize wo.heap.size = pb at *
      clear d1 d2 d3
      have hsw := HBW.out.size
      have hxl := heap_lt HX.out
      have hpl := heap_lt HP.out
      have x1 := (blk_cl (k := 1) HX.out rfl).1
      have HSB : Hid (∀ w', Below wq.heap.size wq w' → (fun w' : World => w'.cell? ⟨pb, 0, none⟩ = some (.string (nth f.steps k).name) ∧ w'.cell? ⟨pb, 1, none⟩ = some (.slice A' n' c') ∧ w'.cell? ⟨pb, 2, none⟩ = some (.bool (nth f.steps k).undo)) w') := Lib.hid (fun w' h => by
        have e1 := (h.block _ hpl).trans HP.out
        exact ⟨(blk_cl (k := 0) e1 rfl).1, (blk_cl (k := 1) e1 rfl).1, (blk_cl (k := 2) e1 rfl).1⟩)
      have HKF : Hid (∀ w' o u, (fun w' : World => w'.cell? ⟨pb, 0, none⟩ = some (.string (nth f.steps k).name) ∧ w'.cell? ⟨pb, 1, none⟩ = some (.slice A' n' c') ∧ w'.cell? ⟨pb, 2, none⟩ = some (.bool (nth f.steps k).undo)) w' → (fun w' : World => w'.cell? ⟨pb, 0, none⟩ = some (.string (nth f.steps k).name) ∧ w'.cell? ⟨pb, 1, none⟩ = some (.slice A' n' c') ∧ w'.cell? ⟨pb, 2, none⟩ = some (.bool (nth f.steps k).undo)) (w'.setCell ⟨w.heap.size + 1 + 1, o, none⟩ u)) := Lib.hid (fun w' o u h => ⟨(cellFar1 (by omega)).trans h.1, (cellFar1 (by omega)).trans h.2.1, (cellFar1 (by omega)).trans h.2.2⟩)
      have HKG : Hid (∀ (w5 w7 : World) (o : Obj), Below wq.heap.size wq w5 → (w5.alloc o).grownBy w7 (Value.slice B k d).ownBlock → (fun w' : World => w'.cell? ⟨pb, 0, none⟩ = some (.string (nth f.steps k).name) ∧ w'.cell? ⟨pb, 1, none⟩ = some (.slice A' n' c') ∧ w'.cell? ⟨pb, 2, none⟩ = some (.bool (nth f.steps k).undo)) w7) := Lib.hid (fun w5 w7 o h hg => by
        have hne : (Value.slice B k d).ownBlock ≠ some pb := HNPB.out
        have e1 := grown_blk hg (heap_old (o := o) ((h.block _ hpl).trans HP.out)) hne
        exact ⟨(blk_cl (k := 0) e1 rfl).1, (blk_cl (k := 1) e1 rfl).1, (blk_cl (k := 2) e1 rfl).1⟩)
      go_wp2_with fail
      refine wp_region_held_drew (S := fun w' : World => w'.cell? ⟨pb, 0, none⟩ = some (.string (nth f.steps k).name) ∧ w'.cell? ⟨pb, 1, none⟩ = some (.slice A' n' c') ∧ w'.cell? ⟨pb, 2, none⟩ = some (.bool (nth f.steps k).undo)) (by kernel_rfl) (HSB.out _ (Below.refl _ _).drew) (fun hH => ?_)
      refine wpAnyH_takeE (i := 0) (d := some 16) (v := ?v201) rfl (by rfl) (by kernel_rfl) (by kernel_rfl) (by kernel_rfl) (fun _ _ _ h => h) (Or.inl ⟨by rfl, ?y201⟩) hH ?r201
      case y201 => (intro w' hS; (try dsimp only at hS); go_simp; (try with_reducible rfl))
      (try simp only [Act.put, List.setIfInBounds_toArray, List.set_cons_zero, List.set_cons_succ])
      refine wpAnyH_takeE (i := 2) (d := some 18) (v := ?v202) rfl (by rfl) (by kernel_rfl) (by kernel_rfl) (by kernel_rfl) (fun _ _ _ h => h) (Or.inl ⟨by rfl, ?y202⟩) hH ?r202
      case y202 => (intro w' hS; (try dsimp only at hS); go_simp; (try with_reducible rfl))
      (try simp only [Act.put, List.setIfInBounds_toArray, List.set_cons_zero, List.set_cons_succ])
      refine wpAnyH_ready (rs := [1, 3]) (by kernel_rfl) (by simp) ?_
      refine AllReadyH.cons rfl (fun K hK => ?_) ?_
      · go_simp
        refine hK.out _ _ (HSB.out _ (Below.refl _ _).drew) (fun hH2 => ?_)
        clear hK K hH
        have hH := hH2
        (try simp only [Act.put, List.setIfInBounds_toArray, List.set_cons_zero, List.set_cons_succ])
        refine wpAnyH_ready (rs := [3]) (by kernel_rfl) (by simp) ?_
        refine AllReadyH.cons rfl (fun K hK => ?_) AllReadyH.nil
        go_wp2_with fail
        go_at_call 108
        refine (stepClone_any _ _ _ (nth f.steps k) _ _ (HDR.out.below (by repeat (first | with_reducible exact Below.refl _ _ | apply Below.drew | apply Below.al2_))) hn').mono ?_
        rintro e w5 ⟨A5, c5, rfl, hss5, hb5⟩
        have hbw : Below wq.heap.size wq w5 := (Below.refl wq.heap.size wq).drew.trans hb5
        have HX5 := Lib.hid ((hbw.block _ hxl).trans HX.out)
        have y1 := (blk_cl (k := 1) HX5.out rfl).1
        have y2 := (blk_cl (k := 1) (heap_old (o := .cells #[.string (nth f.steps k).name, .slice A5 n' c5, .bool (nth f.steps k).undo] 75) HX5.out) rfl).1
        go_wp2_with fail
        refine hK.out _ _ (HSB.out _ hbw) (fun hH2 => ?_)
        clear hK K hH
        have hH := hH2
        (try simp only [Act.put, List.setIfInBounds_toArray, List.set_cons_zero, List.set_cons_succ])
        refine wpAnyH_ready (rs := [4]) (by kernel_rfl) (by simp) ?_
        refine AllReadyH.cons rfl (fun K hK => ?_) AllReadyH.nil
        go_simp
        refine hK.out _ _ (HSB.out _ (Below.al2_ hbw _)) (fun hH2 => ?_)
        clear hK K hH
        have hH := hH2
        (try simp only [Act.put, List.setIfInBounds_toArray, List.set_cons_zero, List.set_cons_succ])
        refine wpAnyH_ready (rs := [5]) (by kernel_rfl) (by simp) ?_
        refine AllReadyH.cons rfl (fun K hK => ?_) AllReadyH.nil
        refine wapp_step w.heap.size (.slice B k d) k (f.steps.take k) _ (nth f.steps k) A5 n' c5 ((HROW.out.below hbw).below ((Below.refl _ _).alloc (Nat.le_refl _) _)) ((hss5.mono hsw).below ((Below.refl _ _).alloc (Nat.le_refl _) _)) (.tmp 17) (.tmp 20) rfl rfl rfl (heap_new rfl) (by omega) (by (have h1 := hbw.size; simp; omega)) ?_
        intro v7 w7 how7 hg7 hat7
        have HX7 := Lib.hid (grown_blk hg7 (heap_old (o := .cells #[.string (nth f.steps k).name, .slice A5 n' c5, .bool (nth f.steps k).undo] 75) HX5.out) (HROW.out.ne HX.out (by decide)))
        have z1 := (blk_cl (k := 1) HX7.out rfl).1
        have z1' := (blk_cl (k := 1) HX7.out rfl).2
        have hk7 := HKG.out _ _ _ hbw hg7
        refine hK.out _ _ (hk7) (fun hH2 => ?_)
        clear hK K hH
        have hH := hH2
        (try simp only [Act.put, List.setIfInBounds_toArray])
        refine wpAnyH_takeE (i := 6) (d := some 22) (v := ?v203) rfl (by rfl) (by kernel_rfl) (by kernel_rfl) (by kernel_rfl) (fun _ _ _ h => h) (Or.inl ⟨by rfl, ?y203⟩) hH ?r203
        case y203 => (intro w' hS; (try dsimp only at hS); go_simp; (try with_reducible rfl))
        (try simp only [Act.put])
        obtain ⟨B7, d7, rfl, _⟩ := how7.hat
        refine wpAnyH_ready (rs := [7]) (by kernel_rfl) (by simp) ?_
        refine AllReadyH.cons rfl (fun K hK => ?_) AllReadyH.nil
        go_simp
        (try simp only [Oper.upon])
        refine hK.out _ _ (HKF.out _ _ _ hk7) (fun _ => ?_)
        clear hK K hH
        (try simp only [Act.put, List.setIfInBounds_toArray, List.set_cons_zero, List.set_cons_succ])
        refine wpAnyH_done (by kernel_rfl) ?_ _
        have HB5 := HBW.out.trans (hbw.mono hsw)
        have HB7a := (HB5.alloc HB5.size (.cells #[.string (nth f.steps k).name, .slice A5 n' c5, .bool (nth f.steps k).undo] 75)).grown hg7 (by have := HB5.size; simp; omega) (fun b hb => (SRow.lt HROW.out hb).1)
        have HB7 := Lib.hid (HB7a.setCell (p := ⟨w.heap.size + 1 + 1, 1, none⟩) (by show w.heap.size ≤ w.heap.size + 1 + 1; omega) (.slice B7 (k + 1) d7))
        have HZ7 := Lib.hid (set_ne (b := w.heap.size + 1 + 1) (o := 1) (u := .slice B7 (k + 1) d7) (grown_blk hg7 (heap_old (o := .cells #[.string (nth f.steps k).name, .slice A5 n' c5, .bool (nth f.steps k).undo] 75) ((hbw.block _ (heap_lt HZ.out)).trans HZ.out)) (HROW.out.ne HZ.out (by decide))) (by omega))
        have HX8 := Lib.hid (set21 (u := .slice B7 (k + 1) d7) HX7.out)
        have HK8 := Lib.hid (how7.set (o := 1) (u := .slice B7 (k + 1) d7) HX7.out (by decide) (by decide))
        clear how7 hg7 hat7 hk7 hss5 hb5 hbw HB5 HB7a
        go_wp2_with fail
        go_roundw
        case rel => exact ⟨k + 1, B7, d7, by omega, by go_num, by rw [HT.out]; exact HK8.out, HB7.out, HZ7.out, HX8.out⟩
        case measure => simp [intOf]; omega
      · refine AllReadyH.cons rfl (fun K hK => ?_) AllReadyH.nil
        go_wp2_with fail
        go_at_call 108
        refine (stepClone_any _ _ _ (nth f.steps k) _ _ (HDR.out.below (by repeat (first | with_reducible exact Below.refl _ _ | apply Below.drew | apply Below.al2_))) hn').mono ?_
        rintro e w5 ⟨A5, c5, rfl, hss5, hb5⟩
        have hbw : Below wq.heap.size wq w5 := (Below.refl wq.heap.size wq).drew.trans hb5
        have HX5 := Lib.hid ((hbw.block _ hxl).trans HX.out)
        have y1 := (blk_cl (k := 1) HX5.out rfl).1
        have y2 := (blk_cl (k := 1) (heap_old (o := .cells #[.string (nth f.steps k).name, .slice A5 n' c5, .bool (nth f.steps k).undo] 75) HX5.out) rfl).1
        go_wp2_with fail
        refine hK.out _ _ (HSB.out _ hbw) (fun hH2 => ?_)
        clear hK K hH
        have hH := hH2
        (try simp only [Act.put, List.setIfInBounds_toArray, List.set_cons_zero, List.set_cons_succ])
        refine wpAnyH_ready (rs := [1, 4]) (by kernel_rfl) (by simp) ?_
        refine AllReadyH.cons rfl (fun K hK => ?_) ?_
        · go_simp
          refine hK.out _ _ (HSB.out _ hbw) (fun hH2 => ?_)
          clear hK K hH
          have hH := hH2
          (try simp only [Act.put, List.setIfInBounds_toArray, List.set_cons_zero, List.set_cons_succ])
          refine wpAnyH_ready (rs := [4]) (by kernel_rfl) (by simp) ?_
          refine AllReadyH.cons rfl (fun K hK => ?_) AllReadyH.nil
          go_simp
          refine hK.out _ _ (HSB.out _ (Below.al2_ hbw _)) (fun hH2 => ?_)
          clear hK K hH
          have hH := hH2
          (try simp only [Act.put, List.setIfInBounds_toArray, List.set_cons_zero, List.set_cons_succ])
          refine wpAnyH_ready (rs := [5]) (by kernel_rfl) (by simp) ?_
          refine AllReadyH.cons rfl (fun K hK => ?_) AllReadyH.nil
          refine wapp_step w.heap.size (.slice B k d) k (f.steps.take k) _ (nth f.steps k) A5 n' c5 ((HROW.out.below hbw).below ((Below.refl _ _).alloc (Nat.le_refl _) _)) ((hss5.mono hsw).below ((Below.refl _ _).alloc (Nat.le_refl _) _)) (.tmp 17) (.tmp 20) rfl rfl rfl (heap_new rfl) (by omega) (by (have h1 := hbw.size; simp; omega)) ?_
          intro v7 w7 how7 hg7 hat7
          have HX7 := Lib.hid (grown_blk hg7 (heap_old (o := .cells #[.string (nth f.steps k).name, .slice A5 n' c5, .bool (nth f.steps k).undo] 75) HX5.out) (HROW.out.ne HX.out (by decide)))
          have z1 := (blk_cl (k := 1) HX7.out rfl).1
          have z1' := (blk_cl (k := 1) HX7.out rfl).2
          have hk7 := HKG.out _ _ _ hbw hg7
          refine hK.out _ _ (hk7) (fun hH2 => ?_)
          clear hK K hH
          have hH := hH2
          (try simp only [Act.put, List.setIfInBounds_toArray])
          refine wpAnyH_takeE (i := 6) (d := some 22) (v := ?v204) rfl (by rfl) (by kernel_rfl) (by kernel_rfl) (by kernel_rfl) (fun _ _ _ h => h) (Or.inl ⟨by rfl, ?y204⟩) hH ?r204
          case y204 => (intro w' hS; (try dsimp only at hS); go_simp; (try with_reducible rfl))
          (try simp only [Act.put])
          obtain ⟨B7, d7, rfl, _⟩ := how7.hat
          refine wpAnyH_ready (rs := [7]) (by kernel_rfl) (by simp) ?_
          refine AllReadyH.cons rfl (fun K hK => ?_) AllReadyH.nil
          go_simp
          (try simp only [Oper.upon])
          refine hK.out _ _ (HKF.out _ _ _ hk7) (fun _ => ?_)
          clear hK K hH
          (try simp only [Act.put, List.setIfInBounds_toArray, List.set_cons_zero, List.set_cons_succ])
          refine wpAnyH_done (by kernel_rfl) ?_ _
          have HB5 := HBW.out.trans (hbw.mono hsw)
          have HB7a := (HB5.alloc HB5.size (.cells #[.string (nth f.steps k).name, .slice A5 n' c5, .bool (nth f.steps k).undo] 75)).grown hg7 (by have := HB5.size; simp; omega) (fun b hb => (SRow.lt HROW.out hb).1)
          have HB7 := Lib.hid (HB7a.setCell (p := ⟨w.heap.size + 1 + 1, 1, none⟩) (by show w.heap.size ≤ w.heap.size + 1 + 1; omega) (.slice B7 (k + 1) d7))
          have HZ7 := Lib.hid (set_ne (b := w.heap.size + 1 + 1) (o := 1) (u := .slice B7 (k + 1) d7) (grown_blk hg7 (heap_old (o := .cells #[.string (nth f.steps k).name, .slice A5 n' c5, .bool (nth f.steps k).undo] 75) ((hbw.block _ (heap_lt HZ.out)).trans HZ.out)) (HROW.out.ne HZ.out (by decide))) (by omega))
          have HX8 := Lib.hid (set21 (u := .slice B7 (k + 1) d7) HX7.out)
          have HK8 := Lib.hid (how7.set (o := 1) (u := .slice B7 (k + 1) d7) HX7.out (by decide) (by decide))
          clear how7 hg7 hat7 hk7 hss5 hb5 hbw HB5 HB7a
          go_wp2_with fail
          go_roundw
          case rel => exact ⟨k + 1, B7, d7, by omega, by go_num, by rw [HT.out]; exact HK8.out, HB7.out, HZ7.out, HX8.out⟩
          case measure => simp [intOf]; omega
        · refine AllReadyH.cons rfl (fun K hK => ?_) AllReadyH.nil
          go_simp
          refine hK.out _ _ (HSB.out _ (Below.al2_ hbw _)) (fun hH2 => ?_)
          clear hK K hH
          have hH := hH2
          (try simp only [Act.put, List.setIfInBounds_toArray, List.set_cons_zero, List.set_cons_succ])
          refine wpAnyH_ready (rs := [1]) (by kernel_rfl) (by simp) ?_
          refine AllReadyH.cons rfl (fun K hK => ?_) AllReadyH.nil
          go_simp
          refine hK.out _ _ (HSB.out _ (Below.al2_ hbw _)) (fun hH2 => ?_)
          clear hK K hH
          have hH := hH2
          (try simp only [Act.put, List.setIfInBounds_toArray, List.set_cons_zero, List.set_cons_succ])
          refine wpAnyH_ready (rs := [5]) (by kernel_rfl) (by simp) ?_
          refine AllReadyH.cons rfl (fun K hK => ?_) AllReadyH.nil
          refine wapp_step w.heap.size (.slice B k d) k (f.steps.take k) _ (nth f.steps k) A5 n' c5 ((HROW.out.below hbw).below ((Below.refl _ _).alloc (Nat.le_refl _) _)) ((hss5.mono hsw).below ((Below.refl _ _).alloc (Nat.le_refl _) _)) (.tmp 17) (.tmp 20) rfl rfl rfl (heap_new rfl) (by omega) (by (have h1 := hbw.size; simp; omega)) ?_
          intro v7 w7 how7 hg7 hat7
          have HX7 := Lib.hid (grown_blk hg7 (heap_old (o := .cells #[.string (nth f.steps k).name, .slice A5 n' c5, .bool (nth f.steps k).undo] 75) HX5.out) (HROW.out.ne HX.out (by decide)))
          have z1 := (blk_cl (k := 1) HX7.out rfl).1
          have z1' := (blk_cl (k := 1) HX7.out rfl).2
          have hk7 := HKG.out _ _ _ hbw hg7
          refine hK.out _ _ (hk7) (fun hH2 => ?_)
          clear hK K hH
          have hH := hH2
          (try simp only [Act.put, List.setIfInBounds_toArray])
          refine wpAnyH_takeE (i := 6) (d := some 22) (v := ?v205) rfl (by rfl) (by kernel_rfl) (by kernel_rfl) (by kernel_rfl) (fun _ _ _ h => h) (Or.inl ⟨by rfl, ?y205⟩) hH ?r205
          case y205 => (intro w' hS; (try dsimp only at hS); go_simp; (try with_reducible rfl))
          (try simp only [Act.put])
          obtain ⟨B7, d7, rfl, _⟩ := how7.hat
          refine wpAnyH_ready (rs := [7]) (by kernel_rfl) (by simp) ?_
          refine AllReadyH.cons rfl (fun K hK => ?_) AllReadyH.nil
          go_simp
          (try simp only [Oper.upon])
          refine hK.out _ _ (HKF.out _ _ _ hk7) (fun _ => ?_)
          clear hK K hH
          (try simp only [Act.put, List.setIfInBounds_toArray, List.set_cons_zero, List.set_cons_succ])
          refine wpAnyH_done (by kernel_rfl) ?_ _
          have HB5 := HBW.out.trans (hbw.mono hsw)
          have HB7a := (HB5.alloc HB5.size (.cells #[.string (nth f.steps k).name, .slice A5 n' c5, .bool (nth f.steps k).undo] 75)).grown hg7 (by have := HB5.size; simp; omega) (fun b hb => (SRow.lt HROW.out hb).1)
          have HB7 := Lib.hid (HB7a.setCell (p := ⟨w.heap.size + 1 + 1, 1, none⟩) (by show w.heap.size ≤ w.heap.size + 1 + 1; omega) (.slice B7 (k + 1) d7))
          have HZ7 := Lib.hid (set_ne (b := w.heap.size + 1 + 1) (o := 1) (u := .slice B7 (k + 1) d7) (grown_blk hg7 (heap_old (o := .cells #[.string (nth f.steps k).name, .slice A5 n' c5, .bool (nth f.steps k).undo] 75) ((hbw.block _ (heap_lt HZ.out)).trans HZ.out)) (HROW.out.ne HZ.out (by decide))) (by omega))
          have HX8 := Lib.hid (set21 (u := .slice B7 (k + 1) d7) HX7.out)
          have HK8 := Lib.hid (how7.set (o := 1) (u := .slice B7 (k + 1) d7) HX7.out (by decide) (by decide))
          clear how7 hg7 hat7 hk7 hss5 hb5 hbw HB5 HB7a
          go_wp2_with fail
          go_roundw
          case rel => exact ⟨k + 1, B7, d7, by omega, by go_num, by rw [HT.out]; exact HK8.out, HB7.out, HZ7.out, HX8.out⟩
          case measure => simp [intOf]; omega
    · have HROW := Lib.hid hrow; clear hrow
      have HBW := Lib.hid hbw0; clear hbw0
      have HZ := Lib.hid hz; clear hz
      have HX := Lib.hid hx; clear hx
      obtain rfl : k = n := by omega
      have hkm : f.steps.take k = f.steps := by rw [← HL.out]; exact List.take_length
      rw [hkm] at HROW
      have z0 := (blk_cl (k := 0) HZ.out rfl).1
      have z0' := (blk_cl (k := 0) HZ.out rfl).2
      have z1 := (blk_cl (k := 1) HZ.out rfl).1
      have z1' := (blk_cl (k := 1) HZ.out rfl).2
      have x0 := (blk_cl (k := 0) HX.out rfl).1
      have x0' := (blk_cl (k := 0) HX.out rfl).2
      have x1 := (blk_cl (k := 1) HX.out rfl).1
      have x1' := (blk_cl (k := 1) HX.out rfl).2
      go_wp2_with fail
      have h1 := set_at (o := 0) (u := .int .i64 f.ver) HZ.out
      have hres := set21 (u := .slice B k d) (set20 (u := .int .i64 f.ver) HZ.out)
      have e0 := (blk_cl (k := 0) hres rfl).1
      have e1 := (blk_cl (k := 1) hres rfl).1
      have q1 : w.heap.size ≤ w.heap.size + 1 := by omega
      exact bodyPost_ret (v := .agg #[.int .i64 f.ver, .slice B k d]) (by simp [results, Try.results98, go_sem, e0, e1]) rfl
        ⟨_, _, rfl, (HROW.out.set (o := 0) (u := .int .i64 f.ver) HZ.out (by decide) (by decide)).set (o := 1) (u := .slice B k d) h1 (by decide) (by decide), (HBW.out.setCell (p := ⟨w.heap.size + 1, 0, none⟩) q1 _).setCell (p := ⟨w.heap.size + 1, 1, none⟩) q1 _⟩
end Go.Proofs.Ytakeijgoonagcaa

/- What sorting and compacting leave. No program in sight. -/
namespace Go.Proofs.Ytakeijgoonagcaa

section
variable {α : Type} [Inhabited α] [DecidableEq α] (le : α → α → Prop)
theorem compact_asc (d : Array α) (hd : ∀ i j, i < j → j < d.size → le d[i]! d[j]!) : ∀ m, m ≤ d.size →
    (Lib.compactUpTo d m).Pairwise le ∧ (∀ z, z ∈ Lib.compactUpTo d m ↔ ∃ i, i < m ∧ d[i]! = z)
  | 0, _ => ⟨by simp [Lib.compactUpTo], fun z => by simp [Lib.compactUpTo]⟩
  | m + 1, hm => by
    obtain ⟨h1, h2⟩ := compact_asc d hd m (by omega)
    rw [Lib.compactUpTo_succ]
    by_cases hk : Lib.keeps d m = true
    · rw [if_pos hk]
      refine ⟨List.pairwise_append.2 ⟨h1, by simp, fun a ha b hb => ?_⟩, fun z => ?_⟩
      · rw [List.mem_singleton.1 hb]
        obtain ⟨i, hi, rfl⟩ := (h2 a).1 ha
        exact hd i m hi (by omega)
      · rw [List.mem_append, h2, List.mem_singleton]
        constructor
        · rintro (⟨i, hi, e⟩ | e)
          · exact ⟨i, by omega, e⟩
          · exact ⟨m, by omega, e.symm⟩
        · rintro ⟨i, hi, e⟩
          by_cases him : i = m
          · right; rw [← e, him]
          · left; exact ⟨i, by omega, e⟩
    · rw [if_neg hk, List.append_nil]
      refine ⟨h1, fun z => ?_⟩
      rw [h2]
      have hk2 : ¬ (m = 0 ∨ d[m]! ≠ d[m - 1]!) := by
        intro e; apply hk; unfold Lib.keeps; exact decide_eq_true e
      constructor
      · rintro ⟨i, hi, e⟩
        exact ⟨i, by omega, e⟩
      · rintro ⟨i, hi, e⟩
        by_cases him : i = m
        · subst him
          refine ⟨i - 1, ?_, ?_⟩
          · have : i ≠ 0 := fun e => hk2 (.inl e)
            omega
          · have : d[i]! = d[i - 1]! := Classical.byContradiction fun e => hk2 (.inr e)
            rw [← this]; exact e
        · exact ⟨i, by omega, e⟩
/-- Of a list that does not descend what is left ascends. -/
theorem compact_strict (d : Array α) (hd : ∀ i j, i < j → j < d.size → le d[i]! d[j]!) (anti : ∀ a b, le a b → le b a → a = b) : ∀ m, m ≤ d.size →
    (Lib.compactUpTo d m).Pairwise (fun a b => a ≠ b)
  | 0, _ => by simp [Lib.compactUpTo]
  | m + 1, hm => by
    have h1 := compact_strict d hd anti m (by omega)
    rw [Lib.compactUpTo_succ]
    by_cases hk : Lib.keeps d m = true
    · rw [if_pos hk]
      refine List.pairwise_append.2 ⟨h1, by simp, fun a ha b hb => ?_⟩
      rw [List.mem_singleton.1 hb]
      have hm0 : ∃ i, i < m ∧ d[i]! = a := by
        unfold Lib.compactUpTo at ha
        obtain ⟨i, hi, e⟩ := List.mem_map.1 ha
        exact ⟨i, by have := (List.mem_filter.1 hi).1; simpa using this, e⟩
      obtain ⟨i, hi, rfl⟩ := hm0
      have hne : d[m]! ≠ d[m - 1]! := by
        unfold Lib.keeps at hk
        rcases of_decide_eq_true hk with e | e
        · omega
        · exact e
      intro e
      by_cases him : i = m - 1
      · rw [him] at e; exact hne e.symm
      · have a1 := hd i (m - 1) (by omega) (by omega)
        have a2 := hd (m - 1) m (by omega) (by omega)
        rw [e] at a1
        exact hne (anti _ _ a1 a2)
    · rw [if_neg hk, List.append_nil]; exact h1
end
theorem bl_lt : ∀ (x y : List UInt8), Op.bytesLess x y = decide (x < y)
  | x, [] => by simp [Op.bytesLess]
  | [], b :: y => by simp [Op.bytesLess]
  | a :: x, b :: y => by
    rw [Op.bytesLess, bl_lt x y, Bool.eq_iff_iff]
    simp [List.cons_lt_cons_iff]
theorem le_bl (x y : List UInt8) : x ≤ y ↔ Op.bytesLess y x = false := by
  rw [bl_lt, decide_eq_false_iff_not]; exact Iff.rfl
theorem sort_compact (zs : List (List UInt8)) : (Lib.compact (zs.mergeSort fun x y => decide (x ≤ y))).Pairwise (fun a b => Op.bytesLess a b = true) ∧ ∀ z, z ∈ Lib.compact (zs.mergeSort fun x y => decide (x ≤ y)) ↔ z ∈ zs := by
  have hs : (zs.mergeSort fun x y => decide (x ≤ y)).Pairwise (fun a b => a ≤ b) := by
    have := List.pairwise_mergeSort (le := fun x y : List UInt8 => decide (x ≤ y)) (by
      intro a b c h1 h2
      simp only [decide_eq_true_eq, le_bl] at h1 h2 ⊢
      cases h3 : Op.bytesLess c a
      · rfl
      · rcases bl_tri a b with e | e | e
        · have := bl_trans _ _ _ h3 e; rw [h2] at this; cases this
        · subst e; rw [h2] at h3; cases h3
        · rw [h1] at e; cases e) (by
      intro a b
      simp only [Bool.or_eq_true, decide_eq_true_eq, le_bl]
      cases h : Op.bytesLess b a
      · exact .inl rfl
      · right
        cases h2 : Op.bytesLess a b
        · rfl
        · have := bl_trans _ _ _ h h2; rw [bl_irr] at this; cases this) zs
    exact this.imp fun h => of_decide_eq_true h
  have hm : ∀ z, z ∈ (zs.mergeSort fun x y => decide (x ≤ y)) ↔ z ∈ zs := fun z => List.mem_mergeSort
  generalize (zs.mergeSort fun x y => decide (x ≤ y)) = d at *
  have hd : ∀ i j, i < j → j < d.toArray.size → d.toArray[i]! ≤ d.toArray[j]! := by
    intro i j hij hj
    simp at hj
    have := List.pairwise_iff_getElem.1 hs i j (by omega) hj hij
    simpa [getElem!_pos, hj, (by omega : i < d.length)] using this
  have h1 := compact_asc (fun a b : List UInt8 => a ≤ b) d.toArray hd d.length (by simp)
  have h2 := compact_strict (fun a b : List UInt8 => a ≤ b) d.toArray hd (by
    intro a b h1 h2
    rw [le_bl] at h1 h2
    rcases bl_tri a b with e | e | e
    · rw [h2] at e; cases e
    · exact e
    · rw [h1] at e; cases e) d.length (by simp)
  refine ⟨?_, fun z => ?_⟩
  · refine (h1.1.and h2).imp fun {a b} h => ?_
    rcases bl_tri a b with e | e | e
    · exact e
    · exact absurd e h.2
    · have := (le_bl _ _).1 h.1; rw [this] at e; cases e
  · show z ∈ Lib.compactUpTo d.toArray d.length ↔ _
    rw [h1.2, ← hm]
    constructor
    · rintro ⟨i, hi, e⟩
      have : d.toArray[i]! = d[i] := by simp [hi]
      rw [← e, this]; exact List.getElem_mem _
    · intro h
      obtain ⟨i, hi, e⟩ := List.getElem_of_mem h
      exact ⟨i, hi, by rw [← e]; simp [hi]⟩
theorem asc_ext : ∀ {xs ys : List Str}, ascP xs → ascP ys → (∀ z, z ∈ xs ↔ z ∈ ys) → xs = ys
  | [], [], _, _, _ => rfl
  | [], y :: ys, _, _, h => absurd ((h y).2 (by simp)) (by simp)
  | x :: xs, [], _, _, h => absurd ((h x).1 (by simp)) (by simp)
  | x :: xs, y :: ys, hx, hy, h => by
    obtain ⟨x1, x2⟩ := List.pairwise_cons.1 hx
    obtain ⟨y1, y2⟩ := List.pairwise_cons.1 hy
    have e : x = y := by
      rcases List.mem_cons.1 ((h x).1 (by simp)) with e | e
      · exact e
      · rcases List.mem_cons.1 ((h y).2 (by simp)) with e2 | e2
        · exact e2.symm
        · have := strLt_trans (x1 y e2) (y1 x e); rw [strLt_irr] at this; cases this
    subst e
    rw [asc_ext x2 y2 fun z => ?_]
    constructor
    · intro hz
      rcases List.mem_cons.1 ((h z).1 (List.mem_cons_of_mem _ hz)) with e | e
      · subst e; have := x1 z hz; rw [strLt_irr] at this; cases this
      · exact e
    · intro hz
      rcases List.mem_cons.1 ((h z).2 (List.mem_cons_of_mem _ hz)) with e | e
      · subst e; have := y1 z hz; rw [strLt_irr] at this; cases this
      · exact e
def ofL (l : List UInt8) : Str := ⟨l.toArray⟩
theorem ofL_toList (l : List UInt8) : (ofL l).toList = l := by rw [Lib.toList_data]; rfl
theorem ofL_of (s : Str) : ofL s.toList = s := by rw [Lib.toList_data]; rfl
theorem drop_after {name : Str} {gone after : List Str} (h : hasB after name = true) :
    (Lib.compact (((notName name after ++ gone).map fun s : Str => s.toList).mergeSort fun x y => decide (x ≤ y))).map ofL = woAfter name gone after := by
  obtain ⟨h1, h2⟩ := sort_compact ((notName name after ++ gone).map fun s : Str => s.toList)
  refine asc_ext ?_ ?_ fun z => ?_
  · refine List.pairwise_map.2 (h1.imp fun {a b} e => ?_)
    show Op.bytesLess (ofL a).toList (ofL b).toList = true
    rw [ofL_toList, ofL_toList]; exact e
  · unfold woAfter
    rw [if_pos h]
    exact putAll_sorted _ _ (putAll_sorted _ _ List.Pairwise.nil)
  · unfold woAfter
    rw [if_pos h, putAll_mem, putAll_mem]
    constructor
    · intro hz
      obtain ⟨l, hl, rfl⟩ := List.mem_map.1 hz
      obtain ⟨s, hs, rfl⟩ := List.mem_map.1 ((h2 l).1 hl)
      rw [ofL_of]
      rcases List.mem_append.1 hs with e | e
      · exact .inl (.inr e)
      · exact .inr e
    · intro hz
      refine List.mem_map.2 ⟨z.toList, (h2 _).2 (List.mem_map.2 ⟨z, ?_, rfl⟩), ofL_of z⟩
      rcases hz with (e | e) | e
      · simp at e
      · exact List.mem_append.2 (.inl e)
      · exact List.mem_append.2 (.inr e)
end Go.Proofs.Ytakeijgoonagcaa

/- The names of a flow without its closed steps. No program in sight. -/
namespace Go.Proofs.Ytakeijgoonagcaa

theorem wo_names (ss : List Step) (n : Str) : namesOf (woL ss n) = (namesOf ss).filter fun a => !decide (a = n) := by
  unfold woL namesOf
  rw [List.map_map, List.filter_map]
  rfl
theorem gfStep_names (ss : List Step) (n : Str) : namesOf (gfStep ss n) = (namesOf ss).filter fun a => !decide (a = n) := by
  unfold gfStep
  split
  · exact wo_names ss n
  · rename_i h
    have hn : n ∉ namesOf ss := fun e => h (hasB_true.2 e)
    exact (List.filter_eq_self.2 fun a ha => by
      have : a ≠ n := fun e => hn (e ▸ ha)
      simp [this]).symm
theorem gf_names : ∀ (names : List Str) (ss : List Step), namesOf (gfAll ss names) = (namesOf ss).filter fun a => !hasB names a
  | [], ss => by
    show namesOf ss = _
    exact (List.filter_eq_self.2 fun a _ => by simp [hasB]).symm
  | n :: names, ss => by
    show namesOf (gfAll (gfStep ss n) names) = _
    rw [gf_names names, gfStep_names, List.filter_filter]
    congr 1
    funext a
    unfold hasB
    by_cases e : a = n <;> simp [e]
theorem gf_has (ss : List Step) (names : List Str) (a : Str) : hasB (namesOf (gfAll ss names)) a = (hasB (namesOf ss) a && !hasB names a) := by
  rw [gf_names, Bool.eq_iff_iff, hasB_true, List.mem_filter, Bool.and_eq_true, hasB_true]
theorem gf_len (ss : List Step) (names : List Str) : (gfAll ss names).length ≤ ss.length := by
  have h := congrArg List.length (gf_names names ss)
  rw [namesOf_len] at h
  rw [h]
  exact Nat.le_trans (List.length_filter_le _ _) (Nat.le_of_eq (namesOf_len ss))
/-- Closing twice is closing once. -/
theorem gf_none : ∀ (names : List Str) (ss : List Step), (∀ n ∈ names, hasB (namesOf ss) n = false) → gfAll ss names = ss
  | [], _, _ => rfl
  | n :: names, ss, h => by
    show gfAll (gfStep ss n) names = _
    have e : gfStep ss n = ss := if_neg (by rw [h n (by simp)]; simp)
    rw [e]
    exact gf_none names ss fun m hm => h m (List.mem_cons_of_mem _ hm)
theorem gf_twice (ss : List Step) (names : List Str) : gfAll (gfAll ss names) names = gfAll ss names :=
  gf_none names _ fun n hn => by rw [gf_has, hasB_true.2 hn]; simp
theorem gfB_twice {f : Flow} {gs : List Guard} {vs : List Int} (h : gfB f gs vs = true) : gfB (gfF f gs vs) gs vs = true ∧ gfF (gfF f gs vs) gs vs = gfF f gs vs := by
  have e := gfF_yes h
  have h' := h
  unfold gfB at h'
  simp only [Bool.and_eq_true] at h'
  obtain ⟨h1, h2, h3, h4⟩ := h'
  have hb : gfB (gfF f gs vs) gs vs = true := by
    rw [e]
    unfold gfB
    rw [h4, h2, h3]
    show (true && (true && (true && flowB ⟨f.ver, gfAll (gfAll f.steps (closL gs vs)) (closL gs vs)⟩))) = true
    rw [gf_twice, h4]; rfl
  refine ⟨hb, ?_⟩
  rw [gfF_yes hb, e]
  show (⟨f.ver, gfAll (gfAll f.steps (closL gs vs)) (closL gs vs)⟩ : Flow) = _
  rw [gf_twice]
theorem gfB_nil {f : Flow} {vs : List Int} (h : flowB f = true) (hv : varsB vs = true) : gfB f [] vs = true ∧ gfF f [] vs = f := by
  have hc : closL [] vs = [] := by
    unfold closL closTo
    split <;> rfl
  have hb : gfB f [] vs = true := by
    unfold gfB
    rw [hc, h, hv]
    show (true && (guardsB [] && (true && flowB ⟨f.ver, f.steps⟩))) = true
    have : guardsB [] = true := rfl
    rw [this]
    show flowB f = true
    exact h
  refine ⟨hb, ?_⟩
  rw [gfF_yes hb, hc]
  rfl
end Go.Proofs.Ytakeijgoonagcaa

/- Drawing a flow, guards and values out of a code. -/
namespace Go.Proofs.Ytakeijgoonagcaa
open Go.RowKit

def GFlowD (w : World) (e : Ending) (w' : World) : Prop :=
  ∃ (f : Flow) (A : Option Addr) (n c : Nat) (G : Option Addr) (ng cg : Nat) (gs : List Guard) (V : Option Addr) (nv cv : Nat) (vs : List Int), e = .returned (.tuple #[.agg #[.int .i64 f.ver, .slice A n c], .slice G ng cg, .slice V nv cv]) ∧
    RStep w' w.heap.size A n f.steps ∧ okSteps f.steps ∧ 1 ≤ n ∧ n ≤ 6 ∧ RGuard w' w.heap.size G ng gs ∧ okG gs ∧ RInt w' w.heap.size V nv vs ∧ nv ≤ 4 ∧ Below w.heap.size w w'

set_option maxRecDepth 100000 in
set_option maxHeartbeats 4000000 in
theorem drawGuardsFlow_any (A : Option Addr) (n c : Nat) (w : World) (hr : RByte w A n) (hc : n ≤ c) (hn : n ≤ 1048576) : Calls Try.prog 41 #[.slice A n c] w (GFlowD w) := by
  have HR := Lib.hid (hr.alloc (.cells #[.int .i64 0, .slice none 0 0] 34)); clear hr
  go_enter Try.func41, Try.ntmps41
  go_wp2_with fail
  refine (open_any _ _ _ _ HR.out hc hn).mono ?_
  rintro e w1 ⟨rfl, hrd, hb1⟩
  have hsz : (w.alloc (.cells #[.int .i64 0, .slice none 0 0] 34)).heap.size = w.heap.size + 1 := by simp
  rw [hsz] at hrd hb1 ⊢
  obtain ⟨g, hg⟩ : ∃ g, g = w.heap.size + 1 := ⟨_, rfl⟩
  rw [← hg] at hrd hb1 ⊢
  have hd0 : Dr 158 w1 g 0 w1 := ⟨On.refl _ _, 0, Nat.le_refl _, hrd⟩
  have hl1 := hrd.lt
  have HRF := Lib.hid ((hb1.block w.heap.size (by omega)).trans (heap_new (w := w) (o := .cells #[.int .i64 0, .slice none 0 0] 34) rfl))
  have HB1 := Lib.hid (((Below.refl w.heap.size w).alloc (Nat.le_refl _) (.cells #[.int .i64 0, .slice none 0 0] 34)).trans (hb1.mono (by omega)))
  have hg0 : w.heap.size < g := by omega
  have hg1 : g ≤ w.heap.size + 1 := by omega
  clear hrd hb1 hsz hg
  go_wp2_with fail
  refine (l91Flow_any w1 _ _ _ hd0 (by omega)).mono ?_
  rintro e w2 ⟨v, A2, n2, c2, ss, rfl, hs, hok, h1, h6, hd, hon⟩
  have HS := Lib.hid (hs.alloc (.cells #[.int .i64 v, .slice A2 n2 c2] 34)); clear hs
  have HD2 := Lib.hid (hd.alloc (.cells #[.int .i64 v, .slice A2 n2 c2] 34)); clear hd
  have HF2 := Lib.hid (heap_old (o := .cells #[.int .i64 v, .slice A2 n2 c2] 34) (hon.blk HRF.out (by omega)))
  have HX2 := Lib.hid (heap_new (w := w2) (o := .cells #[.int .i64 v, .slice A2 n2 c2] 34) rfl)
  have hs2 := hon.size
  have HON2 := Lib.hid (hon.alloc (.cells #[.int .i64 v, .slice A2 n2 c2] 34))
  have HOK := Lib.hid hok; clear hok
  clear hon hd0
  have hw2 : w2.heap.size < (w2.alloc (.cells #[.int .i64 v, .slice A2 n2 c2] 34)).heap.size := by simp
  go_upto_region 3 with fail
  generalize w2.alloc (.cells #[.int .i64 v, .slice A2 n2 c2] 34) = w5 at *
  go_wp2_with fail
  refine (l92Guards_any w1 _ _ _ HD2.out (by omega)).mono ?_
  rintro e w6 ⟨G6, n6, c6, gs, rfl, hgr, hokg, hd6, hon6⟩
  have HS6 := Lib.hid (HS.out.on hon6 (by omega))
  have HG6 := Lib.hid hgr; clear hgr
  have HD6 := Lib.hid hd6; clear hd6
  have HF6 := Lib.hid (hon6.blk HF2.out (by omega))
  have HX6 := Lib.hid (hon6.blk HX2.out (by omega))
  have HON6 := Lib.hid (HON2.out.trans hon6)
  have hs6 := hon6.size
  clear hon6
  have HSB : Hid (∀ w', On g w6 w' → w'.cell? ⟨w2.heap.size, 0, none⟩ = some (.int .i64 v) ∧ w'.cell? ⟨w2.heap.size, 1, none⟩ = some (.slice A2 n2 c2)) := Lib.hid (fun w' h => ⟨(blk_cl (k := 0) (h.blk HX6.out (by omega)) rfl).1, (blk_cl (k := 1) (h.blk HX6.out (by omega)) rfl).1⟩)
  have HKF : Hid (∀ w' q o u, q ≠ w2.heap.size → (fun w' : World => w'.cell? ⟨w2.heap.size, 0, none⟩ = some (.int .i64 v) ∧ w'.cell? ⟨w2.heap.size, 1, none⟩ = some (.slice A2 n2 c2)) w' → (fun w' : World => w'.cell? ⟨w2.heap.size, 0, none⟩ = some (.int .i64 v) ∧ w'.cell? ⟨w2.heap.size, 1, none⟩ = some (.slice A2 n2 c2)) (w'.setCell ⟨q, o, none⟩ u)) := Lib.hid (fun w' q o u hq h => ⟨(cellFar (Ne.symm hq)).trans h.1, (cellFar (Ne.symm hq)).trans h.2⟩)
  go_upto_region 4 with fail
  go_region_held3 (fun w' => w'.cell? ⟨w2.heap.size, 0, none⟩ = some (.int .i64 v) ∧ w'.cell? ⟨w2.heap.size, 1, none⟩ = some (.slice A2 n2 c2))
    (((repeat (first | exact HSB.out _ (On.refl _ _).drew | exact HSB.out _ hon4 | refine HKF.out _ _ _ _ (by omega) ?_ | fail "x")); done))
    (first
      | (go_at_call 95; refine (l92Vars_any w1 g _ _ HD6.out.drew (by omega)).mono ?_; rintro e w3 ⟨V3, n3, c3, vs, rfl, hv3, hn4, hd3, hon3⟩; have hon4 : On g w6 w3 := (On.refl g w6).drew.trans hon3; have HF3 := Lib.hid (hon4.blk HF6.out (by omega)); have z0 := (blk_cl (k := 0) HF3.out rfl).1; have z0' := (blk_cl (k := 0) HF3.out rfl).2; have z1 := (blk_cl (k := 1) HF3.out rfl).1; have z1' := (blk_cl (k := 1) HF3.out rfl).2)
      | fail "no arm")
  go_wp2_with fail
  have hF := set21 (u := .slice A2 n2 c2) (set20 (u := .int .i64 v) HF3.out)
  have e0 := (blk_cl (k := 0) hF rfl).1
  have e1 := (blk_cl (k := 1) hF rfl).1
  have hS3 := HS6.out.on hon4 (by omega)
  have hG3 := HG6.out.on hon4 (by omega)
  have hB3 := HB1.out.trans (((HON6.out.trans hon4).low (by omega)).mono (by omega))
  have hbl := (hB3.setCell (p := ⟨w.heap.size, 0, none⟩) (Nat.le_refl _) (.int .i64 v)).setCell (p := ⟨w.heap.size, 1, none⟩) (Nat.le_refl _) (.slice A2 n2 c2)
  have h36 : w6.drew.heap.size = w6.heap.size := rfl
  exact bodyPost_ret (v := .tuple #[.agg #[.int .i64 v, .slice A2 n2 c2], .slice G6 n6 c6, .slice V3 n3 c3]) (by simp [results, Try.results41, go_sem, e0, e1]) rfl
    ⟨⟨v, ss⟩, _, _, _, _, _, _, gs, _, _, _, vs, rfl, ((hS3.setLow (by omega)).setLow (by omega)).lower (by omega), HOK.out, h1, h6, ((hG3.setLow (by omega)).setLow (by omega)).lower (by omega), hokg, ((hv3.setLow (by omega)).setLow (by omega)).lower (by omega), hn4, hbl⟩
end Go.Proofs.Ytakeijgoonagcaa

/- Steps and flows that are the same are told so. -/
namespace Go.Proofs.Ytakeijgoonagcaa
open Go.RowKit

set_option maxRecDepth 100000 in
theorem sameStep_same (A B : Option Addr) (n c d : Nat) (s : Step) (lo lo' : Nat) (w : World) (hr : RStr w lo A n s.after) (hn : n ≤ 1048576) (hr' : RStr w lo' B n s.after) :
    Calls Try.prog 154 #[.agg #[.string s.name, .slice A n c, .bool s.undo], .agg #[.string s.name, .slice B n d, .bool s.undo]] w fun e w' => e = .returned (.bool true) ∧ Below w.heap.size w w' := by
  have HR := Lib.hid ((hr.alloc (.cells #[.string s.name, .slice A n c, .bool s.undo] 75)).alloc (.cells #[.string s.name, .slice B n d, .bool s.undo] 75)); clear hr
  have HS := Lib.hid ((hr'.alloc (.cells #[.string s.name, .slice A n c, .bool s.undo] 75)).alloc (.cells #[.string s.name, .slice B n d, .bool s.undo] 75)); clear hr'
  have HB := Lib.hid (((Below.refl w.heap.size w).alloc (Nat.le_refl _) (.cells #[.string s.name, .slice A n c, .bool s.undo] 75)).alloc (by simp) (.cells #[.string s.name, .slice B n d, .bool s.undo] 75))
  have HX := Lib.hid (heap_old (o := .cells #[.string s.name, .slice B n d, .bool s.undo] 75) (heap_new (w := w) (o := .cells #[.string s.name, .slice A n c, .bool s.undo] 75) rfl))
  have HY := Lib.hid (heap_new (w := w.alloc (.cells #[.string s.name, .slice A n c, .bool s.undo] 75)) (b := w.heap.size + 1) (o := .cells #[.string s.name, .slice B n d, .bool s.undo] 75) (by simp))
  have x0 := (blk_cl (k := 0) HX.out rfl).1
  have x1 := (blk_cl (k := 1) HX.out rfl).1
  have x2 := (blk_cl (k := 2) HX.out rfl).1
  have y0 := (blk_cl (k := 0) HY.out rfl).1
  have y1 := (blk_cl (k := 1) HY.out rfl).1
  have y2 := (blk_cl (k := 2) HY.out rfl).1
  have hq : (s.name.toList == s.name.toList) = true := beq_self_eq_true _
  have hu : (s.undo == s.undo) = true := beq_self_eq_true _
  go_enter Try.func154, Try.ntmps154
  go_wp2_with (go_at_call 29; refine (sameTexts_any _ _ _ _ _ _ s.after s.after _ _ _ HR.out hn HS.out hn).mono ?_; rintro e w' ⟨rfl, q, rfl⟩; rw [eqB_same])
  go_ret
  exact ⟨rfl, below_drewN HB.out q⟩
set_option maxRecDepth 100000 in
theorem sameSteps_same (A B : Option Addr) (n c d : Nat) (ss : List Step) (lo lo' : Nat) (w : World) (hr : RStep w lo A n ss) (hok : okSteps ss) (hr' : RStep w lo' B n ss) :
    Calls Try.prog 107 #[.slice A n c, .slice B n d] w fun e w' => e = .returned (.bool true) ∧ Below w.heap.size w w' := by
  have HL := Lib.hid hr.1
  have hn : n ≤ 1048576 := by have := hok.1; rw [hr.1] at this; exact this
  have HX := Lib.hid hr; clear hr
  have HY := Lib.hid hr'; clear hr'
  have HO := Lib.hid hok; clear hok
  go_enter Try.func107, Try.ntmps107
  go_wp2
  go_loopw [5] (fun i wr => ∃ k : Nat, k ≤ n ∧ i = .int .i64 k ∧ Below w.heap.size w wr) (fun i _ => n - (intOf i).toNat)
  case atStart => exact ⟨0, Nat.zero_le _, rfl, Below.refl _ _⟩
  case round =>
    obtain ⟨wo, rfl⟩ : ∃ wo : World, wo = wr := ⟨_, rfl⟩
    obtain ⟨k, hk, rfl, hb⟩ := hrel
    have HB := Lib.hid hb; clear hb
    by_cases hlt : k < n
    · obtain ⟨b, off, rfl, ⟨_, hbl⟩, hc⟩ := RStep.at_ (HX.out.below HB.out) hlt
      obtain ⟨A', n', c', ⟨d1, d2, d3⟩, hdr, _⟩ := hc k hlt
      clear hc
      obtain ⟨b2, off2, rfl, ⟨_, hbl2⟩, hc⟩ := RStep.at_ (HY.out.below HB.out) hlt
      obtain ⟨A2, n2, c2, ⟨f1, f2, f3⟩, hdr2, _⟩ := hc k hlt
      clear hc
      obtain rfl : n2 = n' := by rw [← hdr.1, ← hdr2.1]
      have hn' : n2 ≤ 1048576 := by rw [← hdr.1]; exact (HO.out.2 k (by rw [HL.out]; exact hlt)).2.1
      have HCALL := Lib.hid (fun x : Bl wo => sameStep_same A' A2 n2 c' c2 (nth ss k) _ _ x.wd (hdr.below x.below) hn' (hdr2.below x.below))
      have D1 : ∀ x : Bl wo, x.wd.cell? ⟨b, off + k * 3, none⟩ = some (.string (nth ss k).name) := fun x => (x.below.cell (p := ⟨b, off + k * 3, none⟩) hbl).trans d1
      have D2 : ∀ x : Bl wo, x.wd.cell? ⟨b, off + k * 3 + 1, none⟩ = some (.slice A' n2 c') := fun x => (x.below.cell (p := ⟨b, off + k * 3 + 1, none⟩) hbl).trans d2
      have D3 : ∀ x : Bl wo, x.wd.cell? ⟨b, off + k * 3 + 2, none⟩ = some (.bool (nth ss k).undo) := fun x => (x.below.cell (p := ⟨b, off + k * 3 + 2, none⟩) hbl).trans d3
      have F1 : ∀ x : Bl wo, x.wd.cell? ⟨b2, off2 + k * 3, none⟩ = some (.string (nth ss k).name) := fun x => (x.below.cell (p := ⟨b2, off2 + k * 3, none⟩) hbl2).trans f1
      have F2 : ∀ x : Bl wo, x.wd.cell? ⟨b2, off2 + k * 3 + 1, none⟩ = some (.slice A2 n2 c2) := fun x => (x.below.cell (p := ⟨b2, off2 + k * 3 + 1, none⟩) hbl2).trans f2
      have F3 : ∀ x : Bl wo, x.wd.cell? ⟨b2, off2 + k * 3 + 2, none⟩ = some (.bool (nth ss k).undo) := fun x => (x.below.cell (p := ⟨b2, off2 + k * 3 + 2, none⟩) hbl2).trans f3
      clear d1 d2 d3 f1 f2 f3 hdr hdr2
      have hk0 : (0 : Int) ≤ (k : Int) := by omega
      have hk1 : (k : Int) < (n : Int) := by omega
      go_wp2_with fail
      refine region_bl (by kernel_rfl) (by kernel_rfl) ?_
      repeat (go_big_quiet_step ((go_at_call 154; exact q_bl (HCALL.out _))))
      refine wpQuiet_nil ?_
      intro _ hw'
      obtain ⟨x, rfl⟩ := hw'
      have HB2 := Lib.hid (HB.out.trans (x.below.mono HB.out.size))
      go_wp2_with fail
      go_roundw
      case rel => exact ⟨k + 1, by omega, by go_num, HB2.out⟩
      case measure => simp [intOf]; omega
    · go_wp2_with fail
      go_ret
      exact ⟨rfl, HB.out⟩
set_option maxRecDepth 100000 in
theorem sameFlow_same (A B : Option Addr) (n c d : Nat) (f : Flow) (lo lo' : Nat) (w : World) (hr : RStep w lo A n f.steps) (hok : okSteps f.steps) (hr' : RStep w lo' B n f.steps) :
    Calls Try.prog 44 #[.agg #[.int .i64 f.ver, .slice A n c], .agg #[.int .i64 f.ver, .slice B n d]] w fun e w' => e = .returned (.bool true) ∧ Below w.heap.size w w' := by
  have HR := Lib.hid ((hr.alloc (.cells #[.int .i64 f.ver, .slice A n c] 34)).alloc (.cells #[.int .i64 f.ver, .slice B n d] 34)); clear hr
  have HS := Lib.hid ((hr'.alloc (.cells #[.int .i64 f.ver, .slice A n c] 34)).alloc (.cells #[.int .i64 f.ver, .slice B n d] 34)); clear hr'
  have HB := Lib.hid (((Below.refl w.heap.size w).alloc (Nat.le_refl _) (.cells #[.int .i64 f.ver, .slice A n c] 34)).alloc (by simp) (.cells #[.int .i64 f.ver, .slice B n d] 34))
  have HX := Lib.hid (heap_old (o := .cells #[.int .i64 f.ver, .slice B n d] 34) (heap_new (w := w) (o := .cells #[.int .i64 f.ver, .slice A n c] 34) rfl))
  have HY := Lib.hid (heap_new (w := w.alloc (.cells #[.int .i64 f.ver, .slice A n c] 34)) (b := w.heap.size + 1) (o := .cells #[.int .i64 f.ver, .slice B n d] 34) (by simp))
  have x0 := (blk_cl (k := 0) HX.out rfl).1
  have x1 := (blk_cl (k := 1) HX.out rfl).1
  have y0 := (blk_cl (k := 0) HY.out rfl).1
  have y1 := (blk_cl (k := 1) HY.out rfl).1
  go_enter Try.func44, Try.ntmps44
  go_wp2_with (go_at_call 107; refine (sameSteps_same _ _ _ _ _ f.steps _ _ _ HR.out hok HS.out).mono ?_; rintro e w' ⟨rfl, hb⟩)
  go_ret
  exact ⟨rfl, HB.out.trans (hb.mono HB.out.size)⟩
end Go.Proofs.Ytakeijgoonagcaa

/- clear of one element of several cells. -/
namespace Go.Proofs.Ytakeijgoonagcaa
open Go.RowKit

theorem run_clear_one {P : Program} (w : World) (t e ty : TypeId) (z : Value) (zs : List Value) (ht : P.underlying t = some (.slice e)) (hv : ∀ w, (zeroValue e).run P w = .ok z w) (hz : z.cells = zs.toArray) (h1 : ∀ v ∈ zs, v.oneCell' = true) (b o c : Nat)
    (hc : ∀ j, j < zs.length → (w.cell? ⟨b, o + j, none⟩).isSome = true) (hf : ∀ j, j < zs.length → w.frozen? ⟨b, o + j, none⟩ = false) :
    (Builtin.clear_ #[t] ty #[.slice (some ⟨b, o, none⟩) 1 c]).run P w = .ok (.tuple #[]) (w.setCells b o zs) := by
  have hzc : (Builtin.zeroCells z.cells 1).toList = zs := by
    rw [hz]
    simp [Builtin.zeroCells]
    apply List.ext_getElem
    · simp
    · intro i h1 h2
      simp [Nat.mod_eq_of_lt h2, List.getElem?_eq_getElem h2]
  have hst := run_storeCells_cells (P := P) b o zs 0 w (by simpa using hc) (by simpa using hf) h1
  simp only [Nat.add_zero] at hst
  simp [Builtin.clear_, run_underlying ht, hv, hzc, hst]
end Go.Proofs.Ytakeijgoonagcaa

/- slices.Delete of one step. -/
namespace Go.Proofs.Ytakeijgoonagcaa
open Go.RowKit

def zStep : List Value := [.string ⟨#[]⟩, .slice none 0 0, .bool false]
set_option maxRecDepth 100000 in
theorem delStep_any (b off n c i j : Nat) (cells : List Value) (w : World) (hl : cells.length = n * 3) (hc : ∀ k u, cells[k]? = some u → w.cell? ⟨b, off + k, none⟩ = some u ∧ w.frozen? ⟨b, off + k, none⟩ = false) (h1 : ∀ u ∈ cells, u.oneCell' = true) (hi : i < n) (hj : j = i + 1) (hnc : n ≤ c) (_ : c ≤ maxLen) :
    Calls Try.prog 146 #[.slice (some ⟨b, off, none⟩) n c, .int .i64 (i : Int), .int .i64 (j : Int)] w fun e w' => e = .returned (.slice (some ⟨b, off, none⟩) (n - 1) c) ∧ ∃ q, w' = ((w.drewN q).setCells b (off + i * 3) (cells.drop (j * 3))).setCells b (off + (n - 1) * 3) zStep := by
  obtain ⟨i0, hi0, hz0, hz1, hz2⟩ := info_parts info_step
  have hij : ((i : Int) == (j : Int)) = false := by rw [beq_eq_false_iff_ne]; omega
  have hi1 : (0 : Int) ≤ (i : Int) := by omega
  have hi2 : (i : Int) ≤ (j : Int) := by omega
  have hi3 : (j : Int) ≤ (n : Int) := by omega
  have hi4 : (n : Int) ≤ (c : Int) := by omega
  obtain ⟨news, hnews⟩ : ∃ news, news = cells.drop (j * 3) := ⟨_, rfl⟩
  have hlen : news.length = (n - j) * 3 := by rw [hnews, List.length_drop, hl]; omega
  have hget : ∀ t u, news[t]? = some u → cells[j * 3 + t]? = some u := by
    intro t u hu
    rw [hnews, List.getElem?_drop] at hu
    exact hu
  obtain ⟨A, hA, hsrc⟩ : ∃ A : Addr, (if c = j then some (⟨b, off, none⟩ : Addr) else some ⟨b, off + j * 3, none⟩) = some A ∧ Hid (∀ t u, news[t]? = some u → w.drew.cell? (A.add t) = some u) := by
    by_cases h : c = j
    · refine ⟨⟨b, off, none⟩, by simp [h], Lib.hid fun t u hu => ?_⟩
      have h0 : news.length = 0 := by rw [hlen]; omega
      rw [List.length_eq_zero_iff.1 h0] at hu
      simp at hu
    · refine ⟨⟨b, off + j * 3, none⟩, by simp [h], Lib.hid fun t u hu => ?_⟩
      have e : (⟨b, off + j * 3, none⟩ : Addr).add t = ⟨b, off + (j * 3 + t), none⟩ := by unfold Addr.add; split <;> simp_all [Nat.add_assoc]
      rw [e]
      exact (hc _ u (hget t u hu)).1
  have s1 := Lib.hid hlen
  have s2 : Hid (∀ u ∈ news, u.oneCell' = true) := Lib.hid (fun u hu => h1 u (by rw [hnews] at hu; exact List.mem_of_mem_drop hu))
  have hsome : ∀ t, t < n * 3 → ∃ u, cells[t]? = some u := fun t ht => ⟨_, List.getElem?_eq_getElem (by rw [hl]; exact ht)⟩
  have s3 : Hid (∀ t, t < news.length → (w.drew.cell? ⟨b, off + i * 3 + t, none⟩).isSome = true ∧ w.drew.frozen? ⟨b, off + i * 3 + t, none⟩ = false) := Lib.hid (fun t ht => by
    rw [hlen] at ht
    obtain ⟨u, hu⟩ := hsome (i * 3 + t) (by omega)
    obtain ⟨q1, q2⟩ := hc _ u hu
    rw [Nat.add_assoc]
    exact ⟨by show (w.cell? _).isSome = true; rw [q1]; rfl, q2⟩)
  obtain ⟨W1, hW1⟩ : ∃ W1, W1 = w.drew.setCells b (off + i * 3) news := ⟨_, rfl⟩
  have HW := Lib.hid hW1
  have HN := Lib.hid hnews
  go_enter Try.func146, Try.ntmps146
  have hzv : ∀ w : World, (zeroValue 75).run Try.prog w = .ok (.agg #[.string ⟨#[]⟩, .slice none 0 0, .bool false]) w := fun w => by first | kernel_rfl | rfl
  have hcl : ∀ ty, (Builtin.clear_ #[32] ty #[.slice (some ⟨b, off + (i + (n - j)) * 3, none⟩) (n - (i + (n - j))) (c - (i + (n - j)))]).run Try.prog W1 = .ok (.tuple #[]) (W1.setCells b (off + (n - 1) * 3) zStep) := fun ty => by
    rw [show i + (n - j) = n - 1 by omega, show n - (n - 1) = 1 by omega]
    have hz3 : zStep.length = 3 := rfl
    have hW2 : ∀ t, t < 3 → W1.cell? ⟨b, off + (n - 1) * 3 + t, none⟩ = w.cell? ⟨b, off + ((n - 1) * 3 + t), none⟩ ∧ W1.frozen? ⟨b, off + (n - 1) * 3 + t, none⟩ = w.frozen? ⟨b, off + ((n - 1) * 3 + t), none⟩ := fun t ht => by
      rw [HW.out, Nat.add_assoc]
      refine ⟨(World.cell?_setCells_out b news _ _ _ (fun _ _ => .inr ?_)).trans rfl, (World.frozen?_setCells b news _ _ _).trans rfl⟩
      rw [hlen]
      show off + i * 3 + (n - j) * 3 ≤ off + ((n - 1) * 3 + t)
      omega
    refine run_clear_one W1 _ _ ty _ zStep Try.underlying32 hzv rfl (by intro v hv; simp [zStep] at hv; rcases hv with rfl | rfl | rfl <;> rfl) b _ _ (fun t ht => ?_) (fun t ht => ?_)
    · obtain ⟨u, hu⟩ := hsome ((n - 1) * 3 + t) (by omega)
      rw [(hW2 t (by omega)).1, (hc _ u hu).1]; rfl
    · obtain ⟨u, hu⟩ := hsome ((n - 1) * 3 + t) (by omega)
      rw [(hW2 t (by omega)).2, (hc _ u hu).2]
  have hic : i ≤ c := by omega
  have hjc : j ≤ c := by omega
  have hjn : j ≤ n := by omega
  have hlt : i < j := by omega
  have HJ := Lib.hid hj
  clear hnews hlen hget hsome hW1 hc h1 hj
  go_upto_region 5 with fail
  go_region_law (refine step_append_room rfl (.tmp 22) (.tmp 25) 32 rfl 75 i0 3 Try.underlying32 hi0 hz1 b off i c (by simp [Act.eval, Act.put]) A (n - j) (c - j) news (by simp [Act.eval, Act.put]) s1.out hsrc.out s2.out (by omega) s3.out ?_; rw [← HW.out])
  go_wp2
  go_ret
  have hj9 := HJ.out
  refine ⟨?_, 1, ?_⟩
  · show Ending.returned (.slice (some ⟨b, off, none⟩) (i + (n - j)) c) = _
    rw [show i + (n - j) = n - 1 by omega]
  · rw [HW.out, HN.out]
    rfl
end Go.Proofs.Ytakeijgoonagcaa
