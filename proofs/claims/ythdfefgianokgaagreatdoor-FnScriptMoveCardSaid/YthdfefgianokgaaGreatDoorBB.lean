/- Contracts of functions and plain lemmas, joined. No condition but those that each states. -/
import Derived.Deep.RegionHeld3
import Derived.Lib.ItoaNum
import Derived.Test.YthdfefgianokgaaGreatDoorBA

/- The reference's StepFrom. -/
namespace Go.Proofs.YthdfefgianokgaaGreatDoor
open Go.RowKit

theorem bs_pos {s : Str} (h : 0 < s.size) : (bs s).getLast? = some (s[s.size - 1]'(by omega)) := by
  have hl : (bs s).length = s.size := bs_len s
  rw [List.getLast?_eq_getElem?, List.getElem?_eq_getElem (by omega)]
  have e : (bs s)[(bs s).length - 1]'(by omega) = (bs s)[s.size - 1]'(by omega) := by simp only [hl]
  rw [e]
  rfl
theorem rest_yes {s : Str} (h : (bs s).getLast? = some 33) : 0 < s.size ∧ s.extract 0 (s.size - 1) = ofBs (restL s) ∧ undoL s = false := by
  have hl : (bs s).length = s.size := bs_len s
  have hne : bs s ≠ [] := by intro e; rw [e] at h; cases h
  have h0 : 0 < s.size := by rw [← hl]; exact List.length_pos_iff.2 hne
  refine ⟨h0, ?_, by unfold undoL; rw [decide_eq_true h]; rfl⟩
  rw [bs_extract]
  unfold restL
  rw [if_pos ⟨hne, h⟩, List.drop_zero, Nat.sub_zero, List.dropLast_eq_take, hl]
theorem rest_no {s : Str} (h : (bs s).getLast? ≠ some 33) : s = ofBs (restL s) ∧ undoL s = true := by
  refine ⟨?_, by unfold undoL; rw [decide_eq_false h]; rfl⟩
  unfold restL
  rw [if_neg (fun e => h e.2), of_bs]
theorem Own2.cells {w : World} {base : Nat} {A : Option Addr} {a b : Str} (h : SStr w base A 2 [a, b]) : ∃ k cs, A = some ⟨k, 0, none⟩ ∧ base ≤ k ∧ w.heap[k]? = some (.cells cs 9 (0, 0)) ∧ cs[0]? = some (.string a) ∧ cs[1]? = some (.string b) := by
  obtain ⟨k, cs, e, h1, h2, h3⟩ := h.2 (by omega)
  exact ⟨k, cs, e, h1, h2, h3 0 (by omega), h3 1 (by omega)⟩
theorem cutW_two {b : UInt8} {q x y : Bytes} (h : cutW b q = [x, y]) : q.length = x.length + y.length + 1 := by
  rcases first_split b q with h1 | ⟨a, r, rfl, h1⟩
  · rw [cutW_none h1] at h; cases h
  · rw [cutW_hit r h1] at h
    obtain ⟨rfl, h2⟩ := List.cons.inj h
    rcases first_split b r with h3 | ⟨a', r', rfl, h3⟩
    · rw [cutW_none h3] at h2
      obtain ⟨rfl, _⟩ := List.cons.inj h2
      simp; omega
    · rw [cutW_hit r' h3] at h2
      exact absurd (List.cons.inj h2).2 (cutW_ne b r')

set_option maxRecDepth 100000 in
set_option maxHeartbeats 2000000 in
theorem stepFromS_any (s : Str) (w : World) (hs : s.size ≤ 1048576) :
    Calls Tryz.prog 80 #[.string s] w fun e w' => ∃ A n c, e = .returned (.tuple #[.agg #[.string (fromT s).name, .slice A n c, .bool (fromT s).undo], .bool (fromB s)]) ∧ SStr w' w.heap.size A n (fromT s).after ∧ Below w.heap.size w w' := by
  have hrl := restL_len s
  have hX0 := heap_old (o := .cells #[.string ⟨#[]⟩, .slice none 0 0, .bool true] 35) (heap_new (w := w) (o := .cells #[.string ⟨#[]⟩, .slice none 0 0, .bool false] 35) rfl)
  have hY0 := heap_new (w := w.alloc (.cells #[.string ⟨#[]⟩, .slice none 0 0, .bool false] 35)) (b := w.heap.size + 1) (o := .cells #[.string ⟨#[]⟩, .slice none 0 0, .bool true] 35) (by simp)
  have hB0 := ((Below.refl w.heap.size w).alloc (Nat.le_refl _) (.cells #[.string ⟨#[]⟩, .slice none 0 0, .bool false] 35)).alloc (by simp) (.cells #[.string ⟨#[]⟩, .slice none 0 0, .bool true] 35)
  have HX0 := Lib.hid hX0; clear hX0
  have HY0 := Lib.hid hY0; clear hY0
  have HB0 := Lib.hid hB0; clear hB0
  go_enter Tryz.func80, Tryz.ntmps80
  by_cases hL : (bs s).getLast? = some 33
  · obtain ⟨h0, hext, hU⟩ := rest_yes hL
    have HEXT := Lib.hid hext; clear hext
    have HU := Lib.hid hU; clear hU
    have hi0 : decide ((0 : Int) < (s.size : Int)) = true := by simp; omega
    obtain ⟨x, hx⟩ : ∃ x, s[s.size - 1]'(by omega) = x := ⟨_, rfl⟩
    have hq : ((x.toNat : Int) == 33) = true := by
      rw [bs_pos h0, hx] at hL
      rw [Option.some.inj hL]; rfl
    clear hL
    have y2a := (blk_cl (k := 2) HY0.out rfl).1
    have y2b := (blk_cl (k := 2) HY0.out rfl).2
    go_wp2_with (go_at_call 42; rw [HEXT.out])
    clear hi0 hq hx
    have HX1 := Lib.hid (heap_old (o := .cells #[.string ⟨#[]⟩, .slice none 0 0, .bool false] 35) (heap_new (w := w) (o := .cells #[.string ⟨#[]⟩, .slice none 0 0, .bool false] 35) rfl))
    have HY1 := Lib.hid (heap_new (w := w.alloc (.cells #[.string ⟨#[]⟩, .slice none 0 0, .bool false] 35)) (b := w.heap.size + 1) (o := .cells #[.string ⟨#[]⟩, .slice none 0 0, .bool false] 35) (by simp))
    have HB1 := Lib.hid (((Below.refl w.heap.size w).alloc (Nat.le_refl _) (.cells #[.string ⟨#[]⟩, .slice none 0 0, .bool false] 35)).alloc (by simp) (.cells #[.string ⟨#[]⟩, .slice none 0 0, .bool false] 35))
    have hsz1 : ((w.alloc (.cells #[.string ⟨#[]⟩, .slice none 0 0, .bool false] 35)).alloc (.cells #[.string ⟨#[]⟩, .slice none 0 0, .bool false] 35)).heap.size = w.heap.size + 2 := by simp
    generalize (w.alloc (.cells #[.string ⟨#[]⟩, .slice none 0 0, .bool false] 35)).alloc (.cells #[.string ⟨#[]⟩, .slice none 0 0, .bool false] 35) = w1 at *
    refine (l41Cut_any (ofBs (restL s)) 58 w1 (by rw [ofBs_size]; omega)).mono ?_
    rintro e w2 ⟨A2, c2, rfl, hs2, hb2⟩
    rw [bs_of] at *
    clear y2a y2b
    have hx2 := (hb2.block _ (heap_lt HX1.out)).trans HX1.out
    have hy2 := (hb2.block _ (heap_lt HY1.out)).trans HY1.out
    have HB2 := Lib.hid (HB1.out.trans (hb2.mono HB1.out.size))
    clear hb2 HX1 HY1 HB1
    have HX2 := Lib.hid hx2
    have HY2 := Lib.hid hy2
    clear hx2 hy2
    by_cases h2 : (cutW 58 (restL s)).length = 2
    · obtain ⟨a, b, hab⟩ := two_of h2
      have hs3 : SStr w2 w1.heap.size A2 2 [ofBs a, ofBs b] := by rw [hab] at hs2; exact hs2
      rw [h2]
      have hal : (ofBs a).size ≤ s.size ∧ (ofBs b).size ≤ s.size := by
        have m1 := cutW_mem 58 (restL s) a (by rw [hab]; simp)
        have m2 := cutW_mem 58 (restL s) b (by rw [hab]; simp)
        rw [ofBs_size, ofBs_size]
        omega
      have hbl : b.length + 1 ≤ s.size := by have := cutW_two hab; omega
      have HNO := Lib.hid (fun hn => fromS_no hab (hn : ¬ (stepB (readS s a b) = true ∧ stepS (readS s a b) = s)))
      have HRA := Lib.hid (show (readS s a b).after = if b = [45] then [] else (cutW 44 b).map ofBs from rfl)
      clear hs2 h2 hab
      obtain ⟨k, cs, rfl, hk1, hkb, hc0, hc1⟩ := Own2.cells hs3
      clear hs3
      have hkne : k ≠ w.heap.size + 1 := by omega
      have hkn0 : k ≠ w.heap.size := by omega
      have c0 := (blk_cl (k := 0) hkb hc0).1
      have y0a := (blk_cl (k := 0) HY2.out rfl).1
      have y0b := (blk_cl (k := 0) HY2.out rfl).2
      have hya := heap_old (o := .cells #[] 9) (set_at (o := 0) (u := .string (ofBs a)) HY2.out)
      have hxa := heap_old (o := .cells #[] 9) ((Below.heap_setCell w2 ⟨w.heap.size + 1, 0, none⟩ (.string (ofBs a)) w.heap.size (by intro e; simp at e)).trans HX2.out)
      have hka := heap_old (o := .cells #[] 9) ((Below.heap_setCell w2 ⟨w.heap.size + 1, 0, none⟩ (.string (ofBs a)) k (by intro e; simp at e; omega)).trans hkb)
      have hba := (HB2.out.setCell (p := ⟨w.heap.size + 1, 0, none⟩) (Nat.le_succ _) (.string (ofBs a))).alloc (by simpa using HB2.out.size) (.cells #[] 9)
      have hsa : w2.heap.size < ((w2.setCell ⟨w.heap.size + 1, 0, none⟩ (.string (ofBs a))).alloc (.cells #[] 9)).heap.size := by simp
      have ya1a := (blk_cl (k := 1) hya rfl).1
      have ya1b := (blk_cl (k := 1) hya rfl).2
      have hyb := set31 (u := .slice (some ⟨w2.heap.size, 0, none⟩) 0 0) hya
      have hxb := (Below.heap_setCell _ ⟨w.heap.size + 1, 1, none⟩ (.slice (some ⟨w2.heap.size, 0, none⟩) 0 0) w.heap.size (by intro e; simp at e)).trans hxa
      have hkbb := (Below.heap_setCell _ ⟨w.heap.size + 1, 1, none⟩ (.slice (some ⟨w2.heap.size, 0, none⟩) 0 0) k (by intro e; simp at e; omega)).trans hka
      have hbb := hba.setCell (p := ⟨w.heap.size + 1, 1, none⟩) (Nat.le_succ _) (.slice (some ⟨w2.heap.size, 0, none⟩) 0 0)
      have hsb : w.heap.size + 2 < (((w2.setCell ⟨w.heap.size + 1, 0, none⟩ (.string (ofBs a))).alloc (.cells #[] 9)).setCell ⟨w.heap.size + 1, 1, none⟩ (.slice (some ⟨w2.heap.size, 0, none⟩) 0 0)).heap.size := by
        have := heap_lt hkbb
        omega
      have HYB := Lib.hid hyb
      have HXB := Lib.hid hxb
      have HBB := Lib.hid hbb
      have HSB := Lib.hid hsb
      have c1 := (blk_cl (k := 1) hkbb hc1).1
      have yb0 := (blk_cl (k := 0) hyb rfl).1
      have yb1 := (blk_cl (k := 1) hyb rfl).1
      have yb1b := (blk_cl (k := 1) hyb rfl).2
      have yb2 := (blk_cl (k := 2) hyb rfl).1
      clear hya hxa hka hba hsa hyb hxb hkbb hbb hsb hkb hc0 hc1
      have ht1 : (readS s a b).name = ofBs a := rfl
      have ht3 : (readS s a b).undo = false := HU.out
      generalize readS s a b = t at *
      have HT1 := Lib.hid ht1
      have HT3 := Lib.hid ht3
      clear ht1 ht3
      by_cases hb : b = [45]
      · have hq : ((ofBs b).toList == [45]) = true := by rw [toList_bs, bs_of, beq_iff_eq]; exact hb
        have HA0 := Lib.hid (show t.after = [] by rw [HRA.out, if_pos hb])
        have HOKT : Hid (okStep t) := Lib.hid ⟨by rw [HT1.out]; unfold maxLen; omega, by rw [HA0.out]; exact ⟨Nat.zero_le _, fun j hj => absurd hj (Nat.not_lt_zero j)⟩⟩
        clear hb
        go_wp2_with fail
        generalize eW : ((w2.setCell ⟨w.heap.size + 1, 0, none⟩ (.string (ofBs a))).alloc (.cells #[] 9)).setCell ⟨w.heap.size + 1, 1, none⟩ (.slice (some ⟨w2.heap.size, 0, none⟩) 0 0) = wv at *
        have HSV : Hid (SStr wv (w.heap.size + 2) (some ⟨w2.heap.size, 0, none⟩) 0 t.after) := Lib.hid (by rw [HA0.out]; exact ⟨rfl, fun h => absurd h (by omega)⟩)
        clear hq yb0 yb1 yb1b yb2 c0 c1 y0a y0b ya1a ya1b eW
        have hv1 := stepS_any (some ⟨w2.heap.size, 0, none⟩) 0 0 t _ wv HSV.out.hat HOKT.out
        rw [HT1.out, HT3.out] at hv1
        refine hv1.mono ?_
        clear hv1
        rintro e w4 ⟨rfl, hb4⟩
        have HX4 := Lib.hid ((hb4.block _ (heap_lt HXB.out)).trans HXB.out)
        have HY4 := Lib.hid ((hb4.block _ (heap_lt HYB.out)).trans HYB.out)
        have HB4 := Lib.hid (HBB.out.trans (hb4.mono HBB.out.size))
        have HS4 := Lib.hid (HSV.out.below hb4)
        clear hb4 HXB HYB HBB HSV
        have x0a := (blk_cl (k := 0) HX4.out rfl).1
        have x0b := (blk_cl (k := 0) HX4.out rfl).2
        have x1a := (blk_cl (k := 1) HX4.out rfl).1
        have x1b := (blk_cl (k := 1) HX4.out rfl).2
        have x2a := (blk_cl (k := 2) HX4.out rfl).1
        have x2b := (blk_cl (k := 2) HX4.out rfl).2
        have z0a := (blk_cl (k := 0) HY4.out rfl).1
        have z1a := (blk_cl (k := 1) HY4.out rfl).1
        have z2a := (blk_cl (k := 2) HY4.out rfl).1
        cases hv : stepB t
        · have HF := Lib.hid (HNO.out (fun h => by rw [hv] at h; exact absurd h.1 (by decide)))
          clear hv
          go_wp2_with fail
          have hres := set3 (u0 := .string ⟨#[]⟩) (u1 := .slice none 0 0) (u2 := .bool false) HX4.out
          have e0 := (blk_cl (k := 0) hres rfl).1
          have e1 := (blk_cl (k := 1) hres rfl).1
          have e2 := (blk_cl (k := 2) hres rfl).1
          refine bodyPost_ret (v := .tuple #[.agg #[.string ⟨#[]⟩, .slice none 0 0, .bool false], .bool false]) (by simp [results, Tryz.results80, go_sem, e0, e1, e2]) rfl ⟨none, 0, 0, ?_, ?_, ?_⟩
          · rw [from_not HF.out, HF.out]; rfl
          · rw [from_not HF.out]; exact sstr_none _ _
          · exact ((HB4.out.setCell (p := ⟨w.heap.size, 0, none⟩) (Nat.le_refl _) _).setCell (p := ⟨w.heap.size, 1, none⟩) (Nat.le_refl _) _).setCell (p := ⟨w.heap.size, 2, none⟩) (Nat.le_refl _) _
        · have HV := Lib.hid hv
          clear hv x0a x0b x1a x1b x2a x2b
          go_wp2_with fail
          have hv2 := l41Step_any (some ⟨w2.heap.size, 0, none⟩) 0 0 t _ w4 HS4.out.hat HV.out
          rw [HT1.out, HT3.out] at hv2
          refine hv2.mono ?_
          clear hv2
          rintro e w5 ⟨rfl, hb5⟩
          have HX5 := Lib.hid ((hb5.block _ (heap_lt HX4.out)).trans HX4.out)
          have HY5 := Lib.hid ((hb5.block _ (heap_lt HY4.out)).trans HY4.out)
          have HB5 := Lib.hid (HB4.out.trans (hb5.mono HB4.out.size))
          have HS5 := Lib.hid (HS4.out.below hb5)
          clear hb5 HX4 HY4 HB4 HS4 z0a z1a z2a
          have x0a := (blk_cl (k := 0) HX5.out rfl).1
          have x0b := (blk_cl (k := 0) HX5.out rfl).2
          have x1a := (blk_cl (k := 1) HX5.out rfl).1
          have x1b := (blk_cl (k := 1) HX5.out rfl).2
          have x2a := (blk_cl (k := 2) HX5.out rfl).1
          have x2b := (blk_cl (k := 2) HX5.out rfl).2
          have z0a := (blk_cl (k := 0) HY5.out rfl).1
          have z1a := (blk_cl (k := 1) HY5.out rfl).1
          have z2a := (blk_cl (k := 2) HY5.out rfl).1
          generalize eT : stepS t = T
          by_cases hT : T = s
          · have HT := Lib.hid (from_yes HV.out (eT.trans hT))
            have q0 : (T.toList == s.toList) = true := by rw [hT]; simp
            clear hT eT
            go_wp2_with fail
            have hres := set3 (u0 := .string (ofBs a)) (u1 := .slice (some ⟨w2.heap.size, 0, none⟩) 0 0) (u2 := .bool false) HX5.out
            have e0 := (blk_cl (k := 0) hres rfl).1
            have e1 := (blk_cl (k := 1) hres rfl).1
            have e2 := (blk_cl (k := 2) hres rfl).1
            refine bodyPost_ret (v := .tuple #[.agg #[.string (ofBs a), .slice (some ⟨w2.heap.size, 0, none⟩) 0 0, .bool false], .bool true]) (by simp [results, Tryz.results80, go_sem, e0, e1, e2]) rfl ⟨(some ⟨w2.heap.size, 0, none⟩), 0, 0, ?_, ?_, ?_⟩
            · rw [HT.out.1, HT.out.2, HT1.out, HT3.out]
            · rw [HT.out.2]; exact (((HS5.out.set (by omega)).set (by omega)).set (by omega)).mono (by omega)
            · exact ((HB5.out.setCell (p := ⟨w.heap.size, 0, none⟩) (Nat.le_refl _) _).setCell (p := ⟨w.heap.size, 1, none⟩) (Nat.le_refl _) _).setCell (p := ⟨w.heap.size, 2, none⟩) (Nat.le_refl _) _
          · have HF := Lib.hid (HNO.out (fun h => hT (eT.symm.trans h.2)))
            have q0 : (T.toList == s.toList) = false := by
              rw [beq_eq_false_iff_ne]
              intro e
              rw [toList_bs, toList_bs] at e
              exact hT (by have := congrArg ofBs e; rwa [of_bs, of_bs] at this)
            clear hT eT
            go_wp2_with fail
            have hres := set3 (u0 := .string ⟨#[]⟩) (u1 := .slice none 0 0) (u2 := .bool false) HX5.out
            have e0 := (blk_cl (k := 0) hres rfl).1
            have e1 := (blk_cl (k := 1) hres rfl).1
            have e2 := (blk_cl (k := 2) hres rfl).1
            refine bodyPost_ret (v := .tuple #[.agg #[.string ⟨#[]⟩, .slice none 0 0, .bool false], .bool false]) (by simp [results, Tryz.results80, go_sem, e0, e1, e2]) rfl ⟨none, 0, 0, ?_, ?_, ?_⟩
            · rw [from_not HF.out, HF.out]; rfl
            · rw [from_not HF.out]; exact sstr_none _ _
            · exact ((HB5.out.setCell (p := ⟨w.heap.size, 0, none⟩) (Nat.le_refl _) _).setCell (p := ⟨w.heap.size, 1, none⟩) (Nat.le_refl _) _).setCell (p := ⟨w.heap.size, 2, none⟩) (Nat.le_refl _) _
      · have hq : ((ofBs b).toList == [45]) = false := by rw [toList_bs, bs_of, beq_eq_false_iff_ne]; exact hb
        have HA1 := Lib.hid (show t.after = (cutW 44 b).map ofBs by rw [HRA.out, if_neg hb])
        have HOKT : Hid (okStep t) := Lib.hid (by
          have hm : 1048576 ≤ maxLen := by unfold maxLen; omega
          refine ⟨by rw [HT1.out]; omega, ?_, ?_⟩
          · rw [HA1.out, List.length_map]
            have := cutW_len 44 b
            omega
          · intro j hj
            rw [HA1.out, List.length_map] at hj
            rw [HA1.out, nth_map_ofBs _ j hj, ofBs_size]
            have := cutW_mem 44 b _ (List.getElem_mem hj)
            omega)
        clear hb
        go_wp2_with fail
        generalize eW : ((w2.setCell ⟨w.heap.size + 1, 0, none⟩ (.string (ofBs a))).alloc (.cells #[] 9)).setCell ⟨w.heap.size + 1, 1, none⟩ (.slice (some ⟨w2.heap.size, 0, none⟩) 0 0) = wb at *
        clear hq yb0 yb1 yb1b yb2 c0 c1 y0a y0b ya1a ya1b eW
        refine (l41Cut_any (ofBs b) 44 wb (by omega)).mono ?_
        rintro e w3 ⟨A3, c3, rfl, hs3, hb3⟩
        rw [bs_of] at *
        rw [← HA1.out] at hs3
        generalize (cutW 44 b).length = n3 at *
        have hsb := HSB.out
        have hy3 := (hb3.block _ (heap_lt HYB.out)).trans HYB.out
        have hx3 := (hb3.block _ (heap_lt HXB.out)).trans HXB.out
        have hbb3 := HBB.out.trans (hb3.mono HBB.out.size)
        have y1a := (blk_cl (k := 1) hy3 rfl).1
        have y1b := (blk_cl (k := 1) hy3 rfl).2
        have hyv := set31 (u := .slice A3 n3 c3) hy3
        have hxv := (Below.heap_setCell w3 ⟨w.heap.size + 1, 1, none⟩ (.slice A3 n3 c3) w.heap.size (by intro e; simp at e)).trans hx3
        have hbv := hbb3.setCell (p := ⟨w.heap.size + 1, 1, none⟩) (Nat.le_succ _) (.slice A3 n3 c3)
        have hsv := hs3.set (o := 1) (u := .slice A3 n3 c3) (show w.heap.size + 1 < wb.heap.size by omega)
        clear HXB HYB HBB hb3 hx3 hbb3 hs3
        have HXB := Lib.hid hxv
        have HYB := Lib.hid hyv
        have HBB := Lib.hid hbv
        have HSV := Lib.hid hsv
        have v0a := (blk_cl (k := 0) hyv rfl).1
        have v1a := (blk_cl (k := 1) hyv rfl).1
        have v2a := (blk_cl (k := 2) hyv rfl).1
        clear hxv hyv hbv hsv hy3
        go_wp2_with fail
        generalize eV : w3.setCell ⟨w.heap.size + 1, 1, none⟩ (.slice A3 n3 c3) = wv at *
        clear y1a y1b v0a v1a v2a eV
        have hv1 := stepS_any A3 n3 c3 t _ wv HSV.out.hat HOKT.out
        rw [HT1.out, HT3.out] at hv1
        refine hv1.mono ?_
        clear hv1
        rintro e w4 ⟨rfl, hb4⟩
        have HX4 := Lib.hid ((hb4.block _ (heap_lt HXB.out)).trans HXB.out)
        have HY4 := Lib.hid ((hb4.block _ (heap_lt HYB.out)).trans HYB.out)
        have HB4 := Lib.hid (HBB.out.trans (hb4.mono HBB.out.size))
        have HS4 := Lib.hid (HSV.out.below hb4)
        clear hb4 HXB HYB HBB HSV
        have x0a := (blk_cl (k := 0) HX4.out rfl).1
        have x0b := (blk_cl (k := 0) HX4.out rfl).2
        have x1a := (blk_cl (k := 1) HX4.out rfl).1
        have x1b := (blk_cl (k := 1) HX4.out rfl).2
        have x2a := (blk_cl (k := 2) HX4.out rfl).1
        have x2b := (blk_cl (k := 2) HX4.out rfl).2
        have z0a := (blk_cl (k := 0) HY4.out rfl).1
        have z1a := (blk_cl (k := 1) HY4.out rfl).1
        have z2a := (blk_cl (k := 2) HY4.out rfl).1
        cases hv : stepB t
        · have HF := Lib.hid (HNO.out (fun h => by rw [hv] at h; exact absurd h.1 (by decide)))
          clear hv
          go_wp2_with fail
          have hres := set3 (u0 := .string ⟨#[]⟩) (u1 := .slice none 0 0) (u2 := .bool false) HX4.out
          have e0 := (blk_cl (k := 0) hres rfl).1
          have e1 := (blk_cl (k := 1) hres rfl).1
          have e2 := (blk_cl (k := 2) hres rfl).1
          refine bodyPost_ret (v := .tuple #[.agg #[.string ⟨#[]⟩, .slice none 0 0, .bool false], .bool false]) (by simp [results, Tryz.results80, go_sem, e0, e1, e2]) rfl ⟨none, 0, 0, ?_, ?_, ?_⟩
          · rw [from_not HF.out, HF.out]; rfl
          · rw [from_not HF.out]; exact sstr_none _ _
          · exact ((HB4.out.setCell (p := ⟨w.heap.size, 0, none⟩) (Nat.le_refl _) _).setCell (p := ⟨w.heap.size, 1, none⟩) (Nat.le_refl _) _).setCell (p := ⟨w.heap.size, 2, none⟩) (Nat.le_refl _) _
        · have HV := Lib.hid hv
          clear hv x0a x0b x1a x1b x2a x2b
          go_wp2_with fail
          have hv2 := l41Step_any A3 n3 c3 t _ w4 HS4.out.hat HV.out
          rw [HT1.out, HT3.out] at hv2
          refine hv2.mono ?_
          clear hv2
          rintro e w5 ⟨rfl, hb5⟩
          have HX5 := Lib.hid ((hb5.block _ (heap_lt HX4.out)).trans HX4.out)
          have HY5 := Lib.hid ((hb5.block _ (heap_lt HY4.out)).trans HY4.out)
          have HB5 := Lib.hid (HB4.out.trans (hb5.mono HB4.out.size))
          have HS5 := Lib.hid (HS4.out.below hb5)
          clear hb5 HX4 HY4 HB4 HS4 z0a z1a z2a
          have x0a := (blk_cl (k := 0) HX5.out rfl).1
          have x0b := (blk_cl (k := 0) HX5.out rfl).2
          have x1a := (blk_cl (k := 1) HX5.out rfl).1
          have x1b := (blk_cl (k := 1) HX5.out rfl).2
          have x2a := (blk_cl (k := 2) HX5.out rfl).1
          have x2b := (blk_cl (k := 2) HX5.out rfl).2
          have z0a := (blk_cl (k := 0) HY5.out rfl).1
          have z1a := (blk_cl (k := 1) HY5.out rfl).1
          have z2a := (blk_cl (k := 2) HY5.out rfl).1
          generalize eT : stepS t = T
          by_cases hT : T = s
          · have HT := Lib.hid (from_yes HV.out (eT.trans hT))
            have q0 : (T.toList == s.toList) = true := by rw [hT]; simp
            clear hT eT
            go_wp2_with fail
            have hres := set3 (u0 := .string (ofBs a)) (u1 := .slice A3 n3 c3) (u2 := .bool false) HX5.out
            have e0 := (blk_cl (k := 0) hres rfl).1
            have e1 := (blk_cl (k := 1) hres rfl).1
            have e2 := (blk_cl (k := 2) hres rfl).1
            refine bodyPost_ret (v := .tuple #[.agg #[.string (ofBs a), .slice A3 n3 c3, .bool false], .bool true]) (by simp [results, Tryz.results80, go_sem, e0, e1, e2]) rfl ⟨A3, n3, c3, ?_, ?_, ?_⟩
            · rw [HT.out.1, HT.out.2, HT1.out, HT3.out]
            · rw [HT.out.2]; exact (((HS5.out.set (by omega)).set (by omega)).set (by omega)).mono (by omega)
            · exact ((HB5.out.setCell (p := ⟨w.heap.size, 0, none⟩) (Nat.le_refl _) _).setCell (p := ⟨w.heap.size, 1, none⟩) (Nat.le_refl _) _).setCell (p := ⟨w.heap.size, 2, none⟩) (Nat.le_refl _) _
          · have HF := Lib.hid (HNO.out (fun h => hT (eT.symm.trans h.2)))
            have q0 : (T.toList == s.toList) = false := by
              rw [beq_eq_false_iff_ne]
              intro e
              rw [toList_bs, toList_bs] at e
              exact hT (by have := congrArg ofBs e; rwa [of_bs, of_bs] at this)
            clear hT eT
            go_wp2_with fail
            have hres := set3 (u0 := .string ⟨#[]⟩) (u1 := .slice none 0 0) (u2 := .bool false) HX5.out
            have e0 := (blk_cl (k := 0) hres rfl).1
            have e1 := (blk_cl (k := 1) hres rfl).1
            have e2 := (blk_cl (k := 2) hres rfl).1
            refine bodyPost_ret (v := .tuple #[.agg #[.string ⟨#[]⟩, .slice none 0 0, .bool false], .bool false]) (by simp [results, Tryz.results80, go_sem, e0, e1, e2]) rfl ⟨none, 0, 0, ?_, ?_, ?_⟩
            · rw [from_not HF.out, HF.out]; rfl
            · rw [from_not HF.out]; exact sstr_none _ _
            · exact ((HB5.out.setCell (p := ⟨w.heap.size, 0, none⟩) (Nat.le_refl _) _).setCell (p := ⟨w.heap.size, 1, none⟩) (Nat.le_refl _) _).setCell (p := ⟨w.heap.size, 2, none⟩) (Nat.le_refl _) _
    · have HF := Lib.hid (fromS_len h2)
      have hq : (((cutW 58 (restL s)).length : Int) == 2) = false := by rw [beq_eq_false_iff_ne]; omega
      clear h2 hs2
      have r0a := (blk_cl (k := 0) HX2.out rfl).1
      have r0b := (blk_cl (k := 0) HX2.out rfl).2
      have r1a := (blk_cl (k := 1) HX2.out rfl).1
      have r1b := (blk_cl (k := 1) HX2.out rfl).2
      have r2a := (blk_cl (k := 2) HX2.out rfl).1
      have r2b := (blk_cl (k := 2) HX2.out rfl).2
      go_wp2_with fail
      have hres := set3 (u0 := .string ⟨#[]⟩) (u1 := .slice none 0 0) (u2 := .bool false) HX2.out
      have e0 := (blk_cl (k := 0) hres rfl).1
      have e1 := (blk_cl (k := 1) hres rfl).1
      have e2 := (blk_cl (k := 2) hres rfl).1
      refine bodyPost_ret (v := .tuple #[.agg #[.string ⟨#[]⟩, .slice none 0 0, .bool false], .bool false]) (by simp [results, Tryz.results80, go_sem, e0, e1, e2]) rfl ⟨none, 0, 0, ?_, ?_, ?_⟩
      · rw [from_not HF.out, HF.out]; rfl
      · rw [from_not HF.out]; exact sstr_none _ _
      · exact ((HB2.out.setCell (p := ⟨w.heap.size, 0, none⟩) (Nat.le_refl _) _).setCell (p := ⟨w.heap.size, 1, none⟩) (Nat.le_refl _) _).setCell (p := ⟨w.heap.size, 2, none⟩) (Nat.le_refl _) _
  · obtain ⟨hR, hU⟩ := rest_no hL
    have hbs : bs s = restL s := by unfold restL; rw [if_neg (fun e => hL e.2)]
    have HU := Lib.hid hU; clear hU hR
    by_cases h0 : 0 < s.size
    · have hi0 : decide ((0 : Int) < (s.size : Int)) = true := by simp; omega
      obtain ⟨x, hx⟩ : ∃ x, s[s.size - 1]'(by omega) = x := ⟨_, rfl⟩
      have hq : ((x.toNat : Int) == 33) = false := by
        rw [beq_eq_false_iff_ne]
        intro e
        rw [bs_pos h0, hx] at hL
        exact hL (by rw [show x = 33 from UInt8.toNat_inj.1 (by show x.toNat = 33; omega)])
      clear hL
      go_wp2_with fail
      clear hi0 hq hx
      have HX1 := Lib.hid (heap_old (o := .cells #[.string ⟨#[]⟩, .slice none 0 0, .bool true] 35) (heap_new (w := w) (o := .cells #[.string ⟨#[]⟩, .slice none 0 0, .bool false] 35) rfl))
      have HY1 := Lib.hid (heap_new (w := w.alloc (.cells #[.string ⟨#[]⟩, .slice none 0 0, .bool false] 35)) (b := w.heap.size + 1) (o := .cells #[.string ⟨#[]⟩, .slice none 0 0, .bool true] 35) (by simp))
      have HB1 := Lib.hid (((Below.refl w.heap.size w).alloc (Nat.le_refl _) (.cells #[.string ⟨#[]⟩, .slice none 0 0, .bool false] 35)).alloc (by simp) (.cells #[.string ⟨#[]⟩, .slice none 0 0, .bool true] 35))
      have hsz1 : ((w.alloc (.cells #[.string ⟨#[]⟩, .slice none 0 0, .bool false] 35)).alloc (.cells #[.string ⟨#[]⟩, .slice none 0 0, .bool true] 35)).heap.size = w.heap.size + 2 := by simp
      generalize (w.alloc (.cells #[.string ⟨#[]⟩, .slice none 0 0, .bool false] 35)).alloc (.cells #[.string ⟨#[]⟩, .slice none 0 0, .bool true] 35) = w1 at *
      refine (l41Cut_any s 58 w1 hs).mono ?_
      rintro e w2 ⟨A2, c2, rfl, hs2, hb2⟩
      rw [hbs] at hs2 ⊢
      have hx2 := (hb2.block _ (heap_lt HX1.out)).trans HX1.out
      have hy2 := (hb2.block _ (heap_lt HY1.out)).trans HY1.out
      have HB2 := Lib.hid (HB1.out.trans (hb2.mono HB1.out.size))
      clear hb2 HX1 HY1 HB1
      have HX2 := Lib.hid hx2
      have HY2 := Lib.hid hy2
      clear hx2 hy2
      by_cases h2 : (cutW 58 (restL s)).length = 2
      · obtain ⟨a, b, hab⟩ := two_of h2
        have hs3 : SStr w2 w1.heap.size A2 2 [ofBs a, ofBs b] := by rw [hab] at hs2; exact hs2
        rw [h2]
        have hal : (ofBs a).size ≤ s.size ∧ (ofBs b).size ≤ s.size := by
          have m1 := cutW_mem 58 (restL s) a (by rw [hab]; simp)
          have m2 := cutW_mem 58 (restL s) b (by rw [hab]; simp)
          rw [ofBs_size, ofBs_size]
          omega
        have hbl : b.length + 1 ≤ s.size := by have := cutW_two hab; omega
        have HNO := Lib.hid (fun hn => fromS_no hab (hn : ¬ (stepB (readS s a b) = true ∧ stepS (readS s a b) = s)))
        have HRA := Lib.hid (show (readS s a b).after = if b = [45] then [] else (cutW 44 b).map ofBs from rfl)
        clear hs2 h2 hab
        obtain ⟨k, cs, rfl, hk1, hkb, hc0, hc1⟩ := Own2.cells hs3
        clear hs3
        have hkne : k ≠ w.heap.size + 1 := by omega
        have hkn0 : k ≠ w.heap.size := by omega
        have c0 := (blk_cl (k := 0) hkb hc0).1
        have y0a := (blk_cl (k := 0) HY2.out rfl).1
        have y0b := (blk_cl (k := 0) HY2.out rfl).2
        have hya := heap_old (o := .cells #[] 9) (set_at (o := 0) (u := .string (ofBs a)) HY2.out)
        have hxa := heap_old (o := .cells #[] 9) ((Below.heap_setCell w2 ⟨w.heap.size + 1, 0, none⟩ (.string (ofBs a)) w.heap.size (by intro e; simp at e)).trans HX2.out)
        have hka := heap_old (o := .cells #[] 9) ((Below.heap_setCell w2 ⟨w.heap.size + 1, 0, none⟩ (.string (ofBs a)) k (by intro e; simp at e; omega)).trans hkb)
        have hba := (HB2.out.setCell (p := ⟨w.heap.size + 1, 0, none⟩) (Nat.le_succ _) (.string (ofBs a))).alloc (by simpa using HB2.out.size) (.cells #[] 9)
        have hsa : w2.heap.size < ((w2.setCell ⟨w.heap.size + 1, 0, none⟩ (.string (ofBs a))).alloc (.cells #[] 9)).heap.size := by simp
        have ya1a := (blk_cl (k := 1) hya rfl).1
        have ya1b := (blk_cl (k := 1) hya rfl).2
        have hyb := set31 (u := .slice (some ⟨w2.heap.size, 0, none⟩) 0 0) hya
        have hxb := (Below.heap_setCell _ ⟨w.heap.size + 1, 1, none⟩ (.slice (some ⟨w2.heap.size, 0, none⟩) 0 0) w.heap.size (by intro e; simp at e)).trans hxa
        have hkbb := (Below.heap_setCell _ ⟨w.heap.size + 1, 1, none⟩ (.slice (some ⟨w2.heap.size, 0, none⟩) 0 0) k (by intro e; simp at e; omega)).trans hka
        have hbb := hba.setCell (p := ⟨w.heap.size + 1, 1, none⟩) (Nat.le_succ _) (.slice (some ⟨w2.heap.size, 0, none⟩) 0 0)
        have hsb : w.heap.size + 2 < (((w2.setCell ⟨w.heap.size + 1, 0, none⟩ (.string (ofBs a))).alloc (.cells #[] 9)).setCell ⟨w.heap.size + 1, 1, none⟩ (.slice (some ⟨w2.heap.size, 0, none⟩) 0 0)).heap.size := by
          have := heap_lt hkbb
          omega
        have HYB := Lib.hid hyb
        have HXB := Lib.hid hxb
        have HBB := Lib.hid hbb
        have HSB := Lib.hid hsb
        have c1 := (blk_cl (k := 1) hkbb hc1).1
        have yb0 := (blk_cl (k := 0) hyb rfl).1
        have yb1 := (blk_cl (k := 1) hyb rfl).1
        have yb1b := (blk_cl (k := 1) hyb rfl).2
        have yb2 := (blk_cl (k := 2) hyb rfl).1
        clear hya hxa hka hba hsa hyb hxb hkbb hbb hsb hkb hc0 hc1
        have ht1 : (readS s a b).name = ofBs a := rfl
        have ht3 : (readS s a b).undo = true := HU.out
        generalize readS s a b = t at *
        have HT1 := Lib.hid ht1
        have HT3 := Lib.hid ht3
        clear ht1 ht3
        by_cases hb : b = [45]
        · have hq : ((ofBs b).toList == [45]) = true := by rw [toList_bs, bs_of, beq_iff_eq]; exact hb
          have HA0 := Lib.hid (show t.after = [] by rw [HRA.out, if_pos hb])
          have HOKT : Hid (okStep t) := Lib.hid ⟨by rw [HT1.out]; unfold maxLen; omega, by rw [HA0.out]; exact ⟨Nat.zero_le _, fun j hj => absurd hj (Nat.not_lt_zero j)⟩⟩
          clear hb
          go_wp2_with fail
          generalize eW : ((w2.setCell ⟨w.heap.size + 1, 0, none⟩ (.string (ofBs a))).alloc (.cells #[] 9)).setCell ⟨w.heap.size + 1, 1, none⟩ (.slice (some ⟨w2.heap.size, 0, none⟩) 0 0) = wv at *
          have HSV : Hid (SStr wv (w.heap.size + 2) (some ⟨w2.heap.size, 0, none⟩) 0 t.after) := Lib.hid (by rw [HA0.out]; exact ⟨rfl, fun h => absurd h (by omega)⟩)
          clear hq yb0 yb1 yb1b yb2 c0 c1 y0a y0b ya1a ya1b eW
          have hv1 := stepS_any (some ⟨w2.heap.size, 0, none⟩) 0 0 t _ wv HSV.out.hat HOKT.out
          rw [HT1.out, HT3.out] at hv1
          refine hv1.mono ?_
          clear hv1
          rintro e w4 ⟨rfl, hb4⟩
          have HX4 := Lib.hid ((hb4.block _ (heap_lt HXB.out)).trans HXB.out)
          have HY4 := Lib.hid ((hb4.block _ (heap_lt HYB.out)).trans HYB.out)
          have HB4 := Lib.hid (HBB.out.trans (hb4.mono HBB.out.size))
          have HS4 := Lib.hid (HSV.out.below hb4)
          clear hb4 HXB HYB HBB HSV
          have x0a := (blk_cl (k := 0) HX4.out rfl).1
          have x0b := (blk_cl (k := 0) HX4.out rfl).2
          have x1a := (blk_cl (k := 1) HX4.out rfl).1
          have x1b := (blk_cl (k := 1) HX4.out rfl).2
          have x2a := (blk_cl (k := 2) HX4.out rfl).1
          have x2b := (blk_cl (k := 2) HX4.out rfl).2
          have z0a := (blk_cl (k := 0) HY4.out rfl).1
          have z1a := (blk_cl (k := 1) HY4.out rfl).1
          have z2a := (blk_cl (k := 2) HY4.out rfl).1
          cases hv : stepB t
          · have HF := Lib.hid (HNO.out (fun h => by rw [hv] at h; exact absurd h.1 (by decide)))
            clear hv
            go_wp2_with fail
            have hres := set3 (u0 := .string ⟨#[]⟩) (u1 := .slice none 0 0) (u2 := .bool false) HX4.out
            have e0 := (blk_cl (k := 0) hres rfl).1
            have e1 := (blk_cl (k := 1) hres rfl).1
            have e2 := (blk_cl (k := 2) hres rfl).1
            refine bodyPost_ret (v := .tuple #[.agg #[.string ⟨#[]⟩, .slice none 0 0, .bool false], .bool false]) (by simp [results, Tryz.results80, go_sem, e0, e1, e2]) rfl ⟨none, 0, 0, ?_, ?_, ?_⟩
            · rw [from_not HF.out, HF.out]; rfl
            · rw [from_not HF.out]; exact sstr_none _ _
            · exact ((HB4.out.setCell (p := ⟨w.heap.size, 0, none⟩) (Nat.le_refl _) _).setCell (p := ⟨w.heap.size, 1, none⟩) (Nat.le_refl _) _).setCell (p := ⟨w.heap.size, 2, none⟩) (Nat.le_refl _) _
          · have HV := Lib.hid hv
            clear hv x0a x0b x1a x1b x2a x2b
            go_wp2_with fail
            have hv2 := l41Step_any (some ⟨w2.heap.size, 0, none⟩) 0 0 t _ w4 HS4.out.hat HV.out
            rw [HT1.out, HT3.out] at hv2
            refine hv2.mono ?_
            clear hv2
            rintro e w5 ⟨rfl, hb5⟩
            have HX5 := Lib.hid ((hb5.block _ (heap_lt HX4.out)).trans HX4.out)
            have HY5 := Lib.hid ((hb5.block _ (heap_lt HY4.out)).trans HY4.out)
            have HB5 := Lib.hid (HB4.out.trans (hb5.mono HB4.out.size))
            have HS5 := Lib.hid (HS4.out.below hb5)
            clear hb5 HX4 HY4 HB4 HS4 z0a z1a z2a
            have x0a := (blk_cl (k := 0) HX5.out rfl).1
            have x0b := (blk_cl (k := 0) HX5.out rfl).2
            have x1a := (blk_cl (k := 1) HX5.out rfl).1
            have x1b := (blk_cl (k := 1) HX5.out rfl).2
            have x2a := (blk_cl (k := 2) HX5.out rfl).1
            have x2b := (blk_cl (k := 2) HX5.out rfl).2
            have z0a := (blk_cl (k := 0) HY5.out rfl).1
            have z1a := (blk_cl (k := 1) HY5.out rfl).1
            have z2a := (blk_cl (k := 2) HY5.out rfl).1
            generalize eT : stepS t = T
            by_cases hT : T = s
            · have HT := Lib.hid (from_yes HV.out (eT.trans hT))
              have q0 : (T.toList == s.toList) = true := by rw [hT]; simp
              clear hT eT
              go_wp2_with fail
              have hres := set3 (u0 := .string (ofBs a)) (u1 := .slice (some ⟨w2.heap.size, 0, none⟩) 0 0) (u2 := .bool true) HX5.out
              have e0 := (blk_cl (k := 0) hres rfl).1
              have e1 := (blk_cl (k := 1) hres rfl).1
              have e2 := (blk_cl (k := 2) hres rfl).1
              refine bodyPost_ret (v := .tuple #[.agg #[.string (ofBs a), .slice (some ⟨w2.heap.size, 0, none⟩) 0 0, .bool true], .bool true]) (by simp [results, Tryz.results80, go_sem, e0, e1, e2]) rfl ⟨(some ⟨w2.heap.size, 0, none⟩), 0, 0, ?_, ?_, ?_⟩
              · rw [HT.out.1, HT.out.2, HT1.out, HT3.out]
              · rw [HT.out.2]; exact (((HS5.out.set (by omega)).set (by omega)).set (by omega)).mono (by omega)
              · exact ((HB5.out.setCell (p := ⟨w.heap.size, 0, none⟩) (Nat.le_refl _) _).setCell (p := ⟨w.heap.size, 1, none⟩) (Nat.le_refl _) _).setCell (p := ⟨w.heap.size, 2, none⟩) (Nat.le_refl _) _
            · have HF := Lib.hid (HNO.out (fun h => hT (eT.symm.trans h.2)))
              have q0 : (T.toList == s.toList) = false := by
                rw [beq_eq_false_iff_ne]
                intro e
                rw [toList_bs, toList_bs] at e
                exact hT (by have := congrArg ofBs e; rwa [of_bs, of_bs] at this)
              clear hT eT
              go_wp2_with fail
              have hres := set3 (u0 := .string ⟨#[]⟩) (u1 := .slice none 0 0) (u2 := .bool false) HX5.out
              have e0 := (blk_cl (k := 0) hres rfl).1
              have e1 := (blk_cl (k := 1) hres rfl).1
              have e2 := (blk_cl (k := 2) hres rfl).1
              refine bodyPost_ret (v := .tuple #[.agg #[.string ⟨#[]⟩, .slice none 0 0, .bool false], .bool false]) (by simp [results, Tryz.results80, go_sem, e0, e1, e2]) rfl ⟨none, 0, 0, ?_, ?_, ?_⟩
              · rw [from_not HF.out, HF.out]; rfl
              · rw [from_not HF.out]; exact sstr_none _ _
              · exact ((HB5.out.setCell (p := ⟨w.heap.size, 0, none⟩) (Nat.le_refl _) _).setCell (p := ⟨w.heap.size, 1, none⟩) (Nat.le_refl _) _).setCell (p := ⟨w.heap.size, 2, none⟩) (Nat.le_refl _) _
        · have hq : ((ofBs b).toList == [45]) = false := by rw [toList_bs, bs_of, beq_eq_false_iff_ne]; exact hb
          have HA1 := Lib.hid (show t.after = (cutW 44 b).map ofBs by rw [HRA.out, if_neg hb])
          have HOKT : Hid (okStep t) := Lib.hid (by
            have hm : 1048576 ≤ maxLen := by unfold maxLen; omega
            refine ⟨by rw [HT1.out]; omega, ?_, ?_⟩
            · rw [HA1.out, List.length_map]
              have := cutW_len 44 b
              omega
            · intro j hj
              rw [HA1.out, List.length_map] at hj
              rw [HA1.out, nth_map_ofBs _ j hj, ofBs_size]
              have := cutW_mem 44 b _ (List.getElem_mem hj)
              omega)
          clear hb
          go_wp2_with fail
          generalize eW : ((w2.setCell ⟨w.heap.size + 1, 0, none⟩ (.string (ofBs a))).alloc (.cells #[] 9)).setCell ⟨w.heap.size + 1, 1, none⟩ (.slice (some ⟨w2.heap.size, 0, none⟩) 0 0) = wb at *
          clear hq yb0 yb1 yb1b yb2 c0 c1 y0a y0b ya1a ya1b eW
          refine (l41Cut_any (ofBs b) 44 wb (by omega)).mono ?_
          rintro e w3 ⟨A3, c3, rfl, hs3, hb3⟩
          rw [bs_of] at *
          rw [← HA1.out] at hs3
          generalize (cutW 44 b).length = n3 at *
          have hsb := HSB.out
          have hy3 := (hb3.block _ (heap_lt HYB.out)).trans HYB.out
          have hx3 := (hb3.block _ (heap_lt HXB.out)).trans HXB.out
          have hbb3 := HBB.out.trans (hb3.mono HBB.out.size)
          have y1a := (blk_cl (k := 1) hy3 rfl).1
          have y1b := (blk_cl (k := 1) hy3 rfl).2
          have hyv := set31 (u := .slice A3 n3 c3) hy3
          have hxv := (Below.heap_setCell w3 ⟨w.heap.size + 1, 1, none⟩ (.slice A3 n3 c3) w.heap.size (by intro e; simp at e)).trans hx3
          have hbv := hbb3.setCell (p := ⟨w.heap.size + 1, 1, none⟩) (Nat.le_succ _) (.slice A3 n3 c3)
          have hsv := hs3.set (o := 1) (u := .slice A3 n3 c3) (show w.heap.size + 1 < wb.heap.size by omega)
          clear HXB HYB HBB hb3 hx3 hbb3 hs3
          have HXB := Lib.hid hxv
          have HYB := Lib.hid hyv
          have HBB := Lib.hid hbv
          have HSV := Lib.hid hsv
          have v0a := (blk_cl (k := 0) hyv rfl).1
          have v1a := (blk_cl (k := 1) hyv rfl).1
          have v2a := (blk_cl (k := 2) hyv rfl).1
          clear hxv hyv hbv hsv hy3
          go_wp2_with fail
          generalize eV : w3.setCell ⟨w.heap.size + 1, 1, none⟩ (.slice A3 n3 c3) = wv at *
          clear y1a y1b v0a v1a v2a eV
          have hv1 := stepS_any A3 n3 c3 t _ wv HSV.out.hat HOKT.out
          rw [HT1.out, HT3.out] at hv1
          refine hv1.mono ?_
          clear hv1
          rintro e w4 ⟨rfl, hb4⟩
          have HX4 := Lib.hid ((hb4.block _ (heap_lt HXB.out)).trans HXB.out)
          have HY4 := Lib.hid ((hb4.block _ (heap_lt HYB.out)).trans HYB.out)
          have HB4 := Lib.hid (HBB.out.trans (hb4.mono HBB.out.size))
          have HS4 := Lib.hid (HSV.out.below hb4)
          clear hb4 HXB HYB HBB HSV
          have x0a := (blk_cl (k := 0) HX4.out rfl).1
          have x0b := (blk_cl (k := 0) HX4.out rfl).2
          have x1a := (blk_cl (k := 1) HX4.out rfl).1
          have x1b := (blk_cl (k := 1) HX4.out rfl).2
          have x2a := (blk_cl (k := 2) HX4.out rfl).1
          have x2b := (blk_cl (k := 2) HX4.out rfl).2
          have z0a := (blk_cl (k := 0) HY4.out rfl).1
          have z1a := (blk_cl (k := 1) HY4.out rfl).1
          have z2a := (blk_cl (k := 2) HY4.out rfl).1
          cases hv : stepB t
          · have HF := Lib.hid (HNO.out (fun h => by rw [hv] at h; exact absurd h.1 (by decide)))
            clear hv
            go_wp2_with fail
            have hres := set3 (u0 := .string ⟨#[]⟩) (u1 := .slice none 0 0) (u2 := .bool false) HX4.out
            have e0 := (blk_cl (k := 0) hres rfl).1
            have e1 := (blk_cl (k := 1) hres rfl).1
            have e2 := (blk_cl (k := 2) hres rfl).1
            refine bodyPost_ret (v := .tuple #[.agg #[.string ⟨#[]⟩, .slice none 0 0, .bool false], .bool false]) (by simp [results, Tryz.results80, go_sem, e0, e1, e2]) rfl ⟨none, 0, 0, ?_, ?_, ?_⟩
            · rw [from_not HF.out, HF.out]; rfl
            · rw [from_not HF.out]; exact sstr_none _ _
            · exact ((HB4.out.setCell (p := ⟨w.heap.size, 0, none⟩) (Nat.le_refl _) _).setCell (p := ⟨w.heap.size, 1, none⟩) (Nat.le_refl _) _).setCell (p := ⟨w.heap.size, 2, none⟩) (Nat.le_refl _) _
          · have HV := Lib.hid hv
            clear hv x0a x0b x1a x1b x2a x2b
            go_wp2_with fail
            have hv2 := l41Step_any A3 n3 c3 t _ w4 HS4.out.hat HV.out
            rw [HT1.out, HT3.out] at hv2
            refine hv2.mono ?_
            clear hv2
            rintro e w5 ⟨rfl, hb5⟩
            have HX5 := Lib.hid ((hb5.block _ (heap_lt HX4.out)).trans HX4.out)
            have HY5 := Lib.hid ((hb5.block _ (heap_lt HY4.out)).trans HY4.out)
            have HB5 := Lib.hid (HB4.out.trans (hb5.mono HB4.out.size))
            have HS5 := Lib.hid (HS4.out.below hb5)
            clear hb5 HX4 HY4 HB4 HS4 z0a z1a z2a
            have x0a := (blk_cl (k := 0) HX5.out rfl).1
            have x0b := (blk_cl (k := 0) HX5.out rfl).2
            have x1a := (blk_cl (k := 1) HX5.out rfl).1
            have x1b := (blk_cl (k := 1) HX5.out rfl).2
            have x2a := (blk_cl (k := 2) HX5.out rfl).1
            have x2b := (blk_cl (k := 2) HX5.out rfl).2
            have z0a := (blk_cl (k := 0) HY5.out rfl).1
            have z1a := (blk_cl (k := 1) HY5.out rfl).1
            have z2a := (blk_cl (k := 2) HY5.out rfl).1
            generalize eT : stepS t = T
            by_cases hT : T = s
            · have HT := Lib.hid (from_yes HV.out (eT.trans hT))
              have q0 : (T.toList == s.toList) = true := by rw [hT]; simp
              clear hT eT
              go_wp2_with fail
              have hres := set3 (u0 := .string (ofBs a)) (u1 := .slice A3 n3 c3) (u2 := .bool true) HX5.out
              have e0 := (blk_cl (k := 0) hres rfl).1
              have e1 := (blk_cl (k := 1) hres rfl).1
              have e2 := (blk_cl (k := 2) hres rfl).1
              refine bodyPost_ret (v := .tuple #[.agg #[.string (ofBs a), .slice A3 n3 c3, .bool true], .bool true]) (by simp [results, Tryz.results80, go_sem, e0, e1, e2]) rfl ⟨A3, n3, c3, ?_, ?_, ?_⟩
              · rw [HT.out.1, HT.out.2, HT1.out, HT3.out]
              · rw [HT.out.2]; exact (((HS5.out.set (by omega)).set (by omega)).set (by omega)).mono (by omega)
              · exact ((HB5.out.setCell (p := ⟨w.heap.size, 0, none⟩) (Nat.le_refl _) _).setCell (p := ⟨w.heap.size, 1, none⟩) (Nat.le_refl _) _).setCell (p := ⟨w.heap.size, 2, none⟩) (Nat.le_refl _) _
            · have HF := Lib.hid (HNO.out (fun h => hT (eT.symm.trans h.2)))
              have q0 : (T.toList == s.toList) = false := by
                rw [beq_eq_false_iff_ne]
                intro e
                rw [toList_bs, toList_bs] at e
                exact hT (by have := congrArg ofBs e; rwa [of_bs, of_bs] at this)
              clear hT eT
              go_wp2_with fail
              have hres := set3 (u0 := .string ⟨#[]⟩) (u1 := .slice none 0 0) (u2 := .bool false) HX5.out
              have e0 := (blk_cl (k := 0) hres rfl).1
              have e1 := (blk_cl (k := 1) hres rfl).1
              have e2 := (blk_cl (k := 2) hres rfl).1
              refine bodyPost_ret (v := .tuple #[.agg #[.string ⟨#[]⟩, .slice none 0 0, .bool false], .bool false]) (by simp [results, Tryz.results80, go_sem, e0, e1, e2]) rfl ⟨none, 0, 0, ?_, ?_, ?_⟩
              · rw [from_not HF.out, HF.out]; rfl
              · rw [from_not HF.out]; exact sstr_none _ _
              · exact ((HB5.out.setCell (p := ⟨w.heap.size, 0, none⟩) (Nat.le_refl _) _).setCell (p := ⟨w.heap.size, 1, none⟩) (Nat.le_refl _) _).setCell (p := ⟨w.heap.size, 2, none⟩) (Nat.le_refl _) _
      · have HF := Lib.hid (fromS_len h2)
        have hq : (((cutW 58 (restL s)).length : Int) == 2) = false := by rw [beq_eq_false_iff_ne]; omega
        clear h2 hs2
        have r0a := (blk_cl (k := 0) HX2.out rfl).1
        have r0b := (blk_cl (k := 0) HX2.out rfl).2
        have r1a := (blk_cl (k := 1) HX2.out rfl).1
        have r1b := (blk_cl (k := 1) HX2.out rfl).2
        have r2a := (blk_cl (k := 2) HX2.out rfl).1
        have r2b := (blk_cl (k := 2) HX2.out rfl).2
        go_wp2_with fail
        have hres := set3 (u0 := .string ⟨#[]⟩) (u1 := .slice none 0 0) (u2 := .bool false) HX2.out
        have e0 := (blk_cl (k := 0) hres rfl).1
        have e1 := (blk_cl (k := 1) hres rfl).1
        have e2 := (blk_cl (k := 2) hres rfl).1
        refine bodyPost_ret (v := .tuple #[.agg #[.string ⟨#[]⟩, .slice none 0 0, .bool false], .bool false]) (by simp [results, Tryz.results80, go_sem, e0, e1, e2]) rfl ⟨none, 0, 0, ?_, ?_, ?_⟩
        · rw [from_not HF.out, HF.out]; rfl
        · rw [from_not HF.out]; exact sstr_none _ _
        · exact ((HB2.out.setCell (p := ⟨w.heap.size, 0, none⟩) (Nat.le_refl _) _).setCell (p := ⟨w.heap.size, 1, none⟩) (Nat.le_refl _) _).setCell (p := ⟨w.heap.size, 2, none⟩) (Nat.le_refl _) _
    · have hi0 : decide ((0 : Int) < (s.size : Int)) = false := decide_eq_false (by omega)
      clear hL
      go_wp2_with fail
      clear hi0
      have HX1 := Lib.hid (heap_old (o := .cells #[.string ⟨#[]⟩, .slice none 0 0, .bool true] 35) (heap_new (w := w) (o := .cells #[.string ⟨#[]⟩, .slice none 0 0, .bool false] 35) rfl))
      have HY1 := Lib.hid (heap_new (w := w.alloc (.cells #[.string ⟨#[]⟩, .slice none 0 0, .bool false] 35)) (b := w.heap.size + 1) (o := .cells #[.string ⟨#[]⟩, .slice none 0 0, .bool true] 35) (by simp))
      have HB1 := Lib.hid (((Below.refl w.heap.size w).alloc (Nat.le_refl _) (.cells #[.string ⟨#[]⟩, .slice none 0 0, .bool false] 35)).alloc (by simp) (.cells #[.string ⟨#[]⟩, .slice none 0 0, .bool true] 35))
      have hsz1 : ((w.alloc (.cells #[.string ⟨#[]⟩, .slice none 0 0, .bool false] 35)).alloc (.cells #[.string ⟨#[]⟩, .slice none 0 0, .bool true] 35)).heap.size = w.heap.size + 2 := by simp
      generalize (w.alloc (.cells #[.string ⟨#[]⟩, .slice none 0 0, .bool false] 35)).alloc (.cells #[.string ⟨#[]⟩, .slice none 0 0, .bool true] 35) = w1 at *
      refine (l41Cut_any s 58 w1 hs).mono ?_
      rintro e w2 ⟨A2, c2, rfl, hs2, hb2⟩
      rw [hbs] at hs2 ⊢
      have hx2 := (hb2.block _ (heap_lt HX1.out)).trans HX1.out
      have hy2 := (hb2.block _ (heap_lt HY1.out)).trans HY1.out
      have HB2 := Lib.hid (HB1.out.trans (hb2.mono HB1.out.size))
      clear hb2 HX1 HY1 HB1
      have HX2 := Lib.hid hx2
      have HY2 := Lib.hid hy2
      clear hx2 hy2
      by_cases h2 : (cutW 58 (restL s)).length = 2
      · obtain ⟨a, b, hab⟩ := two_of h2
        have hs3 : SStr w2 w1.heap.size A2 2 [ofBs a, ofBs b] := by rw [hab] at hs2; exact hs2
        rw [h2]
        have hal : (ofBs a).size ≤ s.size ∧ (ofBs b).size ≤ s.size := by
          have m1 := cutW_mem 58 (restL s) a (by rw [hab]; simp)
          have m2 := cutW_mem 58 (restL s) b (by rw [hab]; simp)
          rw [ofBs_size, ofBs_size]
          omega
        have hbl : b.length + 1 ≤ s.size := by have := cutW_two hab; omega
        exact absurd hbl (by omega)
      · have HF := Lib.hid (fromS_len h2)
        have hq : (((cutW 58 (restL s)).length : Int) == 2) = false := by rw [beq_eq_false_iff_ne]; omega
        clear h2 hs2
        have r0a := (blk_cl (k := 0) HX2.out rfl).1
        have r0b := (blk_cl (k := 0) HX2.out rfl).2
        have r1a := (blk_cl (k := 1) HX2.out rfl).1
        have r1b := (blk_cl (k := 1) HX2.out rfl).2
        have r2a := (blk_cl (k := 2) HX2.out rfl).1
        have r2b := (blk_cl (k := 2) HX2.out rfl).2
        go_wp2_with fail
        have hres := set3 (u0 := .string ⟨#[]⟩) (u1 := .slice none 0 0) (u2 := .bool false) HX2.out
        have e0 := (blk_cl (k := 0) hres rfl).1
        have e1 := (blk_cl (k := 1) hres rfl).1
        have e2 := (blk_cl (k := 2) hres rfl).1
        refine bodyPost_ret (v := .tuple #[.agg #[.string ⟨#[]⟩, .slice none 0 0, .bool false], .bool false]) (by simp [results, Tryz.results80, go_sem, e0, e1, e2]) rfl ⟨none, 0, 0, ?_, ?_, ?_⟩
        · rw [from_not HF.out, HF.out]; rfl
        · rw [from_not HF.out]; exact sstr_none _ _
        · exact ((HB2.out.setCell (p := ⟨w.heap.size, 0, none⟩) (Nat.le_refl _) _).setCell (p := ⟨w.heap.size, 1, none⟩) (Nat.le_refl _) _).setCell (p := ⟨w.heap.size, 2, none⟩) (Nat.le_refl _) _
end Go.Proofs.YthdfefgianokgaaGreatDoor

/- Decimals of the reference. -/
namespace Go.Proofs.YthdfefgianokgaaGreatDoor
open Go.RowKit

def digit (i : Nat) : UInt8 := UInt8.ofNat (48 + i)
def decS (i : Nat) : Str := if i < 10 then ⟨#[digit i]⟩ else ⟨#[digit (i / 10)]⟩ ++ ⟨#[digit (i % 10)]⟩

set_option maxRecDepth 100000 in
theorem l6Dec1_any (i : Nat) (hi : i < 10) (w : World) :
    Calls Tryz.prog 74 #[.int .i64 (i : Int)] w fun e w' => e = .returned (.string ⟨#[digit i]⟩) ∧ Below w.heap.size w w' := by
  have c1 : decide ((i : Int) < -9223372036854775807) = false := decide_eq_false (by omega)
  have c2 : decide ((i : Int) < 0) = false := decide_eq_false (by omega)
  have c3 : decide ((i : Int) < 10) = true := decide_eq_true (by omega)
  have hcv := conv1 (w.alloc (.cells #[.int .u8 (48 + (i : Int))] 5)) w.heap.size (48 + (i : Int)) (heap_new rfl)
  have hd : UInt8.ofNat (48 + (i : Int)).toNat = digit i := by
    unfold digit
    rw [show (48 + (i : Int)).toNat = 48 + i by omega]
  rw [hd] at hcv
  go_enter Tryz.func74, Tryz.ntmps74
  go_wp2_with fail
  go_ret
  exact ⟨rfl, (Below.refl _ _).alloc (Nat.le_refl _) _⟩
end Go.Proofs.YthdfefgianokgaaGreatDoor

/- Decimals of the reference: two digits. -/
namespace Go.Proofs.YthdfefgianokgaaGreatDoor
open Go.RowKit

section
variable {P : Program} {ops : Array Oper} {Q : Exit → Act → World → Prop} {md : Region.Mode} {S S' : World → Prop}
/-- The condition may grow on the way. -/
theorem wpAnyH_monoS (hss : ∀ w, S' w → S w) : ∀ (fuel : Nat) (listed : Array Bool) (a : Act) (w : World), wpAnyH P md ops Q S' fuel listed a w → wpAnyH P md ops Q S fuel listed a w
  | 0, _, _, _, h => h
  | fuel + 1, _, _, _, h => ⟨h.1, fun i hi => wpOp_mono (fun a' w' h' => ⟨hss w' h'.1, wpAnyH_monoS hss fuel _ a' w' h'.2⟩) (h.2 i hi)⟩
theorem wpAnyH_takeE0 {i : Nat} {oi : Oper} {v : Value} {d : Option Tmp} {fuel : Nat} {listed : Array Bool} {a : Act} {w : World} (hi : ops[i]? = some oi) (hd : oi.dst = d)
    (hs : Region.noSelect ops = true) (hf : Region.free md ops listed i = true) (hr : (Region.ready md ops listed).contains i = true)
    (hQ : ∀ c a w, Q (.panic c) (a.put d v) w → Q (.panic c) a w) (hy : YieldsIf P ops S oi v a) (hS : S w)
    (h : wpAnyH P md ops Q S fuel (listed.setIfInBounds i true) (a.put d v) w) : wpAnyH P md ops Q S (fuel + 1) listed a w := by
  subst hd
  exact wpAnyH_take hi hs hf hr hQ hy hS h
end

set_option maxRecDepth 100000 in
set_option maxHeartbeats 1000000 in
theorem l6Dec2_any (i : Nat) (h10 : 10 ≤ i) (hi : i < 100) (w : World) :
    Calls Tryz.prog 74 #[.int .i64 (i : Int)] w fun e w' => e = .returned (.string (decS i)) ∧ Below w.heap.size w w' := by
  have c1 : decide ((i : Int) < -9223372036854775807) = false := decide_eq_false (by omega)
  have c2 : decide ((i : Int) < 0) = false := decide_eq_false (by omega)
  have c3 : decide ((i : Int) < 10) = false := decide_eq_false (by omega)
  go_enter Tryz.func74, Tryz.ntmps74
  go_wp2_with fail
  refine wp_region_held_drew (S := fun w' => Below w.heap.size w w') (by kernel_rfl) (Below.refl _ _).drew (fun hH => ?_)
  refine wpAnyH_takeE0 (i := 0) (d := some 18) (v := ?v1) rfl (by rfl) (by kernel_rfl) (by kernel_rfl) (by kernel_rfl) (fun _ _ _ h => h) (Or.inl ⟨by rfl, ?y1⟩) hH ?r1
  case y1 => (intro w' hS; (try dsimp only at hS); go_simp; (try with_reducible rfl))
  (try simp only [Act.put, List.setIfInBounds_toArray, List.set_cons_zero, List.set_cons_succ])
  refine wpAnyH_takeE0 (i := 1) (d := some 19) (v := ?v2) rfl (by rfl) (by kernel_rfl) (by kernel_rfl) (by kernel_rfl) (fun _ _ _ h => h) (Or.inl ⟨by rfl, ?y2⟩) hH ?r2
  case y2 => (intro w' hS; (try dsimp only at hS); go_simp; (try with_reducible rfl))
  (try simp only [Act.put, List.setIfInBounds_toArray, List.set_cons_zero, List.set_cons_succ])
  refine wpAnyH_takeE0 (i := 3) (d := some 21) (v := ?v3) rfl (by rfl) (by kernel_rfl) (by kernel_rfl) (by kernel_rfl) (fun _ _ _ h => h) (Or.inl ⟨by rfl, ?y3⟩) hH ?r3
  case y3 => (intro w' hS; (try dsimp only at hS); go_simp; (try with_reducible rfl))
  (try simp only [Act.put, List.setIfInBounds_toArray, List.set_cons_zero, List.set_cons_succ])
  refine wpAnyH_takeE0 (i := 4) (d := some 22) (v := ?v4) rfl (by rfl) (by kernel_rfl) (by kernel_rfl) (by kernel_rfl) (fun _ _ _ h => h) (Or.inl ⟨by rfl, ?y4⟩) hH ?r4
  case y4 => (intro w' hS; (try dsimp only at hS); go_simp; (try with_reducible rfl))
  (try simp only [Act.put, List.setIfInBounds_toArray, List.set_cons_zero, List.set_cons_succ])
  refine wpAnyH_takeE0 (i := 5) (d := some 23) (v := ?v5) rfl (by rfl) (by kernel_rfl) (by kernel_rfl) (by kernel_rfl) (fun _ _ _ h => h) (Or.inl ⟨by rfl, ?y5⟩) hH ?r5
  case y5 => (intro w' hS; (try dsimp only at hS); go_simp; (try with_reducible rfl))
  (try simp only [Act.put, List.setIfInBounds_toArray, List.set_cons_zero, List.set_cons_succ])
  refine wpAnyH_takeE0 (i := 6) (d := some 24) (v := ?v6) rfl (by rfl) (by kernel_rfl) (by kernel_rfl) (by kernel_rfl) (fun _ _ _ h => h) (Or.inl ⟨by rfl, ?y6⟩) hH ?r6
  case y6 => (intro w' hS; (try dsimp only at hS); go_simp; (try with_reducible rfl))
  (try simp only [Act.put, List.setIfInBounds_toArray, List.set_cons_zero, List.set_cons_succ])
  have hw1 : IntKind.i64.wrap ((i : Int) / 10) = ((i / 10 : Nat) : Int) := by
    have h : ∀ j : Fin 10, IntKind.i64.wrap (j.val : Int) = (j.val : Int) := by decide
    rw [show ((i : Int) / 10) = ((i / 10 : Nat) : Int) by omega]
    exact h ⟨i / 10, by omega⟩
  have hw2 : IntKind.u8.wrap (IntKind.i64.wrap (48 + (i : Int).tmod 10)) = ((48 + i % 10 : Nat) : Int) := by
    have h : ∀ j : Fin 10, IntKind.u8.wrap (IntKind.i64.wrap (48 + (j.val : Int))) = ((48 + j.val : Nat) : Int) := by decide
    rw [Int.tmod_eq_emod_of_nonneg (by omega), show ((i : Int) % 10) = ((i % 10 : Nat) : Int) by omega]
    exact h ⟨i % 10, by omega⟩
  have hdec : (⟨#[digit (i / 10)]⟩ : Str) ++ (⟨#[UInt8.ofNat (48 + (i : Int) % 10).toNat]⟩ : Str) = decS i := by
    unfold decS
    rw [if_neg (by omega), show (48 + (i : Int) % 10).toNat = 48 + i % 10 by omega]
    rfl
  rw [hw1, hw2]
  refine wpAnyH_ready (rs := [2, 7]) (by kernel_rfl) (by simp) ?_
  refine AllReadyH.cons rfl (fun K hK => ?_) ?_
  · go_wp2_with fail
    go_at_call 74
    refine (l6Dec1_any (i / 10) (by omega) _).mono ?_
    rintro e w1 ⟨rfl, hb1⟩
    go_wp2_with fail
    refine hK.out _ _ (((Below.refl w.heap.size w).drew).trans hb1) (fun hH2 => ?_)
    clear hK K hH
    have hH := hH2
    (try simp only [Act.put, List.setIfInBounds_toArray, List.set_cons_zero, List.set_cons_succ])
    refine wpAnyH_ready (rs := [7]) (by kernel_rfl) (by simp) ?_
    refine AllReadyH.cons rfl (fun K hK => ?_) AllReadyH.nil
    go_simp
    refine hK.out _ _ (hH.alloc hH.size _) (fun hH2 => ?_)
    clear hK K hH
    have hH := And.intro hH2 (heap_new (w := w1) (b := w1.heap.size) (o := .cells #[.int .u8 (48 + (i : Int) % 10)] 5) rfl)
    refine wpAnyH_monoS (S' := fun w' => Below w.heap.size w w' ∧ w'.heap[w1.heap.size]? = some (.cells #[.int .u8 (48 + (i : Int) % 10)] 5 (0, 0))) (fun w h => h.1) _ _ _ _ ?_
    refine wpAnyH_takeE0 (i := 8) (d := some 26) (v := ?v18) rfl (by rfl) (by kernel_rfl) (by kernel_rfl) (by kernel_rfl) (fun _ _ _ h => h) (Or.inl ⟨by rfl, ?y18⟩) hH ?r18
    case y18 => (intro w' hS; (try dsimp only at hS); have hcv := conv1 w' w1.heap.size (48 + (i : Int) % 10) hS.2; go_simp; (try with_reducible rfl))
    (try simp only [Act.put, List.setIfInBounds_toArray, List.set_cons_zero, List.set_cons_succ])
    refine wpAnyH_takeE0 (i := 9) (d := some 27) (v := ?v19) rfl (by rfl) (by kernel_rfl) (by kernel_rfl) (by kernel_rfl) (fun _ _ _ h => h) (Or.inl ⟨by rfl, ?y19⟩) hH ?r19
    case y19 => (intro w' hS; (try dsimp only at hS); go_simp; (try with_reducible rfl))
    (try simp only [Act.put, List.setIfInBounds_toArray, List.set_cons_zero, List.set_cons_succ])
    refine wpAnyH_takeE0 (i := 10) (d := some 2) (v := ?v20) rfl (by rfl) (by kernel_rfl) (by kernel_rfl) (by kernel_rfl) (fun _ _ _ h => h) (Or.inl ⟨by rfl, ?y20⟩) hH ?r20
    case y20 => (intro w' hS; (try dsimp only at hS); go_simp; (try with_reducible rfl))
    (try simp only [Act.put, List.setIfInBounds_toArray, List.set_cons_zero, List.set_cons_succ])
    refine wpAnyH_done (by kernel_rfl) ?_ _
    go_wp2_with fail
    go_ret
    exact ⟨rfl, hH.1⟩
  · refine AllReadyH.cons rfl (fun K hK => ?_) AllReadyH.nil
    go_simp
    refine hK.out _ _ ((Below.refl w.heap.size w).drew.alloc (Nat.le_refl _) _) (fun hH2 => ?_)
    clear hK K hH
    have hH := And.intro hH2 (heap_new (w := w.drew) (b := w.heap.size) (o := .cells #[.int .u8 (48 + (i : Int) % 10)] 5) rfl)
    refine wpAnyH_monoS (S' := fun w' => Below w.heap.size w w' ∧ w'.heap[w.heap.size]? = some (.cells #[.int .u8 (48 + (i : Int) % 10)] 5 (0, 0))) (fun w h => h.1) _ _ _ _ ?_
    refine wpAnyH_takeE0 (i := 8) (d := some 26) (v := ?v28) rfl (by rfl) (by kernel_rfl) (by kernel_rfl) (by kernel_rfl) (fun _ _ _ h => h) (Or.inl ⟨by rfl, ?y28⟩) hH ?r28
    case y28 => (intro w' hS; (try dsimp only at hS); have hcv := conv1 w' w.heap.size (48 + (i : Int) % 10) hS.2; go_simp; (try with_reducible rfl))
    (try simp only [Act.put, List.setIfInBounds_toArray, List.set_cons_zero, List.set_cons_succ])
    (try simp only [Act.put, List.setIfInBounds_toArray, List.set_cons_zero, List.set_cons_succ])
    refine wpAnyH_ready (rs := [2]) (by kernel_rfl) (by simp) ?_
    refine AllReadyH.cons rfl (fun K hK => ?_) AllReadyH.nil
    go_wp2_with fail
    go_at_call 74
    refine (l6Dec1_any (i / 10) (by omega) _).mono ?_
    rintro e w1 ⟨rfl, hb1⟩
    go_wp2_with fail
    refine hK.out _ _ ⟨hH.1.trans (hb1.mono hH.1.size), (hb1.block _ (heap_lt hH.2)).trans hH.2⟩ (fun hH2 => ?_)
    clear hK K hH
    have hH := hH2
    (try simp only [Act.put, List.setIfInBounds_toArray, List.set_cons_zero, List.set_cons_succ])
    refine wpAnyH_takeE0 (i := 9) (d := some 27) (v := ?v29) rfl (by rfl) (by kernel_rfl) (by kernel_rfl) (by kernel_rfl) (fun _ _ _ h => h) (Or.inl ⟨by rfl, ?y29⟩) hH ?r29
    case y29 => (intro w' hS; (try dsimp only at hS); go_simp; (try with_reducible rfl))
    (try simp only [Act.put, List.setIfInBounds_toArray, List.set_cons_zero, List.set_cons_succ])
    refine wpAnyH_takeE0 (i := 10) (d := some 2) (v := ?v30) rfl (by rfl) (by kernel_rfl) (by kernel_rfl) (by kernel_rfl) (fun _ _ _ h => h) (Or.inl ⟨by rfl, ?y30⟩) hH ?r30
    case y30 => (intro w' hS; (try dsimp only at hS); go_simp; (try with_reducible rfl))
    (try simp only [Act.put, List.setIfInBounds_toArray, List.set_cons_zero, List.set_cons_succ])
    refine wpAnyH_done (by kernel_rfl) ?_ _
    go_wp2_with fail
    go_ret
    exact ⟨rfl, hH.1⟩
theorem l6Dec_any (i : Nat) (hi : i < 100) (w : World) :
    Calls Tryz.prog 74 #[.int .i64 (i : Int)] w fun e w' => e = .returned (.string (decS i)) ∧ Below w.heap.size w w' := by
  by_cases h : i < 10
  · have e : decS i = ⟨#[digit i]⟩ := by unfold decS; rw [if_pos h]
    rw [e]
    exact l6Dec1_any i h w
  · exact l6Dec2_any i (by omega) hi w
end Go.Proofs.YthdfefgianokgaaGreatDoor

/- Texts of flows. No program in sight. -/
namespace Go.Proofs.YthdfefgianokgaaGreatDoor
open Go.RowKit

def lineS (s : Step) : Str := stepS s ++ ⟨#[10]⟩
def headS (v : Nat) : Str := (⟨#[102, 108, 111, 119, 32]⟩ ++ decS v) ++ ⟨#[10]⟩
/-- The head and the first k lines. -/
def linesS (v : Nat) (ss : List Step) : Nat → Str
  | 0 => headS v
  | k + 1 => linesS v ss k ++ lineS (nth ss k)
theorem lines_size {v : Nat} (hv : v < 100) {ss : List Step} : ∀ k, (∀ j, j < k → stepB (nth ss j) = true) → (linesS v ss k).size ≤ 8 + k * 101
  | 0, _ => by
    show (headS v).size ≤ 8
    unfold headS decS
    split
    · rw [bsz_app, bsz_app]; show 5 + 1 + 1 ≤ 8; omega
    · rw [bsz_app, bsz_app, bsz_app]; show 5 + (1 + 1) + 1 ≤ 8; omega
  | k + 1, h => by
    have h1 := lines_size hv k (fun j hj => h j (by omega))
    have h2 := (mark_ex (h k (by omega)))
    obtain ⟨_, _, hm⟩ := h2
    have h3 := hm.small
    show (linesS v ss k ++ lineS (nth ss k)).size ≤ _
    unfold lineS
    rw [bsz_app, bsz_app]
    show _ + (_ + 1) ≤ _
    omega
/-- What strconv.Itoa writes, below a hundred. -/
theorem dec_itoa (i : Nat) (h : i < 100) : (⟨(Lib.decDigits i).toArray⟩ : Str) = decS i := by
  unfold decS digit
  by_cases h1 : i < 10
  · rw [if_pos h1, Lib.decDigits, dif_pos h1]
  · rw [if_neg h1, Lib.decDigits, dif_neg h1, Lib.decDigits, dif_pos (by omega)]
    exact (bcat [_] [_]).symm
theorem strCells_app (a b : Str) : Lib.strCells (a ++ b) = Lib.strCells a ++ Lib.strCells b := by
  unfold Lib.strCells
  rw [bl_app, List.map_append]
/-- A flow's text. -/
def flowTextS (f : Flow) : Str := if flowB f then linesS f.ver.toNat f.steps f.steps.length else ⟨#[]⟩
theorem flow_stepsB {f : Flow} (h : flowB f = true) : ∀ j, j < f.steps.length → stepB (nth f.steps j) = true := fun j hj => by
  have := (flowB_iff.1 h).1 j hj
  unfold stepAt at this
  simp only [Bool.and_eq_true] at this
  exact this.1.1
theorem flow_verN {f : Flow} (h : flowB f = true) : ∃ v : Nat, f.ver = (v : Int) ∧ v < 100 := by
  have := (flowB_iff.1 h).2.1
  exact ⟨f.ver.toNat, by omega, by omega⟩
end Go.Proofs.YthdfefgianokgaaGreatDoor

/- The reference's text of a flow. -/
namespace Go.Proofs.YthdfefgianokgaaGreatDoor
open Go.RowKit

theorem flow_step_ok {f : Flow} (h : flowB f = true) : ∀ j, j < f.steps.length → stepB (nth f.steps j) = true := fun j hj => by
  have := (flowB_iff.1 h).1 j hj
  unfold stepAt at this
  simp only [Bool.and_eq_true] at this
  exact this.1.1
theorem flow_ver {f : Flow} (h : flowB f = true) : ∃ v : Nat, f.ver = (v : Int) ∧ v < 100 := by
  have := (flowB_iff.1 h).2.1
  exact ⟨f.ver.toNat, by omega, by omega⟩
theorem dec_size {v : Nat} : (decS v).size ≤ 2 := by
  unfold decS
  split
  · show 1 ≤ 2; omega
  · rw [bsz_app]; show 1 + 1 ≤ 2; omega

set_option maxRecDepth 100000 in
set_option maxHeartbeats 1000000 in
theorem flowTextS_any (A : Option Addr) (n c : Nat) (f : Flow) (lo : Nat) (w : World) (hr : RStep w lo A n f.steps) (hok : okSteps f.steps) :
    Calls Tryz.prog 43 #[.agg #[.int .i64 f.ver, .slice A n c]] w fun e w' => e = .returned (.string (flowTextS f)) ∧ Below w.heap.size w w' := by
  have HL := Lib.hid (show f.steps.length = n from hr.1)
  have HR := Lib.hid hr; clear hr
  have HO := Lib.hid hok; clear hok
  have HX0 := Lib.hid (heap_new (w := w) (o := .cells #[.int .i64 f.ver, .slice A n c] 38) rfl)
  have HB0 := Lib.hid ((Below.refl w.heap.size w).alloc (Nat.le_refl _) (.cells #[.int .i64 f.ver, .slice A n c] 38))
  cases h : flowB f
  · have HE := Lib.hid (show flowTextS f = ⟨#[]⟩ by unfold flowTextS; rw [if_neg (by rw [h]; simp)])
    go_enter Tryz.func43, Tryz.ntmps43
    go_wp2_with fail
    refine (flowS_any _ _ _ f _ _ (HR.out.alloc _) HO.out).mono ?_
    rintro e w1 ⟨rfl, hb⟩
    rw [h]
    clear h
    go_wp2_with fail
    go_ret
    exact ⟨ret_s HE.out.symm, HB0.out.trans (hb.mono (by simp))⟩
  obtain ⟨v, hv, hv2⟩ := flow_ver h
  have HST := Lib.hid (flow_step_ok h)
  have HE := Lib.hid (show flowTextS f = linesS v f.steps n by unfold flowTextS; rw [if_pos h, HL.out, hv]; rfl)
  have hn8 : n ≤ 8 := by have := (flowB_iff.1 h).2.2.1.2; rw [HL.out] at this; exact this
  have hdz := dec_size (v := v)
  have HV := Lib.hid hv; clear hv
  go_enter Tryz.func43, Tryz.ntmps43
  go_wp2_with fail
  refine (flowS_any _ _ _ f _ _ (HR.out.alloc _) HO.out).mono ?_
  rintro e w1 ⟨rfl, hb⟩
  rw [h]
  clear h
  have HX := Lib.hid ((hb.block w.heap.size (by simp)).trans HX0.out)
  have HB := Lib.hid (HB0.out.trans (hb.mono (by simp)))
  clear hb
  rw [HV.out] at HX
  have b0 := (blk_cl (k := 0) HX.out rfl).1
  go_wp2_with fail
  refine (l6Dec_any v hv2 _).mono ?_
  rintro e w2 ⟨rfl, hb2⟩
  have HX2 := Lib.hid ((hb2.block w.heap.size (heap_lt HX.out)).trans HX.out)
  have HB2 := Lib.hid (HB.out.trans (hb2.mono HB.out.size))
  have HV2 := Lib.hid hv2
  have HH0 := Lib.hid (show Value.string (((⟨#[102, 108, 111, 119, 32]⟩ : Str) ++ decS v) ++ ⟨#[10]⟩) = .string (linesS v f.steps 0) from rfl)
  clear hb2 b0 HX HX0 HB0
  generalize decS v = dv at *
  go_wp2_with fail
  go_loopw [3, 4] (fun o i wr => ∃ k : Nat, k ≤ n ∧ i = .int .i64 (k : Int) ∧ o = .string (linesS v f.steps k) ∧ wr.heap[w.heap.size]? = some (.cells #[.int .i64 (v : Int), .slice A n c] 38 (0, 0)) ∧ Below w.heap.size w wr) (fun _ i _ => n - (intOf i).toNat)
  case atStart => exact ⟨0, Nat.zero_le _, rfl, HH0.out, HX2.out, HB2.out⟩
  case round =>
    obtain ⟨k, hk, rfl, rfl, hx, hb⟩ := hrel
    have HXR := Lib.hid hx; clear hx
    have HBR := Lib.hid hb; clear hb
    have b1 := (blk_cl (k := 1) HXR.out rfl).1
    by_cases hlt : k < n
    · obtain ⟨b, off, rfl, ⟨_, hbr⟩, hc⟩ := RStep.at_ (HR.out.below HBR.out) hlt
      obtain ⟨A', n', c', ⟨c1, c2, c3⟩, ha, _⟩ := hc k hlt
      clear hc
      have q1 := lines_size HV2.out k (fun j hj => HST.out j (by rw [HL.out]; omega))
      have q2 := (stepS_small (HST.out k (by rw [HL.out]; exact hlt))).1
      have q3 : k * 101 ≤ 8 * 101 := Nat.mul_le_mul_right _ (by omega)
      have HSB := Lib.hid (HST.out k (by rw [HL.out]; exact hlt))
      have HJ := Lib.hid (show linesS v f.steps (k + 1) = linesS v f.steps k ++ (stepS (nth f.steps k) ++ ⟨#[10]⟩) from rfl)
      go_wp2_with fail
      refine (l41Step_any _ _ _ (nth f.steps k) _ _ ha HSB.out).mono ?_
      rintro e w4 ⟨rfl, hb4⟩
      have HB4 := Lib.hid (HBR.out.trans (hb4.mono HBR.out.size))
      have HX4 := Lib.hid ((hb4.block w.heap.size (heap_lt HXR.out)).trans HXR.out)
      clear hb4
      go_wp2_with fail
      go_roundw
      case rel => exact ⟨k + 1, by omega, by go_num, by rw [HJ.out, ← ByteArray.append_assoc], HX4.out, HB4.out⟩
      case measure => simp [intOf]; omega
    · obtain rfl : k = n := by omega
      go_wp2_with fail
      go_ret
      exact ⟨ret_s HE.out.symm, HBR.out⟩
end Go.Proofs.YthdfefgianokgaaGreatDoor

/- The program's text of a flow. -/
namespace Go.Proofs.YthdfefgianokgaaGreatDoor
open Go.RowKit

theorem builder_below {B b : Nat} {p : Value} {bs : List Value} {w w' : World} (h : Lib.BuilderAt 45 5 B b p bs w) (hb : Below w.heap.size w w') : Lib.BuilderAt 45 5 B b p bs w' := by
  obtain ⟨h0, v, h1, h2, h3⟩ := h
  exact ⟨h0, v, (hb.block b (heap_lt h1)).trans h1, row_below h2 hb, h3⟩

set_option maxRecDepth 100000 in
set_option maxHeartbeats 1000000 in
theorem flowTextI_any (A : Option Addr) (n c : Nat) (f : Flow) (lo : Nat) (w : World) (hr : RStep w lo A n f.steps) (hok : okSteps f.steps) (hcap : CapS w A n) :
    Calls Tryz.prog 39 #[.agg #[.int .i64 f.ver, .slice A n c]] w fun e w' => e = .returned (.string (flowTextS f)) ∧ Below w.heap.size w w' := by
  have HL := Lib.hid (show f.steps.length = n from hr.1)
  have HR := Lib.hid hr; clear hr
  have HO := Lib.hid hok; clear hok
  have HC := Lib.hid hcap; clear hcap
  have HX0 := Lib.hid (heap_new (w := w) (o := .cells #[.int .i64 f.ver, .slice A n c] 38) rfl)
  have HB0 := Lib.hid ((Below.refl w.heap.size w).alloc (Nat.le_refl _) (.cells #[.int .i64 f.ver, .slice A n c] 38))
  cases h : flowB f
  · have HE := Lib.hid (show flowTextS f = ⟨#[]⟩ by unfold flowTextS; rw [if_neg (by rw [h]; simp)])
    go_enter Tryz.func39, Tryz.ntmps39
    go_wp2_with fail
    refine (flowI_any _ _ _ f _ _ (HR.out.alloc _) HO.out).mono ?_
    rintro e w1 ⟨rfl, hb⟩
    rw [h]
    clear h
    go_wp2_with fail
    go_ret
    exact ⟨ret_s HE.out.symm, HB0.out.trans (hb.mono (by simp))⟩
  obtain ⟨v, hv, hv2⟩ := flow_ver h
  have HST := Lib.hid (flow_step_ok h)
  have HE := Lib.hid (show flowTextS f = linesS v f.steps n by unfold flowTextS; rw [if_pos h, HL.out, hv]; rfl)
  have hn8 : n ≤ 8 := by have := (flowB_iff.1 h).2.2.1.2; rw [HL.out] at this; exact this
  have hdz := dec_size (v := v)
  have HV := Lib.hid hv; clear hv
  go_enter Tryz.func39, Tryz.ntmps39
  go_wp2_with fail
  refine (flowI_any _ _ _ f _ _ (HR.out.alloc _) HO.out).mono ?_
  rintro e w1 ⟨rfl, hb⟩
  rw [h]
  clear h
  have HX := Lib.hid ((hb.block w.heap.size (by simp)).trans HX0.out)
  have HB := Lib.hid (HB0.out.trans (hb.mono (by simp)))
  clear hb
  rw [HV.out] at HX
  have HX1 := Lib.hid (heap_old (o := .cells #[.pointer none, .slice none 0 0] 45) HX.out)
  have HB1 := Lib.hid (HB.out.alloc HB.out.size (.cells #[.pointer none, .slice none 0 0] 45))
  have HBU := Lib.hid (Lib.fresh_isBuilder 45 5 w1)
  have b0 := (blk_cl (k := 0) HX1.out rfl).1
  go_wp2_with fail
  refine (Tryz.strconv_Itoa_small v hv2 _).mono ?_
  rintro e w2 ⟨rfl, rfl⟩
  rw [dec_itoa v hv2]
  have HV2 := Lib.hid hv2
  have hs0 : w.heap.size ≤ w1.heap.size := HB.out.size
  go_wp2_with fail
  refine (writeString_any w1.heap.size w1.heap.size [] _ _ HBU.out (by rw [bsz_app, bsz_app]; show 0 + (5 + _ + 1) ≤ _; omega) (by simp)).mono ?_
  rintro e w3 ⟨rfl, hbu, hb3⟩
  have HX3 := Lib.hid ((hb3.block w.heap.size (heap_lt HX.out)).trans HX1.out)
  have HB3 := Lib.hid (HB1.out.trans (hb3.mono hs0))
  have HU3 := Lib.hid (show Lib.BuilderAt 45 5 w1.heap.size w1.heap.size (.pointer (some ⟨w1.heap.size, 0, none⟩)) (Lib.strCells (linesS v f.steps 0)) w3 from hbu)
  have HS3 := Lib.hid hb3.size
  clear hb3 hbu b0
  have b1 := (blk_cl (k := 1) HX3.out rfl).1
  go_wp2_with fail
  go_loopw [18] (fun i wr => ∃ k : Nat, k ≤ n ∧ i = .int .i64 (k : Int) ∧ Lib.BuilderAt 45 5 w1.heap.size w1.heap.size (.pointer (some ⟨w1.heap.size, 0, none⟩)) (Lib.strCells (linesS v f.steps k)) wr ∧ Below w.heap.size w wr ∧ w1.heap.size ≤ wr.heap.size) (fun i _ => n - (intOf i).toNat)
  case atStart => exact ⟨0, Nat.zero_le _, rfl, HU3.out, HB3.out, by have := HU3.out.lt; omega⟩
  case round =>
    obtain ⟨k, hk, rfl, hbu, hb, hsz⟩ := hrel
    have HUR := Lib.hid hbu; clear hbu
    have HBR := Lib.hid hb; clear hb
    by_cases hlt : k < n
    · obtain ⟨b, off, rfl, ⟨_, hbr⟩, hc⟩ := RStep.at_ (HR.out.below HBR.out) hlt
      obtain ⟨A', n', c', ⟨c1, c2, c3⟩, ha, _⟩ := hc k hlt
      clear hc
      have HLE := Lib.hid ((HC.out.below HBR.out).le hlt c2)
      have q1 := lines_size HV2.out k (fun j hj => HST.out j (by rw [HL.out]; omega))
      have q2 := (stepS_small (HST.out k (by rw [HL.out]; exact hlt))).1
      have q3 : k * 101 ≤ 8 * 101 := Nat.mul_le_mul_right _ (by omega)
      have HSB := Lib.hid (HST.out k (by rw [HL.out]; exact hlt))
      have HJ := Lib.hid (show linesS v f.steps (k + 1) = linesS v f.steps k ++ (stepS (nth f.steps k) ++ ⟨#[10]⟩) from rfl)
      have HA := Lib.hid (ha.alloc (.cells #[.string (nth f.steps k).name, .slice A' n' c', .bool (nth f.steps k).undo] 35)); clear ha
      have HT := Lib.hid (show textS (nth f.steps k) = stepS (nth f.steps k) by unfold textS; rw [if_pos HSB.out])
      have HBA := Lib.hid ((Below.refl wr.heap.size wr).alloc (Nat.le_refl _) (.cells #[.string (nth f.steps k).name, .slice A' n' c', .bool (nth f.steps k).undo] 35))
      go_wp2_with fail
      refine (stepTextI_any _ _ _ (nth f.steps k) _ _ HA.out (HO.out.2 k (by rw [HL.out]; exact hlt)) HLE.out).mono ?_
      rintro e w4 ⟨rfl, hb4⟩
      rw [HT.out]
      have HB4 := Lib.hid (HBA.out.trans (hb4.mono HBA.out.size)); clear hb4
      have HU4 := Lib.hid (builder_below HUR.out HB4.out)
      have hs4 : w1.heap.size ≤ w4.heap.size := by have := HB4.out.size; omega
      go_wp2_with fail
      refine (writeString_any w1.heap.size w1.heap.size _ _ _ (.inr HU4.out) (by rw [Lib.strCells_length, bsz_app]; show _ + (_ + 1) ≤ _; omega) hs4).mono ?_
      rintro e w5 ⟨rfl, hbu5, hb5⟩
      have HU5 := Lib.hid (show Lib.BuilderAt 45 5 w1.heap.size w1.heap.size (.pointer (some ⟨w1.heap.size, 0, none⟩)) (Lib.strCells (linesS v f.steps (k + 1))) w5 by rw [HJ.out, strCells_app]; exact hbu5)
      have HB5 := Lib.hid ((HBR.out.trans (HB4.out.mono HBR.out.size)).trans (hb5.mono hs0))
      have hs5 := hb5.size
      clear hbu5 hb5
      go_wp2_with fail
      go_roundw
      case rel => exact ⟨k + 1, by omega, by go_num, HU5.out, HB5.out, by omega⟩
      case measure => simp [intOf]; omega
    · obtain rfl : k = n := by omega
      go_wp2_with fail
      refine (Tryz.Builder_String_any w1.heap.size w1.heap.size (linesS v f.steps k).data.toList _ (.inr HUR.out) hsz).mono ?_
      rintro e w6 ⟨rfl, hb6⟩
      go_wp2_with fail
      go_ret
      exact ⟨ret_s HE.out.symm, HBR.out.trans (hb6.mono hs0)⟩
end Go.Proofs.YthdfefgianokgaaGreatDoor

/- Runs: the order of what is done, the reference's side. -/
namespace Go.Proofs.YthdfefgianokgaaGreatDoor
open Go.RowKit

theorem idx_ex {xs : List Str} {s : Str} (h : s ∈ xs) : ∃ p : Nat, p < xs.length ∧ idxI xs s = p ∧ nth xs p = s ∧ ∀ j, j < p → nth xs j ≠ s := by
  obtain ⟨k, hk, he⟩ := nth_of_mem h
  induction k using Nat.strongRecOn with
  | _ k ih =>
    by_cases hx : ∃ j, j < k ∧ nth xs j = s
    · obtain ⟨j, hj, hjs⟩ := hx
      exact ih j hj (by omega) hjs
    · exact ⟨k, hk, idxI_at (fun j hj e => hx ⟨j, hj, e⟩) hk he, he, fun j hj e => hx ⟨j, hj, e⟩⟩
/-- A step's place. -/
def plc (ss : List Step) (x : Str) : Nat := (idxI (namesOf ss) x).toNat
theorem plc_ex {ss : List Step} {x : Str} (h : hasB (namesOf ss) x = true) : plc ss x < ss.length ∧ idxI (namesOf ss) x = (plc ss x : Int) ∧ (nth ss (plc ss x)).name = x := by
  obtain ⟨p, h1, h2, h3, _⟩ := idx_ex (hasB_true.1 h)
  have e : plc ss x = p := by unfold plc; rw [h2]; rfl
  rw [namesOf_len] at h1
  rw [namesOf_at h1] at h3
  rw [e]
  exact ⟨h1, h2, h3⟩
/-- What is done as number i could be done then. -/
def ordAt (ss : List Step) (done : List Str) (i : Nat) : Bool := hasB (namesOf ss) (nth done i) && !hasB (done.take i) (nth done i) && haveB (done.take i) (nth ss (plc ss (nth done i))).after
def ordB (ss : List Step) (done : List Str) : Bool := allN done.length (ordAt ss done)
theorem first_at {done : List Str} {k : Nat} (hk : k < done.length) : (hasB (done.take k) (nth done k) = true ∧ ∃ q : Nat, q < k ∧ idxI done (nth done k) = q) ∨ (hasB (done.take k) (nth done k) = false ∧ idxI done (nth done k) = k) := by
  obtain ⟨p, h1, h2, h3, h4⟩ := idx_ex (mem_nth hk)
  have hpk : p ≤ k := by
    rcases Nat.lt_or_ge k p with h | h
    · exact absurd rfl (h4 k h)
    · exact h
  have e : ∀ j, j < k → nth (done.take k) j = nth done j := fun j hj => by
    rw [nth_eq (by rw [List.length_take]; omega), nth_eq (by omega), List.getElem_take]
  rcases Nat.lt_or_eq_of_le hpk with h | h
  · refine .inl ⟨hasB_true.2 ?_, p, h, h2⟩
    rw [← h3, ← e p h]
    exact mem_nth (by rw [List.length_take]; omega)
  · subst h
    refine .inr ⟨hasB_false.2 fun hm => ?_, h2⟩
    obtain ⟨j, hj, hje⟩ := nth_of_mem hm
    rw [List.length_take] at hj
    rw [e j (by omega)] at hje
    exact h4 j (by omega) hje

set_option maxRecDepth 100000 in
set_option maxHeartbeats 1000000 in
theorem l3Order_any (A B : Option Addr) (n c m d : Nat) (ss : List Step) (done : List Str) (lo lo' : Nat) (w : World) (hr : RStep w lo A n ss) (hok : okSteps ss) (hd : RStr w lo' B m done) (hm : m ≤ 1048576) (hmd : m ≤ d) :
    Calls Tryz.prog 83 #[.slice A n c, .slice B m d] w fun e w' => e = .returned (.bool (ordB ss done)) ∧ ∃ q, w' = w.drewN q := by
  have hn : n ≤ 1048576 := by have := hok.1; rw [hr.1] at this; exact this
  have HO := Lib.hid hok; clear hok
  have HR := Lib.hid hr; clear hr
  have HD := Lib.hid hd; clear hd
  have HL := Lib.hid HD.out.1
  go_enter Tryz.func83, Tryz.ntmps83
  go_wp2_with fail
  go_loopw [5] (fun i wr => ∃ k q : Nat, k ≤ m ∧ i = .int .i64 k ∧ wr = w.drewN q ∧ ∀ j, j < k → ordAt ss done j = true) (fun i _ => m - (intOf i).toNat)
  case atStart => exact ⟨0, 0, Nat.zero_le _, rfl, rfl, fa_zero⟩
  case round =>
    obtain ⟨k, q, hk, rfl, rfl, hp⟩ := hrel
    have HP := Lib.hid hp; clear hp
    by_cases hlt : k < m
    · obtain ⟨b, off, rfl, _, hc⟩ := RStr.at_ HD.out hlt
      have x1 := (hc k hlt).1
      clear hc
      have hkl : k < done.length := by rw [HL.out]; exact hlt
      have HAT := Lib.hid (fun z => l2At_any A n c ss (nth done k) _ _ (HR.out.drewN z) hn)
      cases h1 : hasB (namesOf ss) (nth done k)
      · have h9 := idx_neg h1
        have h10 : decide (idxI (namesOf ss) (nth done k) < 0) = true := by rw [decide_eq_true_iff]; exact h9
        have HB : Hid (ordB ss done = false) := allN_false hkl (by unfold ordAt; rw [h1]; rfl)
        clear h1
        go_wp2_with (go_at_call 71; refine (HAT.out _).mono ?_; rintro e w' ⟨rfl, rfl⟩)
        go_quiet (fail)
        go_wp2_with fail
        go_ret
        exact ⟨ret_b HB.out.symm, _, World.drewN_drewN _ _ _⟩
      · obtain ⟨hpl, hidx, hnm⟩ := plc_ex h1
        have HPA := Lib.hid (show ordAt ss done k = (!hasB (done.take k) (nth done k) && haveB (done.take k) (nth ss (plc ss (nth done k))).after) by unfold ordAt; rw [h1]; rfl)
        have HS := Lib.hid (HO.out.2 _ hpl).2
        clear h1 hnm
        generalize plc ss (nth done k) = p at *
        have hpn : p < n := by rw [← HR.out.1]; exact hpl
        have hp0 : decide ((p : Int) < 0) = false := by rw [decide_eq_false_iff_not]; omega
        have hkk : decide ((k : Int) < (k : Int)) = false := by rw [decide_eq_false_iff_not]; omega
        obtain ⟨b1, off1, rfl, ⟨_, hbr⟩, hc⟩ := RStep.at_ HR.out hpn
        obtain ⟨A', n', c', ⟨y1, y2, y3⟩, ha, _⟩ := hc p hpn
        clear hc hpl
        have hn' : n' ≤ 1048576 := by have := HS.out.1; rw [ha.1] at this; exact this
        have H1 := Lib.hid (fun z => l1At_any _ _ d done (nth done k) _ _ (HD.out.drewN z) hm)
        have H2 := Lib.hid (fun z => l1Have_any _ _ _ d _ c' (done.take k) (nth ss p).after _ _ _ ((HD.out.drewN z).take hk) (by omega) (ha.drewN z) hn')
        clear ha
        rcases first_at hkl with ⟨hf, j, hj, hj2⟩ | ⟨hf, hj2⟩
        · have HB : Hid (ordB ss done = false) := allN_false hkl (by rw [HPA.out, hf]; rfl)
          clear hf
          have hjk : decide ((j : Int) < (k : Int)) = true := by rw [decide_eq_true_iff]; omega
          go_wp2_with (go_at_call 71; refine (HAT.out _).mono ?_; rintro e w' ⟨rfl, rfl⟩; rw [hidx])
          rw [hj2] at H1
          go_quiet ((go_at_call 110; exact q_same2 (H1.out _)))
          go_wp2_with fail
          go_ret
          exact ⟨ret_b HB.out.symm, _, World.drewN_drewN _ _ _⟩
        · rw [hf] at HPA
          clear hf
          rw [hj2] at H1
          cases hh : haveB (done.take k) (nth ss p).after
          · rw [hh] at H2
            have HB : Hid (ordB ss done = false) := allN_false hkl (by rw [HPA.out, hh]; rfl)
            clear hh
            go_wp2_with (go_at_call 71; refine (HAT.out _).mono ?_; rintro e w' ⟨rfl, rfl⟩; rw [hidx])
            go_quiet ((first | (go_at_call 110; exact q_same2 (H1.out _)) | (go_at_call 112; exact q_same2 (H2.out _))))
            go_wp2_with fail
            go_ret
            exact ⟨ret_b HB.out.symm, _, World.drewN_drewN _ _ _⟩
          · rw [hh] at H2
            have HB : Hid (ordAt ss done k = true) := by rw [HPA.out, hh]; rfl
            clear hh
            go_wp2_with (go_at_call 71; refine (HAT.out _).mono ?_; rintro e w' ⟨rfl, rfl⟩; rw [hidx])
            go_quiet ((first | (go_at_call 110; exact q_same2 (H1.out _)) | (go_at_call 112; exact q_same2 (H2.out _))))
            go_wp2_with fail
            go_roundw
            case rel => exact ⟨k + 1, _, by omega, by go_num, rfl, fa_succ HP.out HB.out⟩
            case measure => simp [intOf]; omega
    · obtain rfl : k = m := by omega
      go_wp2_with fail
      go_ret
      exact ⟨ret_b (allN_true (fun j hj => HP.out j (by rw [HL.out] at hj; omega))).symm, _, rfl⟩
end Go.Proofs.YthdfefgianokgaaGreatDoor

/- Runs: validity, the reference's side. -/
namespace Go.Proofs.YthdfefgianokgaaGreatDoor
open Go.RowKit

/-- How many of the first k stay if all are undone from the end. -/
def leftN (ss : List Step) (done : List Str) : Nat → Nat
  | 0 => 0
  | k + 1 => if (nth ss (plc ss (nth done k))).undo = true then leftN ss done k else k + 1
theorem leftN_le (ss : List Step) (done : List Str) : ∀ k, leftN ss done k ≤ k
  | 0 => Nat.le_refl _
  | k + 1 => by
    unfold leftN
    split
    · exact Nat.le_succ_of_le (leftN_le ss done k)
    · exact Nat.le_refl _

set_option maxRecDepth 100000 in
theorem l3Left_any (A B : Option Addr) (n c m d : Nat) (ss : List Step) (done : List Str) (lo lo' : Nat) (w : World) (hr : RStep w lo A n ss) (hn : n ≤ 1048576) (hd : RStr w lo' B m done) (hm : m ≤ 1048576) (hall : ∀ j, j < m → hasB (namesOf ss) (nth done j) = true) :
    Calls Tryz.prog 84 #[.slice A n c, .slice B m d] w fun e w' => e = .returned (.int .i64 (leftN ss done m : Nat)) ∧ w = w' := by
  have HR := Lib.hid hr; clear hr
  have HD := Lib.hid hd; clear hd
  have HA := Lib.hid hall; clear hall
  go_enter Tryz.func84, Tryz.ntmps84
  go_wp2_with fail
  go_loop [5] (fun i => ∃ k : Nat, k ≤ m ∧ i = .int .i64 k ∧ leftN ss done k = leftN ss done m) (fun i => (intOf i).toNat)
  case atStart => exact ⟨m, Nat.le_refl _, rfl, rfl⟩
  case round =>
    obtain ⟨k, hk, rfl, hp⟩ := hrel
    have HP := Lib.hid hp; clear hp
    cases k with
    | zero =>
      go_wp2_with fail
      go_ret
      exact ⟨ret_i (by rw [← HP.out]; rfl), rfl⟩
    | succ k =>
      have hlt : k < m := hk
      obtain ⟨b, off, rfl, _, hc⟩ := RStr.at_ HD.out hlt
      have x1 := (hc k hlt).1
      clear hc
      obtain ⟨hpl, hidx, _⟩ := plc_ex (HA.out k hlt)
      have HLF := Lib.hid (show leftN ss done (k + 1) = if (nth ss (plc ss (nth done k))).undo = true then leftN ss done k else k + 1 from rfl)
      generalize plc ss (nth done k) = p at *
      have hpn : p < n := by rw [← HR.out.1]; exact hpl
      obtain ⟨b1, off1, rfl, ⟨_, hbr⟩, hc⟩ := RStep.at_ HR.out hpn
      obtain ⟨A', n', c', ⟨y1, y2, y3⟩, _, _⟩ := hc p hpn
      clear hc hpl
      have hk0 : decide ((0 : Int) < ((k + 1 : Nat) : Int)) = true := by rw [decide_eq_true_iff]; omega
      have hk1 : decide ((0 : Int) < (k : Int) + 1) = true := by rw [decide_eq_true_iff]; omega
      cases hu : (nth ss p).undo
      · rw [hu] at y3 HLF
        clear hu
        go_wp2_with (go_at_call 71; refine (l2At_any _ _ c ss (nth done k) _ _ HR.out hn).mono ?_; rintro e w' ⟨rfl, rfl⟩; rw [hidx])
        go_ret
        exact ⟨ret_i (by rw [← HP.out, HLF.out]; simp), rfl⟩
      · rw [hu] at y3 HLF
        clear hu
        go_wp2_with (go_at_call 71; refine (l2At_any _ _ c ss (nth done k) _ _ HR.out hn).mono ?_; rintro e w' ⟨rfl, rfl⟩; rw [hidx])
        go_round
        case rel => exact ⟨k, by omega, by go_num, by rw [← HP.out, HLF.out]; simp⟩
        case measure => simp [intOf]

/-- A run of a flow. -/
def runB (f : Flow) (st : Int) (done : List Str) : Bool :=
  flowB f && (ordB f.steps done && (if st = 0 then decide (done.length < f.steps.length) else if st = 2 then decide (done.length = f.steps.length)
    else if st = 1 then decide (done.length < f.steps.length) && decide (leftN f.steps done done.length < done.length)
    else if st = 3 then decide (done.length < f.steps.length) && decide (leftN f.steps done done.length = done.length) else false))
theorem ord_all {ss : List Step} {done : List Str} (h : ordB ss done = true) : ∀ j, j < done.length → hasB (namesOf ss) (nth done j) = true := fun j hj => by
  have := allN_iff.1 h j hj
  unfold ordAt at this
  simp only [Bool.and_eq_true] at this
  exact this.1.1

set_option maxRecDepth 100000 in
set_option maxHeartbeats 1000000 in
theorem runS_any (A B : Option Addr) (n c m d : Nat) (f : Flow) (st : Int) (done : List Str) (lo lo' : Nat) (w : World) (hr : RStep w lo A n f.steps) (hok : okSteps f.steps) (hd : RStr w lo' B m done) (hm : m ≤ 1048576) (hmd : m ≤ d) :
    Calls Tryz.prog 50 #[.agg #[.int .i64 f.ver, .slice A n c], .agg #[.int .i64 st, .slice B m d]] w fun e w' => e = .returned (.bool (runB f st done)) ∧ Below w.heap.size w w' := by
  have hn : n ≤ 1048576 := by have := hok.1; rw [hr.1] at this; exact this
  have HO := Lib.hid hok; clear hok
  have HX0 := Lib.hid (heap_old (o := .cells #[.int .i64 st, .slice B m d] 40) (heap_new (w := w) (o := .cells #[.int .i64 f.ver, .slice A n c] 38) rfl))
  have HY0 := Lib.hid (heap_new (w := w.alloc (.cells #[.int .i64 f.ver, .slice A n c] 38)) (b := w.heap.size + 1) (o := .cells #[.int .i64 st, .slice B m d] 40) (by simp))
  have HB0 := Lib.hid (((Below.refl w.heap.size w).alloc (Nat.le_refl _) (.cells #[.int .i64 f.ver, .slice A n c] 38)).alloc (by simp) (.cells #[.int .i64 st, .slice B m d] 40))
  have HR := Lib.hid ((hr.alloc (.cells #[.int .i64 f.ver, .slice A n c] 38)).alloc (.cells #[.int .i64 st, .slice B m d] 40)); clear hr
  have HD := Lib.hid ((hd.alloc (.cells #[.int .i64 f.ver, .slice A n c] 38)).alloc (.cells #[.int .i64 st, .slice B m d] 40)); clear hd
  have HLn := Lib.hid (show f.steps.length = n from HR.out.1)
  have HLm := Lib.hid (show done.length = m from HD.out.1)
  go_enter Tryz.func50, Tryz.ntmps50
  go_wp2_with fail
  refine (flowS_any _ _ _ f _ _ HR.out HO.out).mono ?_
  rintro e w1 ⟨rfl, hb⟩
  have HX1 := Lib.hid ((hb.block _ (heap_lt HX0.out)).trans HX0.out)
  have HY1 := Lib.hid ((hb.block _ (heap_lt HY0.out)).trans HY0.out)
  have HB1 := Lib.hid (HB0.out.trans (hb.mono HB0.out.size))
  have HR1 := Lib.hid (HR.out.below hb)
  have HD1 := Lib.hid (HD.out.below hb)
  clear hb HX0 HY0 HR HD
  have a1 := (blk_cl (k := 1) HX1.out rfl).1
  have r0 := (blk_cl (k := 0) HY1.out rfl).1
  have r1 := (blk_cl (k := 1) HY1.out rfl).1
  cases hf : flowB f
  · have HE : Hid (runB f st done = false) := by show _ = _; unfold runB; rw [hf]; rfl
    clear hf
    go_wp2_with fail
    go_ret
    exact ⟨ret_b HE.out.symm, HB1.out⟩
  have HF := Lib.hid hf; clear hf
  go_wp2_with fail
  refine (l3Order_any _ _ _ _ _ _ f.steps done _ _ _ HR1.out HO.out HD1.out hm hmd).mono ?_
  rintro e w2 ⟨rfl, q, rfl⟩
  cases ho : ordB f.steps done
  · have HE : Hid (runB f st done = false) := by show _ = _; unfold runB; rw [HF.out, ho]; rfl
    clear ho
    go_wp2_with fail
    go_ret
    exact ⟨ret_b HE.out.symm, below_drewN HB1.out _⟩
  have HOR := Lib.hid ho; clear ho
  have HE := Lib.hid (show runB f st done = (if st = 0 then decide (m < n) else if st = 2 then decide (m = n) else if st = 1 then decide (m < n) && decide (leftN f.steps done m < m) else if st = 3 then decide (m < n) && decide (leftN f.steps done m = m) else false) by
    unfold runB; rw [HF.out, HOR.out, HLn.out, HLm.out]; rfl)
  have HLE := leftN_le f.steps done m
  have HLEFT := Lib.hid (fun z => l3Left_any _ _ n c m d f.steps done _ _ _ (HR1.out.drewN z) hn (HD1.out.drewN z) hm (fun j hj => ord_all HOR.out j (by rw [HLm.out]; exact hj)))
  have e1 : decide ((m : Int) < (n : Int)) = decide (m < n) := by rw [decide_eq_decide]; omega
  have e2 : ((m : Int) == (n : Int)) = decide (m = n) := by rw [Bool.eq_iff_iff, beq_iff_eq, decide_eq_true_iff]; omega
  by_cases h0 : st = 0
  · subst h0
    go_wp2_with fail
    go_ret
    exact ⟨ret_b (by rw [HE.out]; simp), below_drewN HB1.out _⟩
  have h0' : (st == 0) = false := by rw [beq_eq_false_iff_ne]; exact h0
  by_cases h2 : st = 2
  · subst h2
    go_wp2_with fail
    go_ret
    exact ⟨ret_b (by rw [HE.out]; simp [← e2]), below_drewN HB1.out _⟩
  have h2' : (st == 2) = false := by rw [beq_eq_false_iff_ne]; exact h2
  generalize leftN f.steps done m = l at *
  have e4 : ((l : Int) == (m : Int)) = decide (l = m) := by rw [Bool.eq_iff_iff, beq_iff_eq, decide_eq_true_iff]; omega
  by_cases h1 : st = 1
  · subst h1
    by_cases hmn : m < n
    · have e3 : decide ((m : Int) < (n : Int)) = true := by rw [decide_eq_true_iff]; omega
      go_wp2_with fail
      go_quiet ((go_at_call 84; exact q_same2 (HLEFT.out _)))
      go_wp2_with fail
      go_ret
      exact ⟨ret_b (by rw [HE.out]; simp [hmn]), by rw [World.drewN_drewN]; exact below_drewN HB1.out _⟩
    · have e3 : decide ((m : Int) < (n : Int)) = false := by rw [decide_eq_false_iff_not]; omega
      go_wp2_with fail
      go_quiet (fail)
      go_wp2_with fail
      go_ret
      exact ⟨ret_b (by rw [HE.out]; simp [hmn]), by rw [World.drewN_drewN]; exact below_drewN HB1.out _⟩
  have h1' : (st == 1) = false := by rw [beq_eq_false_iff_ne]; exact h1
  by_cases h3 : st = 3
  · subst h3
    by_cases hmn : m < n
    · have e3 : decide ((m : Int) < (n : Int)) = true := by rw [decide_eq_true_iff]; omega
      go_wp2_with fail
      go_quiet ((go_at_call 84; exact q_same2 (HLEFT.out _)))
      go_wp2_with fail
      go_ret
      exact ⟨ret_b (by rw [HE.out]; simp [hmn]), by rw [World.drewN_drewN]; exact below_drewN HB1.out _⟩
    · have e3 : decide ((m : Int) < (n : Int)) = false := by rw [decide_eq_false_iff_not]; omega
      go_wp2_with fail
      go_quiet (fail)
      go_wp2_with fail
      go_ret
      exact ⟨ret_b (by rw [HE.out]; simp [hmn]), by rw [World.drewN_drewN]; exact below_drewN HB1.out _⟩
  have h3' : (st == 3) = false := by rw [beq_eq_false_iff_ne]; exact h3
  go_wp2_with fail
  go_ret
  exact ⟨ret_b (by rw [HE.out, if_neg h0, if_neg h2, if_neg h1, if_neg h3]), below_drewN HB1.out _⟩
end Go.Proofs.YthdfefgianokgaaGreatDoor

/- Runs: the program's leaves. -/
namespace Go.Proofs.YthdfefgianokgaaGreatDoor
open Go.RowKit

theorem nodup_at {xs : List Str} (hn : xs.Nodup) {i j : Nat} (hi : i < xs.length) (hj : j < xs.length) (e : nth xs i = nth xs j) : i = j := by
  rw [nth_eq hi, nth_eq hj] at e
  have hp := List.pairwise_iff_getElem.1 hn
  rcases Nat.lt_trichotomy i j with h | h | h
  · exact absurd e (hp i j hi hj h)
  · exact h
  · exact absurd e.symm (hp j i hj hi h)
/-- What is ready, told by the place of its step. -/
theorem rdy_at {ss : List Step} (hn : (namesOf ss).Nodup) (d : List Str) (x : Str) : hasB (rdyL ss d) x = (hasB (namesOf ss) x && !hasB d x && haveB d (nth ss (plc ss x)).after) := by
  rw [Bool.eq_iff_iff, hasB_true]
  simp only [Bool.and_eq_true]
  constructor
  · intro h
    have hx := (rdyL_new h).2
    obtain ⟨s, hs, hr, e⟩ := rdyL_mem.1 h
    obtain ⟨h1, h2, h3⟩ := plc_ex (hasB_true.2 hx)
    obtain ⟨j, hj, rfl⟩ := nth_of_mem hs
    have : j = plc ss x := nodup_at hn (by rw [namesOf_len]; exact hj) (by rw [namesOf_len]; exact h1) (by rw [namesOf_at hj, namesOf_at h1, h3, e])
    rw [← this]
    unfold rdyB at hr
    rw [e] at hr
    simp only [Bool.and_eq_true] at hr
    exact ⟨⟨hasB_true.2 hx, hr.1⟩, hr.2⟩
  · rintro ⟨⟨h1, h2⟩, h3⟩
    obtain ⟨p1, p2, p3⟩ := plc_ex h1
    refine rdyL_mem.2 ⟨_, mem_nth p1, ?_, p3⟩
    unfold rdyB
    rw [p3, h2, h3]; rfl
theorem ordAt_rdy {ss : List Step} (hn : (namesOf ss).Nodup) (done : List Str) (i : Nat) : ordAt ss done i = hasB (rdyL ss (done.take i)) (nth done i) := (rdy_at hn _ _).symm
theorem ord_nodup {ss : List Step} {done : List Str} (h : ordB ss done = true) : ∀ k, k ≤ done.length → (done.take k).Nodup
  | 0, _ => by simp
  | k + 1, hk => by
    have h1 := allN_iff.1 h k (by omega)
    unfold ordAt at h1
    simp only [Bool.and_eq_true, Bool.not_eq_true'] at h1
    rw [take_nth (by omega), List.nodup_append]
    refine ⟨ord_nodup h k (by omega), by simp, fun a ha b hb => ?_⟩
    rw [List.mem_singleton.1 hb]
    rintro rfl
    exact hasB_false.1 h1.1.2 ha
theorem ord_len {ss : List Step} {done : List Str} (h : ordB ss done = true) : done.length ≤ ss.length := by
  have h1 := ord_nodup h done.length (Nat.le_refl _)
  rw [List.take_length] at h1
  have := nodup_le h1 (ys := namesOf ss) (fun x hx => by
    obtain ⟨j, hj, rfl⟩ := nth_of_mem hx
    exact hasB_true.1 (ord_all h j hj))
  rw [namesOf_len] at this
  exact this
theorem left_last {ss : List Step} {done : List Str} {k : Nat} : leftN ss done (k + 1) < k + 1 ↔ (nth ss (plc ss (nth done k))).undo = true := by
  have h := leftN_le ss done k
  show (if (nth ss (plc ss (nth done k))).undo = true then leftN ss done k else k + 1) < k + 1 ↔ _
  split
  · rename_i e; exact ⟨fun _ => e, fun _ => by omega⟩
  · rename_i e; exact ⟨fun h => by omega, fun h => absurd h e⟩

theorem at1_any (A : Option Addr) (n c bx : Nat) (nm x : Str) (u : Bool) (w : World) (hb : w.cell? ⟨bx, 0, none⟩ = some (.string x)) :
    Calls Tryz.prog 125 #[.agg #[.string nm, .slice A n c, .bool u], .pointer (some ⟨bx, 0, none⟩)] w fun e w' => e = .returned (.bool (decide (nm = x))) ∧ Below w.heap.size w w' := by
  have hb2 := fun o => (World.cell?_alloc_some w _ o (by rw [hb]; rfl)).trans hb
  have hq : (nm.toList == x.toList) = decide (nm = x) := by
    by_cases h : nm = x
    · rw [seq_t h]; simp [h]
    · rw [seq_f h]; simp [h]
  go_enter Tryz.func125, Tryz.ntmps125
  go_wp2_with fail
  go_ret
  exact ⟨rfl, (Below.refl _ _).alloc (Nat.le_refl _) _⟩

set_option maxRecDepth 100000 in
theorem indexFunc_any (A : Option Addr) (n c bx : Nat) (ss : List Step) (x : Str) (lo : Nat) (w : World) (hr : RStep w lo A n ss) (hn : n ≤ 1048576) (hb : w.cell? ⟨bx, 0, none⟩ = some (.string x)) (hbl : bx < w.heap.size) :
    Calls Tryz.prog 124 #[.slice A n c, .func (.func 125) #[] #[.pointer (some ⟨bx, 0, none⟩)]] w fun e w' => e = .returned (.int .i64 (idxI (namesOf ss) x)) ∧ Below w.heap.size w w' := by
  have HR := Lib.hid hr; clear hr
  go_enter Tryz.func124, Tryz.ntmps124
  go_wp2_with fail
  go_loopw [8] (fun i wr => ∃ k : Nat, k ≤ n ∧ i = .int .i64 k ∧ Below w.heap.size w wr ∧ ∀ j, j < k → (nth ss j).name ≠ x) (fun i _ => n - (intOf i).toNat)
  case atStart => exact ⟨0, Nat.zero_le _, rfl, Below.refl _ _, fa_zero⟩
  case round =>
    obtain ⟨k, hk, rfl, hbw, hp⟩ := hrel
    have HP := Lib.hid hp; clear hp
    have HBW := Lib.hid hbw; clear hbw
    by_cases hlt : k < n
    · obtain ⟨b, off, rfl, _, hc⟩ := RStep.at_ (HR.out.below HBW.out) hlt
      obtain ⟨A', n', c', ⟨c1, c2, c3⟩, _, _⟩ := hc k hlt
      clear hc
      have hbx := (HBW.out.cell (p := ⟨bx, 0, none⟩) hbl).trans hb
      by_cases he : (nth ss k).name = x
      · have HE := Lib.hid he; clear he
        go_wp2_with (go_at_call 125; refine (at1_any _ _ _ bx _ x _ _ hbx).mono ?_; rintro e w' ⟨rfl, hb'⟩; rw [decide_eq_true HE.out])
        go_ret
        exact ⟨ret_i (idxI_at (fun j hj => by rw [namesOf_at (by rw [HR.out.1]; omega)]; exact HP.out j hj) (by rw [namesOf_len, HR.out.1]; exact hlt) (by rw [namesOf_at (by rw [HR.out.1]; exact hlt)]; exact HE.out)).symm, HBW.out.trans (hb'.mono HBW.out.size)⟩
      · have HE := Lib.hid he; clear he
        go_wp2_with (go_at_call 125; refine (at1_any _ _ _ bx _ x _ _ hbx).mono ?_; rintro e w' ⟨rfl, hb'⟩; rw [decide_eq_false HE.out])
        go_roundw
        case rel => exact ⟨k + 1, by omega, by go_num, HBW.out.trans (hb'.mono HBW.out.size), fa_succ HP.out HE.out⟩
        case measure => simp [intOf]; omega
    · go_wp2_with fail
      go_ret
      exact ⟨ret_i (idxI_none (fun j hj => by rw [namesOf_len, HR.out.1] at hj; rw [namesOf_at (by rw [HR.out.1]; exact hj)]; exact HP.out j (by omega))).symm, HBW.out⟩

set_option maxRecDepth 100000 in
theorem at_any (A : Option Addr) (n c : Nat) (ver : Int) (ss : List Step) (x : Str) (lo : Nat) (w : World) (hr : RStep w lo A n ss) (hn : n ≤ 1048576) :
    Calls Tryz.prog 94 #[.agg #[.int .i64 ver, .slice A n c], .string x] w fun e w' => e = .returned (.int .i64 (idxI (namesOf ss) x)) ∧ Below w.heap.size w w' := by
  have HR := Lib.hid ((hr.alloc (.cells #[.int .i64 ver, .slice A n c] 38)).alloc (.cells #[.string x] 9)); clear hr
  have HX := Lib.hid (heap_new (w := w.alloc (.cells #[.int .i64 ver, .slice A n c] 38)) (b := w.heap.size + 1) (o := .cells #[.string x] 9) (by simp))
  have HB := Lib.hid (((Below.refl w.heap.size w).alloc (Nat.le_refl _) (.cells #[.int .i64 ver, .slice A n c] 38)).alloc (by simp) (.cells #[.string x] 9))
  go_enter Tryz.func94, Tryz.ntmps94
  go_wp2_with fail
  refine (indexFunc_any _ _ _ _ ss x _ _ HR.out hn (blk_cl (k := 0) HX.out rfl).1 (heap_lt HX.out)).mono ?_
  rintro e w1 ⟨rfl, hb⟩
  go_wp2_with fail
  go_ret
  exact ⟨rfl, HB.out.trans (hb.mono HB.out.size)⟩
end Go.Proofs.YthdfefgianokgaaGreatDoor

/- Runs: validity, the program's side. -/
namespace Go.Proofs.YthdfefgianokgaaGreatDoor
open Go.RowKit

def forthI (m n : Nat) : Int := if m = n then 2 else 0
/-- The state behind a failure. -/
def backI (ss : List Step) (done : List Str) : Nat → Int
  | 0 => 3
  | k + 1 => if (nth ss (plc ss (nth done k))).undo = true then 1 else 3

theorem forth_any (A B : Option Addr) (n c m d : Nat) (ver : Int) (w : World) :
    Calls Tryz.prog 68 #[.agg #[.int .i64 ver, .slice A n c], .slice B m d] w fun e w' => e = .returned (.int .i64 (forthI m n)) ∧ Below w.heap.size w w' := by
  by_cases h : m = n
  · have hq : ((m : Int) == (n : Int)) = true := by rw [beq_iff_eq]; omega
    have HE := Lib.hid (show forthI m n = 2 by unfold forthI; rw [if_pos h])
    clear h
    go_enter Tryz.func68, Tryz.ntmps68
    go_wp2_with fail
    go_ret
    exact ⟨ret_i HE.out.symm, (Below.refl _ _).alloc (Nat.le_refl _) _⟩
  · have hq : ((m : Int) == (n : Int)) = false := by rw [beq_eq_false_iff_ne]; omega
    have HE := Lib.hid (show forthI m n = 0 by unfold forthI; rw [if_neg h])
    clear h
    go_enter Tryz.func68, Tryz.ntmps68
    go_wp2_with fail
    go_ret
    exact ⟨ret_i HE.out.symm, (Below.refl _ _).alloc (Nat.le_refl _) _⟩

set_option maxRecDepth 100000 in
theorem back_any (A B : Option Addr) (n c m d : Nat) (ver : Int) (ss : List Step) (done : List Str) (lo lo' : Nat) (w : World) (hr : RStep w lo A n ss) (hn : n ≤ 1048576) (hd : RStr w lo' B m done) (hm : m ≤ 1048576) (hall : ∀ j, j < m → hasB (namesOf ss) (nth done j) = true) :
    Calls Tryz.prog 69 #[.agg #[.int .i64 ver, .slice A n c], .slice B m d] w fun e w' => e = .returned (.int .i64 (backI ss done m)) ∧ Below w.heap.size w w' := by
  have HR := Lib.hid (hr.alloc (.cells #[.int .i64 ver, .slice A n c] 38)); clear hr
  have HD := Lib.hid (hd.alloc (.cells #[.int .i64 ver, .slice A n c] 38)); clear hd
  have HX := Lib.hid (heap_new (w := w) (o := .cells #[.int .i64 ver, .slice A n c] 38) rfl)
  have HB := Lib.hid ((Below.refl w.heap.size w).alloc (Nat.le_refl _) (.cells #[.int .i64 ver, .slice A n c] 38))
  go_enter Tryz.func69, Tryz.ntmps69
  go_wp2_with fail
  generalize w.alloc (.cells #[.int .i64 ver, .slice A n c] 38) = wk at *
  have X0 : ∀ x : Bl wk, x.wd.cell? ⟨w.heap.size, 0, none⟩ = some (.int .i64 ver) := fun x => (blk_cl (k := 0) ((x.below.block _ (heap_lt HX.out)).trans HX.out) rfl).1
  have X1 : ∀ x : Bl wk, x.wd.cell? ⟨w.heap.size, 1, none⟩ = some (.slice A n c) := fun x => (blk_cl (k := 1) ((x.below.block _ (heap_lt HX.out)).trans HX.out) rfl).1
  cases m with
  | zero =>
    refine region_bl (by kernel_rfl) (by kernel_rfl) ?_
    repeat (go_big_quiet_step (fail))
    refine wpQuiet_nil ?_
    intro _ hw'
    obtain ⟨x, rfl⟩ := hw'
    have HB2 := Lib.hid (HB.out.trans (x.below.mono HB.out.size))
    go_wp2_with fail
    go_ret
    exact ⟨rfl, HB2.out⟩
  | succ k =>
    have HA := Lib.hid hall; clear hall
    have hlt : k < k + 1 := Nat.lt_succ_self k
    obtain ⟨b, off, rfl, ⟨_, hbl⟩, hc⟩ := RStr.at_ HD.out hlt
    have x1' := (hc k hlt).1
    have x1 : ∀ x : Bl wk, x.wd.cell? ⟨b, off + k, none⟩ = some (.string (nth done k)) := fun x => (x.below.cell (p := ⟨b, off + k, none⟩) hbl).trans x1'
    clear hc x1'
    obtain ⟨hpl, hidx, _⟩ := plc_ex (HA.out k hlt)
    have HLF := Lib.hid (show backI ss done (k + 1) = if (nth ss (plc ss (nth done k))).undo = true then 1 else 3 from rfl)
    have HAT := Lib.hid (fun x : Bl wk => at_any A n c ver ss (nth done k) _ x.wd (HR.out.below x.below) hn)
    rw [hidx] at HAT
    generalize plc ss (nth done k) = p at *
    have hpn : p < n := by rw [← HR.out.1]; exact hpl
    obtain ⟨b1, off1, rfl, ⟨_, hbr⟩, hc⟩ := RStep.at_ HR.out hpn
    obtain ⟨A', n', c', ⟨y1', y2', y3'⟩, _, _⟩ := hc p hpn
    have y3 : ∀ x : Bl wk, x.wd.cell? ⟨b1, off1 + p * 3 + 2, none⟩ = some (.bool (nth ss p).undo) := fun x => (x.below.cell (p := ⟨b1, off1 + p * 3 + 2, none⟩) hbr).trans y3'
    clear hc hpl y1' y2' y3'
    have hk0 : decide ((0 : Int) < ((k + 1 : Nat) : Int)) = true := by rw [decide_eq_true_iff]; omega
    have hk1 : decide ((0 : Int) < (k : Int) + 1) = true := by rw [decide_eq_true_iff]; omega
    cases hu : (nth ss p).undo
    all_goals
      rw [hu] at y3 HLF
      clear hu
      refine region_bl (by kernel_rfl) (by kernel_rfl) ?_
      repeat (go_big_quiet_step ((go_at_call 94; exact q_bl (HAT.out _))))
      refine wpQuiet_nil ?_
      intro _ hw'
      obtain ⟨x, rfl⟩ := hw'
      have HB2 := Lib.hid (HB.out.trans (x.below.mono HB.out.size))
      clear X0 X1 x1 y3
      go_wp2_with fail
      go_ret
      exact ⟨ret_i (by rw [HLF.out]; simp), HB2.out⟩
end Go.Proofs.YthdfefgianokgaaGreatDoor

/- Runs: RunValid of the program. -/
namespace Go.Proofs.YthdfefgianokgaaGreatDoor
open Go.RowKit

theorem back_left {ss : List Step} {done : List Str} {m : Nat} : (backI ss done m = 1 ↔ leftN ss done m < m) ∧ (backI ss done m = 3 ↔ leftN ss done m = m) := by
  cases m with
  | zero => exact ⟨⟨fun h => absurd h (by show ¬ ((3 : Int) = 1); omega), fun h => absurd h (Nat.not_lt_zero _)⟩, ⟨fun _ => rfl, fun _ => rfl⟩⟩
  | succ k =>
    have h1 := left_last (ss := ss) (done := done) (k := k)
    have h2 := leftN_le ss done (k + 1)
    show ((if (nth ss (plc ss (nth done k))).undo = true then (1 : Int) else 3) = 1 ↔ _) ∧ ((if (nth ss (plc ss (nth done k))).undo = true then (1 : Int) else 3) = 3 ↔ _)
    cases hu : (nth ss (plc ss (nth done k))).undo
    · rw [hu] at h1
      simp at h1 ⊢
      omega
    · rw [hu] at h1
      simp at h1 ⊢
      omega

set_option maxRecDepth 100000 in
set_option maxHeartbeats 2000000 in
theorem runI_any (A B : Option Addr) (n c m d : Nat) (f : Flow) (st : Int) (done : List Str) (lo lo' : Nat) (w : World) (hr : RStep w lo A n f.steps) (hok : okSteps f.steps) (hd : RStr w lo' B m done) (hm : m ≤ 1048576) (hmd : m ≤ d) :
    Calls Tryz.prog 40 #[.agg #[.int .i64 f.ver, .slice A n c], .agg #[.int .i64 st, .slice B m d]] w fun e w' => e = .returned (.bool (runB f st done)) ∧ Below w.heap.size w w' := by
  have hn : n ≤ 1048576 := by have := hok.1; rw [hr.1] at this; exact this
  have HO := Lib.hid hok; clear hok
  have HX0 := Lib.hid (heap_old (o := .cells #[.int .i64 st, .slice B m d] 40) (heap_new (w := w) (o := .cells #[.int .i64 f.ver, .slice A n c] 38) rfl))
  have HY0 := Lib.hid (heap_new (w := w.alloc (.cells #[.int .i64 f.ver, .slice A n c] 38)) (b := w.heap.size + 1) (o := .cells #[.int .i64 st, .slice B m d] 40) (by simp))
  have HB0 := Lib.hid (((Below.refl w.heap.size w).alloc (Nat.le_refl _) (.cells #[.int .i64 f.ver, .slice A n c] 38)).alloc (by simp) (.cells #[.int .i64 st, .slice B m d] 40))
  have HR := Lib.hid ((hr.alloc (.cells #[.int .i64 f.ver, .slice A n c] 38)).alloc (.cells #[.int .i64 st, .slice B m d] 40)); clear hr
  have HD := Lib.hid ((hd.alloc (.cells #[.int .i64 f.ver, .slice A n c] 38)).alloc (.cells #[.int .i64 st, .slice B m d] 40)); clear hd
  have HLn := Lib.hid (show f.steps.length = n from HR.out.1)
  have HLm := Lib.hid (show done.length = m from HD.out.1)
  go_enter Tryz.func40, Tryz.ntmps40
  go_wp2_with fail
  refine (flowI_any _ _ _ f _ _ HR.out HO.out).mono ?_
  rintro e w1 ⟨rfl, hb⟩
  have HX1 := Lib.hid ((hb.block _ (heap_lt HX0.out)).trans HX0.out)
  have HY1 := Lib.hid ((hb.block _ (heap_lt HY0.out)).trans HY0.out)
  have HB1 := Lib.hid (HB0.out.trans (hb.mono HB0.out.size))
  have HR1 := Lib.hid (HR.out.below hb)
  have HD1 := Lib.hid (HD.out.below hb)
  clear hb HX0 HY0 HR HD HB0
  have r1 := (blk_cl (k := 1) HY1.out rfl).1
  cases hf : flowB f
  · have HE : Hid (runB f st done = false) := by show _ = _; unfold runB; rw [hf]; rfl
    clear hf
    go_wp2_with fail
    go_ret
    exact ⟨ret_b HE.out.symm, HB1.out⟩
  have HF := Lib.hid hf
  have HND := Lib.hid (flow_nodup hf); clear hf
  go_wp2_with fail
  clear r1
  go_loopw [13] (fun i wr => ∃ k : Nat, k ≤ m ∧ i = .int .i64 k ∧ Below w1.heap.size w1 wr ∧ ∀ j, j < k → ordAt f.steps done j = true) (fun i _ => m - (intOf i).toNat)
  case atStart => exact ⟨0, Nat.zero_le _, rfl, Below.refl _ _, fa_zero⟩
  case round =>
    obtain ⟨wo, rfl⟩ : ∃ wo : World, wo = wr := ⟨_, rfl⟩
    obtain ⟨k, hk, rfl, hbw0, hp⟩ := hrel
    have HP := Lib.hid hp; clear hp
    have HX := Lib.hid ((hbw0.block _ (heap_lt HX1.out)).trans HX1.out)
    have HY := Lib.hid ((hbw0.block _ (heap_lt HY1.out)).trans HY1.out)
    have HB := Lib.hid (HB1.out.trans (hbw0.mono HB1.out.size))
    have HR := Lib.hid (HR1.out.below hbw0)
    have HD := Lib.hid (HD1.out.below hbw0)
    have HBW := Lib.hid hbw0; clear hbw0
    by_cases hlt : k < m
    · obtain ⟨b, off, rfl, _, hc⟩ := RStr.at_ HD.out hlt
      have x1 := (hc k hlt).1
      clear hc
      have hkl : k < done.length := by rw [HLm.out]; exact hlt
      have HSB : Hid (∀ w', Below wo.heap.size wo w' → (w'.cell? ⟨w.heap.size, 0, none⟩ = some (.int .i64 f.ver) ∧ w'.cell? ⟨w.heap.size, 1, none⟩ = some (.slice A n c) ∧ w'.cell? ⟨w.heap.size + 1, 1, none⟩ = some (.slice (some ⟨b, off, none⟩) m d)) ∧ Below wo.heap.size wo w') := fun w' h => by
        have e1 := (h.block _ (heap_lt HX.out)).trans HX.out
        have e2 := (h.block _ (heap_lt HY.out)).trans HY.out
        exact ⟨⟨(blk_cl (k := 0) e1 rfl).1, (blk_cl (k := 1) e1 rfl).1, (blk_cl (k := 1) e2 rfl).1⟩, h⟩
      have s1 : ¬ ((k : Int) < 0) := by omega
      have s2 : ¬ ((d : Int) < (k : Int)) := by omega
      have s3 : (k : Int) ≤ (d : Int) := by omega
      have s4 : (0 : Int) ≤ (k : Int) := by omega
      cases hh : hasB (rdyL f.steps (done.take k)) (nth done k)
      · have HE : Hid (runB f st done = false) := by
          show _ = _
          unfold runB ordB
          rw [allN_false hkl (by rw [ordAt_rdy HND.out]; exact hh)]
          simp
        have HH := Lib.hid hh; clear hh
        go_wp2_with fail
        go_region_held3 (fun w' => (w'.cell? ⟨w.heap.size, 0, none⟩ = some (.int .i64 f.ver) ∧ w'.cell? ⟨w.heap.size, 1, none⟩ = some (.slice A n c) ∧ w'.cell? ⟨w.heap.size + 1, 1, none⟩ = some (.slice (some ⟨b, off, none⟩) m d)) ∧ Below wo.heap.size wo w')
          (first | exact HSB.out _ hbw | exact HSB.out _ (Below.refl _ _).drew | fail "keep")
          (first
            | (go_at_call 64; refine (ready_any _ _ _ _ _ _ f.ver f.steps (done.take k) _ _ _ (HR.out.below (Below.refl _ _).drew) HO.out ((HD.out.below (Below.refl _ _).drew).take hk) (by omega)).mono ?_; rintro e w6 ⟨A6, n6, c6, rfl, h6, hb6⟩; have hbw : Below wo.heap.size wo w6 := (Below.refl wo.heap.size wo).drew.trans hb6)
            | (go_at_call 67; refine (contains_any _ _ _ (rdyL f.steps (done.take k)) (nth done k) _ _ h6 (by have h8 := h6.1; have h9 := rdyL_len f.steps (done.take k); rw [HLn.out] at h9; omega)).mono ?_; rintro e w7 ⟨rfl, rfl⟩; rw [HH.out])
            | fail "no arm")
        go_wp2_with fail
        go_ret
        exact ⟨ret_b HE.out.symm, HB.out.trans (hbw.mono HB.out.size)⟩
      · have HH := Lib.hid hh; clear hh
        go_wp2_with fail
        go_region_held3 (fun w' => (w'.cell? ⟨w.heap.size, 0, none⟩ = some (.int .i64 f.ver) ∧ w'.cell? ⟨w.heap.size, 1, none⟩ = some (.slice A n c) ∧ w'.cell? ⟨w.heap.size + 1, 1, none⟩ = some (.slice (some ⟨b, off, none⟩) m d)) ∧ Below wo.heap.size wo w')
          (first | exact HSB.out _ hbw | exact HSB.out _ (Below.refl _ _).drew | fail "keep")
          (first
            | (go_at_call 64; refine (ready_any _ _ _ _ _ _ f.ver f.steps (done.take k) _ _ _ (HR.out.below (Below.refl _ _).drew) HO.out ((HD.out.below (Below.refl _ _).drew).take hk) (by omega)).mono ?_; rintro e w6 ⟨A6, n6, c6, rfl, h6, hb6⟩; have hbw : Below wo.heap.size wo w6 := (Below.refl wo.heap.size wo).drew.trans hb6)
            | (go_at_call 67; refine (contains_any _ _ _ (rdyL f.steps (done.take k)) (nth done k) _ _ h6 (by have h8 := h6.1; have h9 := rdyL_len f.steps (done.take k); rw [HLn.out] at h9; omega)).mono ?_; rintro e w7 ⟨rfl, rfl⟩; rw [HH.out])
            | fail "no arm")
        go_wp2_with fail
        go_roundw
        case rel => exact ⟨k + 1, by omega, by go_num, HBW.out.trans (hbw.mono HBW.out.size), fa_succ HP.out (by rw [ordAt_rdy HND.out]; exact HH.out)⟩
        case measure => simp [intOf]; omega
    · obtain rfl : k = m := by omega
      have ho : ordB f.steps done = true := allN_true (fun j hj => HP.out j (by rw [HLm.out] at hj; exact hj))
      have HOR := Lib.hid ho; clear ho
      have hle : k ≤ n := by rw [← HLm.out, ← HLn.out]; exact ord_len HOR.out
      have HE := Lib.hid (show runB f st done = (if st = 0 then decide (k < n) else if st = 2 then decide (k = n) else if st = 1 then decide (k < n) && decide (leftN f.steps done k < k) else if st = 3 then decide (k < n) && decide (leftN f.steps done k = k) else false) by
        unfold runB; rw [HF.out, HOR.out, HLn.out, HLm.out]; rfl)
      have HFO := Lib.hid (fun x : Bl wo => forth_any A B n c k d f.ver x.wd)
      have HBA := Lib.hid (fun x : Bl wo => back_any A B n c k d f.ver f.steps done _ _ x.wd (HR.out.below x.below) hn (HD.out.below x.below) hm (fun j hj => ord_all HOR.out j (by rw [HLm.out]; exact hj)))
      obtain ⟨hL1, hL2⟩ := back_left (ss := f.steps) (done := done) (m := k)
      have HL1 := Lib.hid hL1; clear hL1
      have HL2 := Lib.hid hL2; clear hL2
      generalize leftN f.steps done k = l at *
      generalize backI f.steps done k = z at *
      have X0 : ∀ x : Bl wo, x.wd.cell? ⟨w.heap.size, 0, none⟩ = some (.int .i64 f.ver) := fun x => (blk_cl (k := 0) ((x.below.block _ (heap_lt HX.out)).trans HX.out) rfl).1
      have X1 : ∀ x : Bl wo, x.wd.cell? ⟨w.heap.size, 1, none⟩ = some (.slice A n c) := fun x => (blk_cl (k := 1) ((x.below.block _ (heap_lt HX.out)).trans HX.out) rfl).1
      have Y0 : ∀ x : Bl wo, x.wd.cell? ⟨w.heap.size + 1, 0, none⟩ = some (.int .i64 st) := fun x => (blk_cl (k := 0) ((x.below.block _ (heap_lt HY.out)).trans HY.out) rfl).1
      have Y1 : ∀ x : Bl wo, x.wd.cell? ⟨w.heap.size + 1, 1, none⟩ = some (.slice B k d) := fun x => (blk_cl (k := 1) ((x.below.block _ (heap_lt HY.out)).trans HY.out) rfl).1
      have y0 := (blk_cl (k := 0) HY.out rfl).1
      have bl : ∀ x : Bl wo, Below w.heap.size w x.wd := fun x => HB.out.trans (x.below.mono HB.out.size)
      have BL := Lib.hid bl; clear bl
      by_cases h0 : st = 0
      · subst h0
        go_wp2_with fail
        refine region_bl (by kernel_rfl) (by kernel_rfl) ?_
        repeat (go_big_quiet_step ((go_at_call 68; exact q_bl (HFO.out _))))
        refine wpQuiet_nil ?_
        intro _ hw'
        obtain ⟨x, rfl⟩ := hw'
        go_wp2_with fail
        go_ret
        refine ⟨ret_b ?_, BL.out x⟩
        rw [HE.out, if_pos trivial]
        unfold forthI
        by_cases h : k = n
        · simp [h]
        · rw [if_neg h]; simp; omega
      have h0' : (st == 0) = false := by rw [beq_eq_false_iff_ne]; exact h0
      by_cases h2 : st = 2
      · subst h2
        go_wp2_with fail
        refine region_bl (by kernel_rfl) (by kernel_rfl) ?_
        repeat (go_big_quiet_step ((go_at_call 68; exact q_bl (HFO.out _))))
        refine wpQuiet_nil ?_
        intro _ hw'
        obtain ⟨x, rfl⟩ := hw'
        go_wp2_with fail
        go_ret
        refine ⟨ret_b ?_, BL.out x⟩
        rw [HE.out, if_neg (by decide), if_pos trivial]
        unfold forthI
        by_cases h : k = n
        · simp [h]
        · rw [if_neg h]; simp [h]
      have h2' : (st == 2) = false := by rw [beq_eq_false_iff_ne]; exact h2
      by_cases h1 : st = 1
      · subst h1
        by_cases hmn : k < n
        · have e3 : decide ((k : Int) < (n : Int)) = true := by rw [decide_eq_true_iff]; omega
          go_wp2_with fail
          refine region_bl (by kernel_rfl) (by kernel_rfl) ?_
          repeat (go_big_quiet_step ((go_at_call 69; exact q_bl (HBA.out _))))
          refine wpQuiet_nil ?_
          intro _ hw'
          obtain ⟨x, rfl⟩ := hw'
          go_wp2_with fail
          go_ret
          refine ⟨ret_b ?_, BL.out x⟩
          rw [HE.out, if_neg (by decide), if_neg (by decide), if_pos trivial, decide_eq_true hmn, Bool.true_and, Bool.eq_iff_iff, decide_eq_true_iff, beq_iff_eq, ← HL1.out]
          exact eq_comm
        · have e3 : decide ((k : Int) < (n : Int)) = false := by rw [decide_eq_false_iff_not]; omega
          go_wp2_with fail
          refine region_bl (by kernel_rfl) (by kernel_rfl) ?_
          repeat (go_big_quiet_step (fail))
          refine wpQuiet_nil ?_
          intro _ hw'
          obtain ⟨x, rfl⟩ := hw'
          go_wp2_with fail
          go_ret
          exact ⟨ret_b (by rw [HE.out]; simp [hmn]), BL.out x⟩
      have h1' : (st == 1) = false := by rw [beq_eq_false_iff_ne]; exact h1
      by_cases h3 : st = 3
      · subst h3
        by_cases hmn : k < n
        · have e3 : decide ((k : Int) < (n : Int)) = true := by rw [decide_eq_true_iff]; omega
          go_wp2_with fail
          refine region_bl (by kernel_rfl) (by kernel_rfl) ?_
          repeat (go_big_quiet_step ((go_at_call 69; exact q_bl (HBA.out _))))
          refine wpQuiet_nil ?_
          intro _ hw'
          obtain ⟨x, rfl⟩ := hw'
          go_wp2_with fail
          go_ret
          refine ⟨ret_b ?_, BL.out x⟩
          rw [HE.out, if_neg (by decide), if_neg (by decide), if_neg (by decide), if_pos trivial, decide_eq_true hmn, Bool.true_and, Bool.eq_iff_iff, decide_eq_true_iff, beq_iff_eq, ← HL2.out]
          exact eq_comm
        · have e3 : decide ((k : Int) < (n : Int)) = false := by rw [decide_eq_false_iff_not]; omega
          go_wp2_with fail
          refine region_bl (by kernel_rfl) (by kernel_rfl) ?_
          repeat (go_big_quiet_step (fail))
          refine wpQuiet_nil ?_
          intro _ hw'
          obtain ⟨x, rfl⟩ := hw'
          go_wp2_with fail
          go_ret
          exact ⟨ret_b (by rw [HE.out]; simp [hmn]), BL.out x⟩
      have h3' : (st == 3) = false := by rw [beq_eq_false_iff_ne]; exact h3
      go_wp2_with fail
      go_ret
      exact ⟨ret_b (by rw [HE.out, if_neg h0, if_neg h2, if_neg h1, if_neg h3]), HB.out⟩
end Go.Proofs.YthdfefgianokgaaGreatDoor

/- Pools: the words for memory, PoolValid of both. -/
namespace Go.Proofs.YthdfefgianokgaaGreatDoor
open Go.RowKit

structure Case where
  name : Str
  st : Int
  done : List Str
  deriving Inhabited
def caseE : Elem Case :=
  { size := 3, rep := fun w lo hi b off x => Cl w b off (.string x.name) ∧ Cl w b (off + 1) (.int .i64 x.st) ∧ (∃ A n c, Cl w b (off + 2) (.slice A n c) ∧ RH strE w lo hi A n x.done ∧ n ≤ c),
    keep := fun h hs h1 h2 => ⟨h.1.same hs h1 h2, h.2.1.same hs h1 h2, by
      obtain ⟨A, n, c, h3, h4, h5⟩ := h.2.2
      exact ⟨A, n, c, h3.same hs h1 h2, h4.same hs, h5⟩⟩,
    wide := fun h hl hh => ⟨h.1, h.2.1, by
      obtain ⟨A, n, c, h1, h2, h3⟩ := h.2.2
      exact ⟨A, n, c, h1, h2.wide hl hh, h3⟩⟩ }
abbrev RCase := RL caseE
theorem RCase.at_ {w : World} {lo n : Nat} {A : Option Addr} {xs : List Case} {k : Nat} (h : RCase w lo A n xs) (hk : k < n) :
    ∃ b off, A = some ⟨b, off, none⟩ ∧ (lo ≤ b ∧ b < w.heap.size) ∧ ∀ j, j < n → ∃ A' n' c',
      (w.cell? ⟨b, off + j * 3, none⟩ = some (.string (nth xs j).name) ∧ w.cell? ⟨b, off + j * 3 + 1, none⟩ = some (.int .i64 (nth xs j).st) ∧ w.cell? ⟨b, off + j * 3 + 2, none⟩ = some (.slice A' n' c')) ∧
      RStr w lo A' n' (nth xs j).done ∧ n' ≤ c' ∧
      (w.frozen? ⟨b, off + j * 3, none⟩ = false ∧ w.frozen? ⟨b, off + j * 3 + 1, none⟩ = false ∧ w.frozen? ⟨b, off + j * 3 + 2, none⟩ = false) := by
  obtain ⟨b, off, e, h1, h2, hc⟩ := h.2 (by omega)
  refine ⟨b, off, e, ⟨h1, h2⟩, fun j hj => ?_⟩
  obtain ⟨⟨c1, f1⟩, ⟨c2, f2⟩, ⟨A', n', c', ⟨c3, f3⟩, h5, h6⟩⟩ := hc j hj
  exact ⟨A', n', c', ⟨c1, c2, c3⟩, h5, h6, f1, f2, f3⟩

end Go.Proofs.YthdfefgianokgaaGreatDoor

/- Pools: plain laws. -/
namespace Go.Proofs.YthdfefgianokgaaGreatDoor

theorem run_state {f : Flow} {st : Int} {done : List Str} (h : runB f st done = true) : 0 ≤ st ∧ st ≤ 3 := by
  unfold runB at h
  by_cases h0 : st = 0
  · omega
  by_cases h1 : st = 1
  · omega
  by_cases h2 : st = 2
  · omega
  by_cases h3 : st = 3
  · omega
  rw [if_neg h0, if_neg h2, if_neg h1, if_neg h3] at h
  simp at h

end Go.Proofs.YthdfefgianokgaaGreatDoor

/- Runs: what can be done next, the reference's side. -/
namespace Go.Proofs.YthdfefgianokgaaGreatDoor
open Go.RowKit

/-- A step can be done next. -/
def canB (f : Flow) (st : Int) (done : List Str) (x : Str) : Bool := runB f st done && (decide (st = 0) && hasB (rdyL f.steps done) x)
theorem run_flow {f : Flow} {st : Int} {done : List Str} (h : runB f st done = true) : flowB f = true := by
  unfold runB at h; rw [Bool.and_eq_true] at h; exact h.1
theorem run_ord {f : Flow} {st : Int} {done : List Str} (h : runB f st done = true) : ordB f.steps done = true := by
  unfold runB at h; rw [Bool.and_eq_true, Bool.and_eq_true] at h; exact h.2.1
theorem ord_nil (ss : List Step) : ordB ss [] = true := allN_true fun j hj => absurd hj (by simp)
theorem ord_snoc {ss : List Step} {done : List Str} {x : Str} (hn : (namesOf ss).Nodup) (h : ordB ss done = true) (hx : hasB (rdyL ss done) x = true) : ordB ss (done ++ [x]) = true := by
  refine allN_true fun j hj => ?_
  rw [ordAt_rdy hn]
  rcases Nat.lt_or_ge j done.length with h1 | h1
  · have e1 : nth (done ++ [x]) j = nth done j := by rw [nth_eq hj, nth_eq h1, List.getElem_append_left h1]
    rw [e1, List.take_append_of_le_length (Nat.le_of_lt h1), ← ordAt_rdy hn]
    exact allN_iff.1 h j h1
  · have h2 : j = done.length := by simp at hj; omega
    subst h2
    have e1 : nth (done ++ [x]) done.length = x := by rw [nth_eq hj]; simp
    rw [e1, List.take_append_of_le_length (Nat.le_refl _), List.take_length]
    exact hx
theorem can_ord {f : Flow} {st : Int} {done : List Str} {x : Str} (h : canB f st done x = true) : ordB f.steps (done ++ [x]) = true := by
  unfold canB at h
  simp only [Bool.and_eq_true] at h
  exact ord_snoc (flow_nodup (run_flow h.1)) (run_ord h.1) h.2.2

set_option maxRecDepth 100000 in
theorem runNewS_any (A : Option Addr) (n c : Nat) (f : Flow) (lo : Nat) (w : World) (hr : RStep w lo A n f.steps) (hok : okSteps f.steps) :
    Calls Tryz.prog 28 #[.agg #[.int .i64 f.ver, .slice A n c]] w fun e w' => ∃ B d, e = .returned (.tuple #[.agg #[.int .i64 0, .slice B 0 d], .bool (flowB f)]) ∧ w'.ownsRow w.heap.size 9 1 (.slice B 0 d) 0 [] ∧ Below w.heap.size w w' := by
  have HR := Lib.hid ((hr.alloc (.cells #[.int .i64 f.ver, .slice A n c] 38)).alloc (.cells #[.int .i64 0, .slice none 0 0] 40)); clear hr
  have HB := Lib.hid (((Below.refl w.heap.size w).alloc (Nat.le_refl _) (.cells #[.int .i64 f.ver, .slice A n c] 38)).alloc (by simp) (.cells #[.int .i64 0, .slice none 0 0] 40))
  have HX := Lib.hid (heap_new (w := w.alloc (.cells #[.int .i64 f.ver, .slice A n c] 38)) (b := w.heap.size + 1) (o := .cells #[.int .i64 0, .slice none 0 0] 40) (by simp))
  go_enter Tryz.func28, Tryz.ntmps28
  go_wp2_with fail
  refine (flowS_any _ _ _ f _ _ HR.out hok).mono ?_
  rintro e w1 ⟨rfl, hb⟩
  have HX1 := Lib.hid ((hb.block _ (heap_lt HX.out)).trans HX.out)
  have HB1 := Lib.hid (HB.out.trans (hb.mono HB.out.size))
  clear hb
  have x0 := (blk_cl (k := 0) HX1.out rfl).1
  have x0' := (blk_cl (k := 0) HX1.out rfl).2
  have x1 := (blk_cl (k := 1) HX1.out rfl).1
  have x1' := (blk_cl (k := 1) HX1.out rfl).2
  cases hf : flowB f
  · go_wp2_with fail
    have hres := set21 (u := .slice none 0 0) (set20 (u := .int .i64 0) HX1.out)
    have e0 := (blk_cl (k := 0) hres rfl).1
    have e1 := (blk_cl (k := 1) hres rfl).1
    exact bodyPost_ret (v := .tuple #[.agg #[.int .i64 0, .slice none 0 0], .bool false]) (by simp [results, Tryz.results28, go_sem, e0, e1]) rfl ⟨_, _, by rw [hf], ⟨rfl, .inl ⟨rfl, rfl⟩⟩, (HB1.out.setCell (p := ⟨w.heap.size + 1, 0, none⟩) (Nat.le_succ _) _).setCell (p := ⟨w.heap.size + 1, 1, none⟩) (Nat.le_succ _) _⟩
  · have hs1 := HB1.out.size
    have HX2 := Lib.hid (heap_old (o := .cells #[] 9) HX1.out)
    clear x0 x0' x1 x1'
    have x0 := (blk_cl (k := 0) HX2.out rfl).1
    have x0' := (blk_cl (k := 0) HX2.out rfl).2
    have x1 := (blk_cl (k := 1) HX2.out rfl).1
    have x1' := (blk_cl (k := 1) HX2.out rfl).2
    go_wp2_with fail
    have hres := set21 (u := .slice (some ⟨w1.heap.size, 0, none⟩) 0 0) (set20 (u := .int .i64 0) HX2.out)
    have e0 := (blk_cl (k := 0) hres rfl).1
    have e1 := (blk_cl (k := 1) hres rfl).1
    have hrow := World.ownsRow_made (base := w.heap.size) (e := 9) (size := 1) w1 #[] 0 hs1 (Nat.zero_le _) rfl
    exact bodyPost_ret (v := .tuple #[.agg #[.int .i64 0, .slice (some ⟨w1.heap.size, 0, none⟩) 0 0], .bool true]) (by simp [results, Tryz.results28, go_sem, e0, e1]) rfl ⟨_, _, by rw [hf], row_set (row_set hrow HX2.out (by decide)) (set20 HX2.out) (by decide), ((HB1.out.alloc HB1.out.size _).setCell (p := ⟨w.heap.size + 1, 0, none⟩) (Nat.le_succ _) _).setCell (p := ⟨w.heap.size + 1, 1, none⟩) (Nat.le_succ _) _⟩

set_option maxRecDepth 100000 in
set_option maxHeartbeats 1000000 in
theorem canS_any (A B : Option Addr) (n c m d : Nat) (f : Flow) (st : Int) (done : List Str) (x : Str) (lo lo' : Nat) (w : World) (hr : RStep w lo A n f.steps) (hok : okSteps f.steps) (hd : RStr w lo' B m done) (hm : m ≤ 1048576) (hmd : m ≤ d) :
    Calls Tryz.prog 113 #[.agg #[.int .i64 f.ver, .slice A n c], .agg #[.int .i64 st, .slice B m d], .string x] w fun e w' => e = .returned (.bool (canB f st done x)) ∧ Below w.heap.size w w' := by
  have hn : n ≤ 1048576 := by have := hok.1; rw [hr.1] at this; exact this
  have HX := Lib.hid (heap_old (o := .cells #[.int .i64 st, .slice B m d] 40) (heap_new (w := w) (o := .cells #[.int .i64 f.ver, .slice A n c] 38) rfl))
  have HY := Lib.hid (heap_new (w := w.alloc (.cells #[.int .i64 f.ver, .slice A n c] 38)) (b := w.heap.size + 1) (o := .cells #[.int .i64 st, .slice B m d] 40) (by simp))
  have HB := Lib.hid (((Below.refl w.heap.size w).alloc (Nat.le_refl _) (.cells #[.int .i64 f.ver, .slice A n c] 38)).alloc (by simp) (.cells #[.int .i64 st, .slice B m d] 40))
  have HR := Lib.hid ((hr.alloc (.cells #[.int .i64 f.ver, .slice A n c] 38)).alloc (.cells #[.int .i64 st, .slice B m d] 40)); clear hr
  have HD := Lib.hid ((hd.alloc (.cells #[.int .i64 f.ver, .slice A n c] 38)).alloc (.cells #[.int .i64 st, .slice B m d] 40)); clear hd
  go_enter Tryz.func113, Tryz.ntmps113
  go_wp2_with fail
  refine (l2At_any _ _ c f.steps x _ _ HR.out hn).mono ?_
  rintro e w' ⟨rfl, rfl⟩
  generalize (w.alloc (.cells #[.int .i64 f.ver, .slice A n c] 38)).alloc (.cells #[.int .i64 st, .slice B m d] 40) = wk at *
  have X0 : ∀ x : Bl wk, x.wd.cell? ⟨w.heap.size, 0, none⟩ = some (.int .i64 f.ver) := fun x => (blk_cl (k := 0) ((x.below.block _ (heap_lt HX.out)).trans HX.out) rfl).1
  have X1 : ∀ x : Bl wk, x.wd.cell? ⟨w.heap.size, 1, none⟩ = some (.slice A n c) := fun x => (blk_cl (k := 1) ((x.below.block _ (heap_lt HX.out)).trans HX.out) rfl).1
  have Y0 : ∀ x : Bl wk, x.wd.cell? ⟨w.heap.size + 1, 0, none⟩ = some (.int .i64 st) := fun x => (blk_cl (k := 0) ((x.below.block _ (heap_lt HY.out)).trans HY.out) rfl).1
  have Y1 : ∀ x : Bl wk, x.wd.cell? ⟨w.heap.size + 1, 1, none⟩ = some (.slice B m d) := fun x => (blk_cl (k := 1) ((x.below.block _ (heap_lt HY.out)).trans HY.out) rfl).1
  have HRUN := Lib.hid (fun x : Bl wk => runS_any A B n c m d f st done _ _ x.wd (HR.out.below x.below) hok (HD.out.below x.below) hm hmd)
  have BL := Lib.hid (fun x : Bl wk => HB.out.trans (x.below.mono HB.out.size))
  cases hrun : runB f st done
  · have HE : Hid (canB f st done x = false) := by show _ = _; unfold canB; rw [hrun]; rfl
    rw [hrun] at HRUN
    clear hrun
    go_wp2_with fail
    refine region_bl (by kernel_rfl) (by kernel_rfl) ?_
    repeat (go_big_quiet_step ((go_at_call 50; exact q_bl (HRUN.out _))))
    refine wpQuiet_nil ?_
    intro _ hw'
    obtain ⟨x, rfl⟩ := hw'
    go_wp2_with fail
    go_ret
    exact ⟨ret_b HE.out.symm, BL.out x⟩
  rw [hrun] at HRUN
  by_cases hst : st = 0
  · have HE := Lib.hid (show canB f st done x = hasB (rdyL f.steps done) x by unfold canB; rw [hrun, decide_eq_true hst]; rfl)
    have HRD := Lib.hid (rdy_at (flow_nodup (run_flow hrun)) done x)
    subst hst
    clear hrun
    cases hnm : hasB (namesOf f.steps) x
    · have h9 := idx_neg hnm
      have h10 : decide (0 ≤ idxI (namesOf f.steps) x) = false := by rw [decide_eq_false_iff_not]; omega
      have HG : Hid (canB f 0 done x = false) := by show _ = _; rw [HE.out, HRD.out, hnm]; rfl
      clear hnm
      generalize idxI (namesOf f.steps) x = z at *
      go_wp2_with fail
      refine region_bl (by kernel_rfl) (by kernel_rfl) ?_
      repeat (go_big_quiet_step ((go_at_call 50; exact q_bl (HRUN.out _))))
      refine wpQuiet_nil ?_
      intro _ hw'
      obtain ⟨x, rfl⟩ := hw'
      go_wp2_with fail
      go_ret
      exact ⟨ret_b HG.out.symm, BL.out x⟩
    · obtain ⟨hpl, hidx, _⟩ := plc_ex hnm
      have HS := Lib.hid (hok.2 _ hpl).2
      rw [hnm] at HRD
      rw [hidx]
      clear hnm
      generalize plc f.steps x = p at *
      have hpn : p < n := by rw [← HR.out.1]; exact hpl
      have hp0 : decide ((0 : Int) ≤ (p : Int)) = true := by rw [decide_eq_true_iff]; omega
      obtain ⟨b1, off1, rfl, ⟨_, hbr⟩, hc⟩ := RStep.at_ HR.out hpn
      obtain ⟨A', n', c', ⟨_, y2, _⟩, ha, _⟩ := hc p hpn
      clear hc hpl
      have hn' : n' ≤ 1048576 := by have := HS.out.1; rw [ha.1] at this; exact this
      have Y2 : ∀ x : Bl wk, x.wd.cell? ⟨b1, off1 + p * 3 + 1, none⟩ = some (.slice A' n' c') := fun x => (x.below.cell (p := ⟨b1, off1 + p * 3 + 1, none⟩) hbr).trans y2
      have H1 := Lib.hid (fun z : Bl wk => l1At_any _ _ d done x _ _ (HD.out.below z.below) hm)
      have H2 := Lib.hid (fun z : Bl wk => l1Have_any _ _ _ d _ c' done (nth f.steps p).after _ _ _ (HD.out.below z.below) hm (ha.below z.below) hn')
      clear ha y2
      cases hdn : hasB done x
      · have h3 := idx_neg hdn
        have h4 : decide (idxI done x < 0) = true := by rw [decide_eq_true_iff]; exact h3
        have HG := Lib.hid (show canB f 0 done x = haveB done (nth f.steps p).after by rw [HE.out, HRD.out, hdn]; rfl)
        clear hdn
        generalize idxI done x = q at *
        generalize haveB done (nth f.steps p).after = hb at *
        go_wp2_with fail
        refine region_bl (by kernel_rfl) (by kernel_rfl) ?_
        repeat (go_big_quiet_step ((first | (go_at_call 50; exact q_bl (HRUN.out _)) | (go_at_call 110; exact q_bl_same (H1.out _)) | (go_at_call 112; exact q_bl_same (H2.out _)) | fail "no arm")))
        refine wpQuiet_nil ?_
        intro _ hw'
        obtain ⟨x, rfl⟩ := hw'
        go_wp2_with fail
        go_ret
        exact ⟨ret_b HG.out.symm, BL.out x⟩
      · have h3 := idx_pos hdn
        have h4 : decide (idxI done x < 0) = false := by rw [decide_eq_false_iff_not]; omega
        have HG : Hid (canB f 0 done x = false) := by show _ = _; rw [HE.out, HRD.out, hdn]; rfl
        clear hdn
        generalize idxI done x = q at *
        go_wp2_with fail
        refine region_bl (by kernel_rfl) (by kernel_rfl) ?_
        repeat (go_big_quiet_step ((first | (go_at_call 50; exact q_bl (HRUN.out _)) | (go_at_call 110; exact q_bl_same (H1.out _)) | fail "no arm")))
        refine wpQuiet_nil ?_
        intro _ hw'
        obtain ⟨x, rfl⟩ := hw'
        go_wp2_with fail
        go_ret
        exact ⟨ret_b HG.out.symm, BL.out x⟩
  · have HE : Hid (canB f st done x = false) := by show _ = _; unfold canB; rw [decide_eq_false hst]; simp
    have hst' : (st == 0) = false := by rw [beq_eq_false_iff_ne]; exact hst
    clear hrun
    go_wp2_with fail
    refine region_bl (by kernel_rfl) (by kernel_rfl) ?_
    repeat (go_big_quiet_step ((go_at_call 50; exact q_bl (HRUN.out _))))
    refine wpQuiet_nil ?_
    intro _ hw'
    obtain ⟨x, rfl⟩ := hw'
    go_wp2_with fail
    go_ret
    exact ⟨ret_b HE.out.symm, BL.out x⟩
end Go.Proofs.YthdfefgianokgaaGreatDoor

/- Runs: a step is done, the reference's side. -/
namespace Go.Proofs.YthdfefgianokgaaGreatDoor
open Go.RowKit

/-- A step is done. -/
def doR (f : Flow) (st : Int) (done : List Str) (x : Str) : Int × List Str := if canB f st done x = true then (forthI (done.length + 1) f.steps.length, done ++ [x]) else (0, [])
theorem doR_no {f : Flow} {st : Int} {done : List Str} {x : Str} (h : canB f st done x = false) : doR f st done x = (0, []) := by unfold doR; rw [if_neg (by rw [h]; simp)]
theorem doR_yes {f : Flow} {st : Int} {done : List Str} {x : Str} (h : canB f st done x = true) : doR f st done x = (forthI (done.length + 1) f.steps.length, done ++ [x]) := by unfold doR; rw [if_pos h]
theorem own_capN {w : World} {base : Nat} {e : TypeId} {size n c : Nat} {A : Option Addr} {cs : List Value} (h : w.ownsRow base e size (.slice A n c) n cs) : n ≤ c := by
  rcases h.2 with ⟨hv, h0⟩ | ⟨g, cap, cur, hv, _, _, hnc, _⟩
  · injection hv with _ _ e
    omega
  · injection hv with _ _ e
    omega
theorem own_nil {w : World} {base : Nat} {e : TypeId} {size : Nat} : w.ownsRow base e size (.slice none 0 0) 0 [] := ⟨by simp, .inl ⟨rfl, rfl⟩⟩

theorem row_mono {w : World} {base base' : Nat} {e : TypeId} {size : Nat} {v : Value} {n : Nat} {cs : List Value} (h : w.ownsRow base e size v n cs) (hb : base' ≤ base) : w.ownsRow base' e size v n cs := by
  refine ⟨h.1, ?_⟩
  rcases h.2 with h0 | ⟨g, cap, cur, hv, h1, h2⟩
  · exact .inl h0
  · exact .inr ⟨g, cap, cur, hv, Nat.le_trans hb h1, h2⟩
/-- 'out = append(out, s)' onto a row of the call's own. -/
theorem app_strW {w : World} {ops : Array Oper} {rest : List Oper} {o : Oper} {a : Act} {Q : Exit → Act → World → Prop} (base : Nat) (v : Value) (n : Nat) (cs : List Str) (b : Nat) (s : Str) (hown : w.ownsRow base 9 1 v n (cs.map Value.string))
    (hgd : o.guard = none) (l r : Operand) (ho : o.op = .call { callee := .builtin .append, args := #[l, r], argTypes := #[33, 33] })
    (hs : a.eval l = v) (hx : a.eval r = .slice (some ⟨b, 0, none⟩) 1 1) (hb : w.heap[b]? = some (.cells #[.string s] 9 (0, 0))) (hn : n ≤ 1048576) (hbase : base ≤ w.heap.size)
    (h : ∀ v' w', w'.ownsRow base 9 1 v' (n + 1) ((cs ++ [s]).map Value.string) → w.grownBy w' v.ownBlock → (v'.ownBlock = v.ownBlock ∨ v'.ownBlock = some w.heap.size) → wpList Tryz.prog ops Q rest (a.put o.dst v') w') : wpList Tryz.prog ops Q (o :: rest) a w :=
  wpList_plain hgd fun _ hK => by
    refine wapp 33 9 1 16 _ Tryz.underlying33 info_str rfl (by omega) (by omega) base v n _ [.string s] b hown l r ho hs hx hb rfl ?_ hn hbase ?_
    · intro u hu; simp at hu; subst hu; rfl
    · intro v' w' h1 h2 h3
      exact hK _ _ (h v' w' (by rw [List.map_append]; exact h1) h2 h3)

set_option maxRecDepth 100000 in
set_option maxHeartbeats 1000000 in
theorem doS_any (A B : Option Addr) (n c m d : Nat) (f : Flow) (st : Int) (done : List Str) (x : Str) (lo lo' : Nat) (w : World) (hr : RStep w lo A n f.steps) (hok : okSteps f.steps) (hd : RStr w lo' B m done) (hm : m ≤ 1048576) (hmd : m ≤ d) :
    Calls Tryz.prog 77 #[.agg #[.int .i64 f.ver, .slice A n c], .agg #[.int .i64 st, .slice B m d], .string x] w fun e w' => ∃ B' n' d', e = .returned (.tuple #[.agg #[.int .i64 (doR f st done x).1, .slice B' n' d'], .bool (canB f st done x)]) ∧
      w'.ownsRow w.heap.size 9 1 (.slice B' n' d') n' ((doR f st done x).2.map Value.string) ∧ Below w.heap.size w w' := by
  have hn : n ≤ 1048576 := by have := hok.1; rw [hr.1] at this; exact this
  have HX := Lib.hid (heap_old (o := .cells #[.int .i64 0, .slice none 0 0] 40) (heap_old (o := .cells #[.int .i64 st, .slice B m d] 40) (heap_new (w := w) (o := .cells #[.int .i64 f.ver, .slice A n c] 38) rfl)))
  have HY := Lib.hid (heap_old (o := .cells #[.int .i64 0, .slice none 0 0] 40) (heap_new (w := w.alloc (.cells #[.int .i64 f.ver, .slice A n c] 38)) (b := w.heap.size + 1) (o := .cells #[.int .i64 st, .slice B m d] 40) (by simp)))
  have HZ := Lib.hid (heap_new (w := (w.alloc (.cells #[.int .i64 f.ver, .slice A n c] 38)).alloc (.cells #[.int .i64 st, .slice B m d] 40)) (b := w.heap.size + 1 + 1) (o := .cells #[.int .i64 0, .slice none 0 0] 40) (by simp))
  have HB := Lib.hid ((((Below.refl w.heap.size w).alloc (Nat.le_refl _) (.cells #[.int .i64 f.ver, .slice A n c] 38)).alloc (by simp) (.cells #[.int .i64 st, .slice B m d] 40)).alloc (by simp; omega) (.cells #[.int .i64 0, .slice none 0 0] 40))
  have HR := Lib.hid (((hr.alloc (.cells #[.int .i64 f.ver, .slice A n c] 38)).alloc (.cells #[.int .i64 st, .slice B m d] 40)).alloc (.cells #[.int .i64 0, .slice none 0 0] 40)); clear hr
  have HD := Lib.hid (((hd.alloc (.cells #[.int .i64 f.ver, .slice A n c] 38)).alloc (.cells #[.int .i64 st, .slice B m d] 40)).alloc (.cells #[.int .i64 0, .slice none 0 0] 40)); clear hd
  have HLm := Lib.hid HD.out.1
  have HLn := Lib.hid HR.out.1
  go_enter Tryz.func77, Tryz.ntmps77
  go_wp2_with fail
  refine (canS_any _ _ _ _ _ _ f st done x _ _ _ HR.out hok HD.out hm hmd).mono ?_
  rintro e w1 ⟨rfl, hb⟩
  have HX1 := Lib.hid ((hb.block _ (heap_lt HX.out)).trans HX.out)
  have HY1 := Lib.hid ((hb.block _ (heap_lt HY.out)).trans HY.out)
  have HZ1 := Lib.hid ((hb.block _ (heap_lt HZ.out)).trans HZ.out)
  have HB1 := Lib.hid (HB.out.trans (hb.mono HB.out.size))
  have HD1 := Lib.hid (HD.out.below hb)
  clear hb HX HY HZ HB HD
  have hs1 := heap_lt HZ1.out
  have z0 := (blk_cl (k := 0) HZ1.out rfl).1
  have z0' := (blk_cl (k := 0) HZ1.out rfl).2
  have z1 := (blk_cl (k := 1) HZ1.out rfl).1
  have z1' := (blk_cl (k := 1) HZ1.out rfl).2
  cases hcan : canB f st done x
  · have HE := Lib.hid (doR_no hcan)
    go_wp2_with fail
    have hres := set21 (u := .slice none 0 0) (set20 (u := .int .i64 0) HZ1.out)
    have e0 := (blk_cl (k := 0) hres rfl).1
    have e1 := (blk_cl (k := 1) hres rfl).1
    exact bodyPost_ret (v := .tuple #[.agg #[.int .i64 0, .slice none 0 0], .bool false]) (by simp [results, Tryz.results77, go_sem, e0, e1]) rfl ⟨none, 0, 0, by rw [HE.out, hcan], by rw [HE.out]; exact own_nil, (HB1.out.setCell (p := ⟨w.heap.size + 1 + 1, 0, none⟩) (by show w.heap.size ≤ w.heap.size + 1 + 1; omega) _).setCell (p := ⟨w.heap.size + 1 + 1, 1, none⟩) (by show w.heap.size ≤ w.heap.size + 1 + 1; omega) _⟩
  · have HE := Lib.hid (doR_yes hcan)
    have hle : m + 1 ≤ 1048576 := by
      have h1 := ord_len (can_ord hcan)
      rw [List.length_append, HLm.out, HLn.out] at h1
      have h2 := List.length_singleton (a := x)
      omega
    have HCAN := Lib.hid hcan; clear hcan
    have y1 := (blk_cl (k := 1) (heap_old (o := .cells #[] 9) HY1.out) rfl).1
    have HN := Lib.hid (own_new (w0 := w) (b := w1.heap.size) HB1.out rfl)
    have HDA := Lib.hid (HD1.out.alloc (.cells #[] 9))
    have HXA := Lib.hid (heap_old (o := .cells #[] 9) HX1.out)
    have HZA := Lib.hid (heap_old (o := .cells #[] 9) HZ1.out)
    go_wp2_with (at_builtin; refine apps_str w _ 0 [] _ B m d done HN.out HDA.out rfl (.tmp 15) (.tmp 17) rfl rfl rfl (by omega) ?_)
    intro v3 w3 how3 hg3
    have HX3 := Lib.hid (grown_blk hg3 HXA.out (by simp [Value.ownBlock]; omega))
    have HZ3 := Lib.hid (grown_blk hg3 HZA.out (by simp [Value.ownBlock]; omega))
    have HO3 := Lib.hid how3; clear how3
    have HN3x := Lib.hid (row_ne HO3.out.row HX3.out (by decide))
    have HN3z := Lib.hid (row_ne HO3.out.row HZ3.out (by decide))
    go_wp2_with (at_builtin; refine app_str w _ m done _ x ?c0 rfl (.tmp 18) (.tmp 20) rfl rfl rfl ?c1 (by omega) ?_)
    case c0 => exact HO3.out.alloc _
    case c1 => exact heap_new rfl
    intro v5 w5 how5 hg5
    replace how5 : Own 9 1 w w5 v5 (m + 1) ((done ++ [x]).map Value.string) := by rw [List.map_append]; exact how5
    have HX5 := Lib.hid (grown_blk hg5 (heap_old HX3.out) HN3x.out)
    have HZ5 := Lib.hid (grown_blk hg5 (heap_old HZ3.out) HN3z.out)
    obtain ⟨A5, c5, rfl, _⟩ := own_str how5.row
    have HO5 := Lib.hid how5; clear how5 hg5 hg3
    have hs5 := heap_lt HZ5.out
    have x1 := fun o => (blk_cl (k := 1) (heap_old (o := o) HX5.out) rfl).1
    have hne : w.heap.size + 1 + 1 ≠ w5.heap.size := by omega
    have y0 := (blk_cl (k := 0) HZ5.out rfl).1
    have y0' := (blk_cl (k := 0) HZ5.out rfl).2
    have y1 := (blk_cl (k := 1) HZ5.out rfl).1
    have y1' := (blk_cl (k := 1) HZ5.out rfl).2
    by_cases hmn : m + 1 = n
    · have e1 : (((m + 1 : Nat) : Int) == (n : Int)) = true := by rw [beq_iff_eq]; omega
      have e2 : (((m : Nat) : Int) + 1 == (n : Int)) = true := by rw [beq_iff_eq]; omega
      have HE2 := Lib.hid (show doR f st done x = (2, done ++ [x]) by rw [HE.out, HLm.out, HLn.out]; unfold forthI; rw [if_pos hmn])
      have HM := Lib.hid hmn; clear hmn
      have z0 := fun o u => (blk_cl (k := 0) (set_ne (b := w5.heap.size) (o := 0) (u := u) (heap_old (o := o) HZ5.out) hne) rfl).1
      have z0' := fun o u => (blk_cl (k := 0) (set_ne (b := w5.heap.size) (o := 0) (u := u) (heap_old (o := o) HZ5.out) hne) rfl).2
      have z1 := fun o u => (blk_cl (k := 1) (set_ne (b := w5.heap.size) (o := 0) (u := u) (heap_old (o := o) HZ5.out) hne) rfl).1
      have z1' := fun o u => (blk_cl (k := 1) (set_ne (b := w5.heap.size) (o := 0) (u := u) (heap_old (o := o) HZ5.out) hne) rfl).2
      go_wp2_with fail
      have hres := heap_old (o := .cells #[.int .i64 2, .slice A5 (m + 1) c5] 40) (set21 (u := .slice A5 (m + 1) c5) (set20 (u := .int .i64 2) HZ5.out))
      have e0 := (blk_cl (k := 0) hres rfl).1
      have e1 := (blk_cl (k := 1) hres rfl).1
      have hbl := (HO5.out.below.setCell (p := ⟨w.heap.size + 1 + 1, 0, none⟩) (by show w.heap.size ≤ w.heap.size + 1 + 1; omega) (.int .i64 2)).setCell (p := ⟨w.heap.size + 1 + 1, 1, none⟩) (by show w.heap.size ≤ w.heap.size + 1 + 1; omega) (.slice A5 (m + 1) c5)
      exact bodyPost_ret (v := .tuple #[.agg #[.int .i64 2, .slice A5 (m + 1) c5], .bool true]) (by simp [results, Tryz.results77, go_sem, e0, e1]) rfl ⟨_, _, _, by rw [HE2.out, HCAN.out], by rw [HE2.out]; exact (row_set (row_set HO5.out.row HZ5.out (by decide)) (set20 HZ5.out) (by decide)).alloc _, hbl.alloc hbl.size _⟩
    · have e1 : (((m + 1 : Nat) : Int) == (n : Int)) = false := by rw [beq_eq_false_iff_ne]; omega
      have e2 : (((m : Nat) : Int) + 1 == (n : Int)) = false := by rw [beq_eq_false_iff_ne]; omega
      have HE2 := Lib.hid (show doR f st done x = (0, done ++ [x]) by rw [HE.out, HLm.out, HLn.out]; unfold forthI; rw [if_neg hmn])
      clear hmn
      have z0 := fun o => (blk_cl (k := 0) (heap_old (o := o) HZ5.out) rfl).1
      have z0' := fun o => (blk_cl (k := 0) (heap_old (o := o) HZ5.out) rfl).2
      have z1 := fun o => (blk_cl (k := 1) (heap_old (o := o) HZ5.out) rfl).1
      have z1' := fun o => (blk_cl (k := 1) (heap_old (o := o) HZ5.out) rfl).2
      go_wp2_with fail
      have hres := heap_old (o := .cells #[.int .i64 0, .slice A5 (m + 1) c5] 40) (set21 (u := .slice A5 (m + 1) c5) (set20 (u := .int .i64 0) HZ5.out))
      have e0 := (blk_cl (k := 0) hres rfl).1
      have e1 := (blk_cl (k := 1) hres rfl).1
      have hbl := (HO5.out.below.setCell (p := ⟨w.heap.size + 1 + 1, 0, none⟩) (by show w.heap.size ≤ w.heap.size + 1 + 1; omega) (.int .i64 0)).setCell (p := ⟨w.heap.size + 1 + 1, 1, none⟩) (by show w.heap.size ≤ w.heap.size + 1 + 1; omega) (.slice A5 (m + 1) c5)
      exact bodyPost_ret (v := .tuple #[.agg #[.int .i64 0, .slice A5 (m + 1) c5], .bool true]) (by simp [results, Tryz.results77, go_sem, e0, e1]) rfl ⟨_, _, _, by rw [HE2.out, HCAN.out], by rw [HE2.out]; exact (row_set (row_set HO5.out.row HZ5.out (by decide)) (set20 HZ5.out) (by decide)).alloc _, hbl.alloc hbl.size _⟩
end Go.Proofs.YthdfefgianokgaaGreatDoor

/- Runs: a run that goes back, the reference's side. -/
namespace Go.Proofs.YthdfefgianokgaaGreatDoor
open Go.RowKit

theorem back_eq (ss : List Step) (done : List Str) (m : Nat) : backI ss done m = if leftN ss done m = m then 3 else 1 := by
  have h := back_left (ss := ss) (done := done) (m := m)
  have h2 := leftN_le ss done m
  split
  · rename_i e; exact h.2.2 e
  · rename_i e; exact h.1.2 (by omega)

set_option maxRecDepth 100000 in
set_option maxHeartbeats 1000000 in
theorem backS_any (A B : Option Addr) (n c m d : Nat) (f : Flow) (done : List Str) (lo lo' : Nat) (w : World) (hr : RStep w lo A n f.steps) (hok : okSteps f.steps) (hd : RStr w lo' B m done) (hm : m ≤ 1048576) (hord : ordB f.steps done = true) :
    Calls Tryz.prog 114 #[.agg #[.int .i64 f.ver, .slice A n c], .slice B m d] w fun e w' => ∃ B' d', e = .returned (.agg #[.int .i64 (backI f.steps done m), .slice B' m d']) ∧
      w'.ownsRow w.heap.size 9 1 (.slice B' m d') m (done.map Value.string) ∧ Below w.heap.size w w' := by
  have hn : n ≤ 1048576 := by have := hok.1; rw [hr.1] at this; exact this
  have HLm := Lib.hid hd.1
  have HX := Lib.hid (heap_old (o := .cells #[.int .i64 0, .slice none 0 0] 40) (heap_new (w := w) (o := .cells #[.int .i64 f.ver, .slice A n c] 38) rfl))
  have HZ := Lib.hid (heap_new (w := w.alloc (.cells #[.int .i64 f.ver, .slice A n c] 38)) (b := w.heap.size + 1) (o := .cells #[.int .i64 0, .slice none 0 0] 40) (by simp))
  have HB := Lib.hid (((Below.refl w.heap.size w).alloc (Nat.le_refl _) (.cells #[.int .i64 f.ver, .slice A n c] 38)).alloc (by simp) (.cells #[.int .i64 0, .slice none 0 0] 40))
  have HR := Lib.hid ((hr.alloc (.cells #[.int .i64 f.ver, .slice A n c] 38)).alloc (.cells #[.int .i64 0, .slice none 0 0] 40)); clear hr
  have HD := Lib.hid ((hd.alloc (.cells #[.int .i64 f.ver, .slice A n c] 38)).alloc (.cells #[.int .i64 0, .slice none 0 0] 40)); clear hd
  have HE := Lib.hid (back_eq f.steps done m)
  have HLEFT := Lib.hid (fun (w' : World) (hr : RStep w' lo A n f.steps) (hd : RStr w' lo' B m done) => l3Left_any _ _ n c m d f.steps done _ _ _ hr hn hd hm (fun j hj => ord_all hord j (by rw [HLm.out]; exact hj)))
  have hle := leftN_le f.steps done m
  generalize leftN f.steps done m = l at *
  go_enter Tryz.func114, Tryz.ntmps114
  have HSZ := Lib.hid (show ((w.alloc (.cells #[.int .i64 f.ver, .slice A n c] 38)).alloc (.cells #[.int .i64 0, .slice none 0 0] 40)).heap.size = w.heap.size + 1 + 1 by simp)
  have HN := Lib.hid (own_new (w0 := w) (b := w.heap.size + 1 + 1) HB.out HSZ.out.symm)
  have HDA := Lib.hid (HD.out.alloc (.cells #[] 9))
  have HXA := Lib.hid (heap_old (o := .cells #[] 9) HX.out)
  have HZA := Lib.hid (heap_old (o := .cells #[] 9) HZ.out)
  go_wp2_with (at_builtin; refine apps_str w _ 0 [] _ B m d done HN.out HDA.out rfl (.tmp 6) (.tmp 7) rfl rfl rfl (by omega) ?_)
  intro v3 w3 how3 hg3
  have HX3 := Lib.hid (grown_blk hg3 HXA.out (by simp [Value.ownBlock]; omega))
  have HZ3 := Lib.hid (grown_blk hg3 HZA.out (by simp [Value.ownBlock]))
  obtain ⟨A3, c3, rfl, _⟩ := own_str how3.row
  have HO3 := Lib.hid how3; clear how3
  have hs3 := heap_lt HZ3.out
  have hne : w.heap.size + 1 ≠ w3.heap.size := by omega
  have hb13 : Below ((w.alloc (.cells #[.int .i64 f.ver, .slice A n c] 38)).alloc (.cells #[.int .i64 0, .slice none 0 0] 40)).heap.size ((w.alloc (.cells #[.int .i64 f.ver, .slice A n c] 38)).alloc (.cells #[.int .i64 0, .slice none 0 0] 40)) w3 := ((Below.refl ((w.alloc (.cells #[.int .i64 f.ver, .slice A n c] 38)).alloc (.cells #[.int .i64 0, .slice none 0 0] 40)).heap.size ((w.alloc (.cells #[.int .i64 f.ver, .slice A n c] 38)).alloc (.cells #[.int .i64 0, .slice none 0 0] 40))).alloc (Nat.le_refl _) (.cells #[] 9)).grown hg3 (by simp) (by rw [HSZ.out]; simp [Value.ownBlock])
  have HRL := Lib.hid (fun o => HLEFT.out (w3.alloc o) ((HR.out.below hb13).alloc o) ((HD.out.below hb13).alloc o))
  clear hb13 hg3
  have x1 := fun o => (blk_cl (k := 1) (heap_old (o := o) HX3.out) rfl).1
  have y0 := (blk_cl (k := 0) HZ3.out rfl).1
  have y0' := (blk_cl (k := 0) HZ3.out rfl).2
  have y1 := (blk_cl (k := 1) HZ3.out rfl).1
  have y1' := (blk_cl (k := 1) HZ3.out rfl).2
  have z0 := fun o => (blk_cl (k := 0) (heap_old (o := o) HZ3.out) rfl).1
  have z0' := fun o => (blk_cl (k := 0) (heap_old (o := o) HZ3.out) rfl).2
  have z1 := fun o => (blk_cl (k := 1) (heap_old (o := o) HZ3.out) rfl).1
  have z1' := fun o => (blk_cl (k := 1) (heap_old (o := o) HZ3.out) rfl).2
  by_cases hlm : l = m
  · have e1 : ((l : Int) == (m : Int)) = true := by rw [beq_iff_eq]; omega
    have HE2 := Lib.hid (show backI f.steps done m = 3 by rw [HE.out, if_pos hlm])
    clear hlm
    have v0 := fun o u => (blk_cl (k := 0) (set_ne (b := w3.heap.size) (o := 0) (u := u) (heap_old (o := o) HZ3.out) hne) rfl).1
    have v0' := fun o u => (blk_cl (k := 0) (set_ne (b := w3.heap.size) (o := 0) (u := u) (heap_old (o := o) HZ3.out) hne) rfl).2
    have v1 := fun o u => (blk_cl (k := 1) (set_ne (b := w3.heap.size) (o := 0) (u := u) (heap_old (o := o) HZ3.out) hne) rfl).1
    have v1' := fun o u => (blk_cl (k := 1) (set_ne (b := w3.heap.size) (o := 0) (u := u) (heap_old (o := o) HZ3.out) hne) rfl).2
    go_wp2_with (go_at_call 84; refine (HRL.out _).mono ?_; rintro e w' ⟨rfl, rfl⟩)
    have hres := heap_old (o := .cells #[.int .i64 3, .slice A3 m c3] 40) (set21 (u := .slice A3 m c3) (set20 (u := .int .i64 3) HZ3.out))
    have e0 := (blk_cl (k := 0) hres rfl).1
    have e1 := (blk_cl (k := 1) hres rfl).1
    have hbl := (HO3.out.below.setCell (p := ⟨w.heap.size + 1, 0, none⟩) (Nat.le_succ _) (.int .i64 3)).setCell (p := ⟨w.heap.size + 1, 1, none⟩) (Nat.le_succ _) (.slice A3 m c3)
    exact bodyPost_ret (v := .agg #[.int .i64 3, .slice A3 m c3]) (by simp [results, Tryz.results114, go_sem, e0, e1]) rfl ⟨_, _, by rw [HE2.out], (row_set (row_set HO3.out.row HZ3.out (by decide)) (set20 HZ3.out) (by decide)).alloc _, hbl.alloc hbl.size _⟩
  · have e1 : ((l : Int) == (m : Int)) = false := by rw [beq_eq_false_iff_ne]; omega
    have HE2 := Lib.hid (show backI f.steps done m = 1 by rw [HE.out, if_neg hlm])
    clear hlm
    go_wp2_with (go_at_call 84; refine (HRL.out _).mono ?_; rintro e w' ⟨rfl, rfl⟩)
    have hres := heap_old (o := .cells #[.int .i64 1, .slice A3 m c3] 40) (set21 (u := .slice A3 m c3) (set20 (u := .int .i64 1) HZ3.out))
    have e0 := (blk_cl (k := 0) hres rfl).1
    have e1 := (blk_cl (k := 1) hres rfl).1
    have hbl := (HO3.out.below.setCell (p := ⟨w.heap.size + 1, 0, none⟩) (Nat.le_succ _) (.int .i64 1)).setCell (p := ⟨w.heap.size + 1, 1, none⟩) (Nat.le_succ _) (.slice A3 m c3)
    exact bodyPost_ret (v := .agg #[.int .i64 1, .slice A3 m c3]) (by simp [results, Tryz.results114, go_sem, e0, e1]) rfl ⟨_, _, by rw [HE2.out], (row_set (row_set HO3.out.row HZ3.out (by decide)) (set20 HZ3.out) (by decide)).alloc _, hbl.alloc hbl.size _⟩
end Go.Proofs.YthdfefgianokgaaGreatDoor

/- Drawing runs. -/
namespace Go.Proofs.YthdfefgianokgaaGreatDoor
open Go.RowKit

/-- The head of the loop. -/
structure RunI (w : World) (g q : Nat) (f : Flow) (A : Option Addr) (n c : Nat) (R : Nat) (wr : World) (st : Int) (B : Option Addr) (m d : Nat) (done : List Str) : Prop where
  ord : ordB f.steps done = true
  row : wr.ownsRow (w.heap.size + 2) 9 1 (.slice B m d) m (done.map Value.string)
  dr : Dr 60 w g q wr
  flow : wr.heap[w.heap.size]? = some (.cells #[.int .i64 f.ver, .slice A n c] 38 (0, 0))
  res : wr.heap[w.heap.size + 1]? = some (.cells #[.int .i64 0, .slice none 0 0] 40 (0, 0))
  box : wr.heap[R]? = some (.cells #[.int .i64 st, .slice B m d] 40 (0, 0))
theorem RunI.len {w : World} {g q : Nat} {f : Flow} {A : Option Addr} {n c R : Nat} {wr : World} {st : Int} {B : Option Addr} {m d : Nat} {done : List Str} (h : RunI w g q f A n c R wr st B m d done) : done.length = m := by
  have := h.row.1; simpa using this

end Go.Proofs.YthdfefgianokgaaGreatDoor

/- Rows of cases of the call's own. -/
namespace Go.Proofs.YthdfefgianokgaaGreatDoor
open Go.RowKit

theorem SStr.alloc {w : World} {base n : Nat} {A : Option Addr} {xs : List Str} (h : SStr w base A n xs) (o : Obj) : SStr (w.alloc o) base A n xs := h.below ((Below.refl _ _).alloc (Nat.le_refl _) o)
theorem SStr.drew {w : World} {base n : Nat} {A : Option Addr} {xs : List Str} (h : SStr w base A n xs) : SStr w.drew base A n xs := h.below (Below.refl _ _).drew
end Go.Proofs.YthdfefgianokgaaGreatDoor

/- Rows of cases beside a row of names. -/
namespace Go.Proofs.YthdfefgianokgaaGreatDoor
open Go.RowKit

theorem SStr.lt {w : World} {base n b : Nat} {A : Option Addr} {xs : List Str} (h : SStr w base A n xs) (hn : 0 < n) (e : A = some ⟨b, 0, none⟩) : base ≤ b ∧ b < w.heap.size := by
  obtain ⟨b', cs, e', h1, h2, _⟩ := h.2 hn
  rw [e] at e'
  injection e' with e'; injection e' with e'
  subst e'
  exact ⟨h1, heap_lt h2⟩
end Go.Proofs.YthdfefgianokgaaGreatDoor

/- Texts of runs: both. -/
namespace Go.Proofs.YthdfefgianokgaaGreatDoor
open Go.RowKit

def stateS (st : Int) : Str := if st = 0 then ⟨#[103, 111, 101, 115]⟩ else if st = 1 then ⟨#[98, 97, 99, 107]⟩ else if st = 2 then ⟨#[101, 110, 100, 101, 100]⟩ else ⟨#[117, 110, 100, 111, 110, 101]⟩
def rtS (st : Int) (done : List Str) : Str := stateS st ++ ⟨#[32]⟩ ++ namesS done
def rtT (f : Flow) (st : Int) (done : List Str) : Str := if runB f st done = true then rtS st done else ⟨#[]⟩
theorem rtT_yes {f : Flow} {st : Int} {done : List Str} (h : runB f st done = true) : rtT f st done = rtS st done := by unfold rtT; rw [if_pos h]
theorem rtT_no {f : Flow} {st : Int} {done : List Str} (h : runB f st done = false) : rtT f st done = ⟨#[]⟩ := by unfold rtT; rw [if_neg (by rw [h]; simp)]

theorem run_sizes {f : Flow} {st : Int} {done : List Str} (h : runB f st done = true) : done.length ≤ 8 ∧ ∀ j, j < done.length → nameB (nth done j) = true := by
  have ho := run_ord h
  have hf := flowB_iff.1 (run_flow h)
  refine ⟨Nat.le_trans (ord_len ho) hf.2.2.1.2, fun j hj => ?_⟩
  obtain ⟨i, hi, he⟩ := nth_of_mem (hasB_true.1 (ord_all ho j hj))
  rw [namesOf_len] at hi
  rw [namesOf_at hi] at he
  have h1 := hf.1 i hi
  simp only [stepAt, stepB, Bool.and_eq_true] at h1
  rw [← he]
  exact h1.1.1.1.1.2
theorem namesS_size8 {xs : List Str} (h8 : xs.length ≤ 8) (h : ∀ j, j < xs.length → nameB (nth xs j) = true) : (namesS xs).size ≤ 48 := by
  unfold namesS
  split
  · show 1 ≤ 48; omega
  · have := jnS_size (xs := xs) (m := 5) (fun j hj => (nameB_size (h j hj)).2) xs.length (Nat.le_refl _)
    have h2 : xs.length * (5 + 1) ≤ 8 * 6 := Nat.mul_le_mul_right _ h8
    omega
theorem stateS_size (st : Int) : (stateS st).size ≤ 6 := by
  unfold stateS
  repeat' split
  all_goals decide

theorem Below.al_ {w w' : World} (h : Below w.heap.size w w') (o : Obj) : Below w.heap.size w (w'.alloc o) := h.alloc h.size o

set_option maxRecDepth 100000 in
theorem l41State_any (st : Int) (w : World) (h0 : 0 ≤ st) (h1 : st ≤ 3) :
    Calls Tryz.prog 51 #[.int .i64 st] w fun e w' => e = .returned (.string (stateS st)) ∧ w = w' := by
  obtain ⟨s, hs, rfl⟩ : ∃ s : Nat, s < 4 ∧ st = (s : Int) := ⟨st.toNat, by omega, by omega⟩
  match s, hs with
  | 0, _ =>
    go_enter Tryz.func51, Tryz.ntmps51
    go_wp2_with fail
    go_ret
    exact ⟨rfl, rfl⟩
  | 1, _ =>
    go_enter Tryz.func51, Tryz.ntmps51
    go_wp2_with fail
    go_ret
    exact ⟨rfl, rfl⟩
  | 2, _ =>
    go_enter Tryz.func51, Tryz.ntmps51
    go_wp2_with fail
    go_ret
    exact ⟨rfl, rfl⟩
  | 3, _ =>
    go_enter Tryz.func51, Tryz.ntmps51
    go_wp2_with fail
    go_ret
    exact ⟨rfl, rfl⟩

set_option maxRecDepth 100000 in
set_option maxHeartbeats 1000000 in
theorem runTextS_any (A B : Option Addr) (n c m d : Nat) (f : Flow) (st : Int) (done : List Str) (lo lo' : Nat) (w : World) (hr : RStep w lo A n f.steps) (hok : okSteps f.steps) (hd : RStr w lo' B m done) (hm : m ≤ 1048576) (hmd : m ≤ d) :
    Calls Tryz.prog 30 #[.agg #[.int .i64 f.ver, .slice A n c], .agg #[.int .i64 st, .slice B m d]] w fun e w' => e = .returned (.string (rtT f st done)) ∧ Below w.heap.size w w' := by
  have HO := Lib.hid hok; clear hok
  have HX0 := Lib.hid (heap_old (o := .cells #[.int .i64 st, .slice B m d] 40) (heap_new (w := w) (o := .cells #[.int .i64 f.ver, .slice A n c] 38) rfl))
  have HY0 := Lib.hid (heap_new (w := w.alloc (.cells #[.int .i64 f.ver, .slice A n c] 38)) (b := w.heap.size + 1) (o := .cells #[.int .i64 st, .slice B m d] 40) (by simp))
  have HB0 := Lib.hid (((Below.refl w.heap.size w).alloc (Nat.le_refl _) (.cells #[.int .i64 f.ver, .slice A n c] 38)).alloc (by simp) (.cells #[.int .i64 st, .slice B m d] 40))
  have HR := Lib.hid ((hr.alloc (.cells #[.int .i64 f.ver, .slice A n c] 38)).alloc (.cells #[.int .i64 st, .slice B m d] 40)); clear hr
  have HD := Lib.hid ((hd.alloc (.cells #[.int .i64 f.ver, .slice A n c] 38)).alloc (.cells #[.int .i64 st, .slice B m d] 40)); clear hd
  have HLm := Lib.hid (show done.length = m from HD.out.1)
  go_enter Tryz.func30, Tryz.ntmps30
  go_wp2_with fail
  refine (runS_any _ _ _ _ _ _ f st done _ _ _ HR.out HO.out HD.out hm hmd).mono ?_
  rintro e w1 ⟨rfl, hb⟩
  have HY1 := Lib.hid ((hb.block _ (heap_lt HY0.out)).trans HY0.out)
  have HB1 := Lib.hid (HB0.out.trans (hb.mono HB0.out.size))
  have HD1 := Lib.hid (HD.out.below hb)
  clear hb HX0 HY0 HR HD HB0
  cases hrb : runB f st done
  · have HE := Lib.hid (rtT_no hrb); clear hrb
    go_wp2_with fail
    go_ret
    exact ⟨ret_s HE.out.symm, HB1.out⟩
  have HE := Lib.hid (rtT_yes hrb)
  obtain ⟨h8, hnm⟩ := run_sizes hrb
  have hst := run_state hrb
  have q1 := namesS_size8 h8 hnm
  have q2 := stateS_size st
  have HNM := Lib.hid hnm; clear hnm hrb
  have hm8 : m ≤ 8 := by rw [← HLm.out]; exact h8
  clear h8
  have hwx := heap_lt HY1.out
  have HNT := Lib.hid (fun x : Bl w1 => l41Names_any B m d done _ x.wd (HD1.out.below x.below) (by omega) (fun j hj => by have := (nameB_size (HNM.out j (by rw [HLm.out]; exact hj))).2; omega))
  have HST := Lib.hid (fun x : Bl w1 => l41State_any st x.wd hst.1 hst.2)
  have X0 : ∀ x : Bl w1, x.wd.cell? ⟨w.heap.size + 1, 0, none⟩ = some (.int .i64 st) := fun x => (blk_cl (k := 0) ((x.below.block _ hwx).trans HY1.out) rfl).1
  have X1 : ∀ x : Bl w1, x.wd.cell? ⟨w.heap.size + 1, 1, none⟩ = some (.slice B m d) := fun x => (blk_cl (k := 1) ((x.below.block _ hwx).trans HY1.out) rfl).1
  go_wp2_with fail
  refine region_bl (by kernel_rfl) (by kernel_rfl) ?_
  repeat (go_big_quiet_step (first | (go_at_call 51; exact q_bl_same (HST.out _)) | (go_at_call 44; exact q_bl_same (HNT.out _))))
  refine wpQuiet_nil ?_
  intro _ hw'
  obtain ⟨x, rfl⟩ := hw'
  have HB2 := Lib.hid (HB1.out.trans (x.below.mono HB1.out.size))
  clear X0 X1 HNT HST
  go_wp2_with fail
  go_ret
  exact ⟨ret_s (by rw [HE.out]; rfl), HB2.out⟩

end Go.Proofs.YthdfefgianokgaaGreatDoor

/- Texts of runs: the program's side. -/
namespace Go.Proofs.YthdfefgianokgaaGreatDoor
open Go.RowKit

section
variable {P : Program} {ops : Array Oper} {Q : Exit → Act → World → Prop} {md : Region.Mode} {S S' : World → Prop}
/-- The condition may grow on the way. -/
theorem wpAnyH_mono (hss : ∀ w, S' w → S w) : ∀ (fuel : Nat) (listed : Array Bool) (a : Act) (w : World), wpAnyH P md ops Q S' fuel listed a w → wpAnyH P md ops Q S fuel listed a w
  | 0, _, _, _, h => h
  | fuel + 1, _, _, _, h => ⟨h.1, fun i hi => wpOp_mono (fun a' w' h' => ⟨hss w' h'.1, wpAnyH_mono hss fuel _ a' w' h'.2⟩) (h.2 i hi)⟩
theorem wpAnyH_takeD {i : Nat} {oi : Oper} {v : Value} {d : Option Tmp} {fuel : Nat} {listed : Array Bool} {a : Act} {w : World} (hi : ops[i]? = some oi) (hd : oi.dst = d)
    (hs : Region.noSelect ops = true) (hf : Region.free md ops listed i = true) (hr : (Region.ready md ops listed).contains i = true)
    (hQ : ∀ c a w, Q (.panic c) (a.put d v) w → Q (.panic c) a w) (hy : YieldsIf P ops S oi v a) (hS : S w)
    (h : wpAnyH P md ops Q S fuel (listed.setIfInBounds i true) (a.put d v) w) : wpAnyH P md ops Q S (fuel + 1) listed a w := by
  subst hd
  exact wpAnyH_take hi hs hf hr hQ hy hS h
end

set_option maxRecDepth 100000 in
set_option maxHeartbeats 2000000 in
theorem runTextI_any (A B : Option Addr) (n c m d : Nat) (f : Flow) (st : Int) (done : List Str) (lo lo' : Nat) (w : World) (hr : RStep w lo A n f.steps) (hok : okSteps f.steps) (hd : RStr w lo' B m done) (hm : m ≤ 1048576) (hmd : m ≤ d) :
    Calls Tryz.prog 25 #[.agg #[.int .i64 f.ver, .slice A n c], .agg #[.int .i64 st, .slice B m d]] w fun e w' => e = .returned (.string (rtT f st done)) ∧ Below w.heap.size w w' := by
  have HO := Lib.hid hok; clear hok
  have HY0 := Lib.hid (heap_new (w := w.alloc (.cells #[.int .i64 f.ver, .slice A n c] 38)) (b := w.heap.size + 1) (o := .cells #[.int .i64 st, .slice B m d] 40) (by simp))
  have HB0 := Lib.hid (((Below.refl w.heap.size w).alloc (Nat.le_refl _) (.cells #[.int .i64 f.ver, .slice A n c] 38)).alloc (by simp) (.cells #[.int .i64 st, .slice B m d] 40))
  have HR := Lib.hid ((hr.alloc (.cells #[.int .i64 f.ver, .slice A n c] 38)).alloc (.cells #[.int .i64 st, .slice B m d] 40)); clear hr
  have HD := Lib.hid ((hd.alloc (.cells #[.int .i64 f.ver, .slice A n c] 38)).alloc (.cells #[.int .i64 st, .slice B m d] 40)); clear hd
  have HLm := Lib.hid (show done.length = m from HD.out.1)
  go_enter Tryz.func25, Tryz.ntmps25
  go_wp2_with fail
  refine (runI_any _ _ _ _ _ _ f st done _ _ _ HR.out HO.out HD.out hm hmd).mono ?_
  rintro e w1 ⟨rfl, hb⟩
  have HY1 := Lib.hid ((hb.block _ (heap_lt HY0.out)).trans HY0.out)
  have HB1 := Lib.hid (HB0.out.trans (hb.mono HB0.out.size))
  have HD1 := Lib.hid (HD.out.below hb)
  clear hb HY0 HR HD HB0
  cases hrb : runB f st done
  · have HE := Lib.hid (rtT_no hrb); clear hrb
    go_wp2_with fail
    go_ret
    exact ⟨ret_s HE.out.symm, HB1.out⟩
  have HE := Lib.hid (rtT_yes hrb)
  obtain ⟨h8, hnm⟩ := run_sizes hrb
  have hst := run_state hrb
  have q1 := namesS_size8 h8 hnm
  have HNM := Lib.hid hnm; clear hnm hrb
  have hm8 : m ≤ 8 := by rw [← HLm.out]; exact h8
  clear h8
  have hwx := heap_lt HY1.out
  have HSB : Hid (∀ w', Below w1.heap.size w1 w' → (w'.cell? ⟨w.heap.size + 1, 0, none⟩ = some (.int .i64 st) ∧ w'.cell? ⟨w.heap.size + 1, 1, none⟩ = some (.slice B m d)) ∧ Below w1.heap.size w1 w') := fun w' h => by
    have e1 := (h.block _ (heap_lt HY1.out)).trans HY1.out
    exact ⟨⟨(blk_cl (k := 0) e1 rfl).1, (blk_cl (k := 1) e1 rfl).1⟩, h⟩
  have HNT : Hid (∀ cur, Below w1.heap.size w1 cur → Calls Tryz.prog 37 #[.slice B m d] cur fun e w' => e = .returned (.string (namesS done)) ∧ Below w1.heap.size w1 w' ∧ Below cur.heap.size cur w') := fun cur h =>
    (namesTextI_any B m d done _ cur (HD1.out.below h) hmd (by omega) (fun j hj => by have := (nameB_size (HNM.out j (by rw [HLm.out]; exact hj))).2; omega)).mono fun e w' ⟨he, hb⟩ => ⟨he, h.trans (hb.mono h.size), hb⟩
  generalize hnd : namesS done = nd at *
  have HND := Lib.hid hnd; clear hnd
  by_cases h0 : st = 0
  · subst h0
    have HE0 := Lib.hid (show stateS 0 = ⟨#[103, 111, 101, 115]⟩ from rfl)
    clear hst
    go_wp2_with fail
    refine wp_region_held_drew (S := fun w' => (w'.cell? ⟨w.heap.size + 1, 0, none⟩ = some (.int .i64 0) ∧ w'.cell? ⟨w.heap.size + 1, 1, none⟩ = some (.slice B m d)) ∧ Below w1.heap.size w1 w') (by kernel_rfl) (HSB.out _ (Below.refl _ _).drew) (fun hH => ?_)
    refine wpAnyH_takeD (i := 1) (d := some 10) (v := ?v1) rfl (by rfl) (by kernel_rfl) (by kernel_rfl) (by kernel_rfl) (fun _ _ _ h => h) (Or.inl ⟨by rfl, ?y1⟩) hH ?r1
    case y1 => (intro w' hS; (try dsimp only at hS); go_simp; (try with_reducible rfl))
    (try simp only [Act.put, List.setIfInBounds_toArray, List.set_cons_zero, List.set_cons_succ])
    refine wpAnyH_takeD (i := 2) (d := some 11) (v := ?v2) rfl (by rfl) (by kernel_rfl) (by kernel_rfl) (by kernel_rfl) (fun _ _ _ h => h) (Or.inl ⟨by rfl, ?y2⟩) hH ?r2
    case y2 => (intro w' hS; (try dsimp only at hS); go_simp; (try with_reducible rfl))
    (try simp only [Act.put, List.setIfInBounds_toArray, List.set_cons_zero, List.set_cons_succ])
    refine wpAnyH_takeD (i := 6) (d := some 15) (v := ?v3) rfl (by rfl) (by kernel_rfl) (by kernel_rfl) (by kernel_rfl) (fun _ _ _ h => h) (Or.inl ⟨by rfl, ?y3⟩) hH ?r3
    case y3 => (intro w' hS; (try dsimp only at hS); go_simp; (try with_reducible rfl))
    (try simp only [Act.put, List.setIfInBounds_toArray, List.set_cons_zero, List.set_cons_succ])
    refine wpAnyH_takeD (i := 7) (d := some 16) (v := ?v4) rfl (by rfl) (by kernel_rfl) (by kernel_rfl) (by kernel_rfl) (fun _ _ _ h => h) (Or.inl ⟨by rfl, ?y4⟩) hH ?r4
    case y4 => (intro w' hS; (try dsimp only at hS); go_simp; (try with_reducible rfl))
    (try simp only [Act.put, List.setIfInBounds_toArray, List.set_cons_zero, List.set_cons_succ])
    refine wpAnyH_ready (rs := [0, 8]) (by kernel_rfl) (by simp) ?_
    refine AllReadyH.cons rfl (fun K hK => ?_) ?_
    · go_simp
      refine hK.out _ _ (HSB.out _ (Below.al_ (Below.refl _ _).drew _)) (fun hH2 => ?_)
      clear hK K hH
      have hH := And.intro hH2 (blk_cl (w := w1.drew.alloc (.cells #[.string ⟨#[103, 111, 101, 115]⟩, .string ⟨#[98, 97, 99, 107]⟩, .string ⟨#[101, 110, 100, 101, 100]⟩, .string ⟨#[117, 110, 100, 111, 110, 101]⟩] 9)) (b := w1.heap.size) (k := 0) (heap_new rfl) rfl).1
      refine wpAnyH_mono (S' := fun w' => ((w'.cell? ⟨w.heap.size + 1, 0, none⟩ = some (.int .i64 0) ∧ w'.cell? ⟨w.heap.size + 1, 1, none⟩ = some (.slice B m d)) ∧ Below w1.heap.size w1 w') ∧ w'.cell? ⟨w1.heap.size, 0, none⟩ = some (.string ⟨#[103, 111, 101, 115]⟩)) (fun w h => h.1) _ _ _ _ ?_
      (try simp only [Act.put, List.setIfInBounds_toArray, List.set_cons_zero, List.set_cons_succ])
      refine wpAnyH_takeD (i := 3) (d := some 12) (v := ?v5) rfl (by rfl) (by kernel_rfl) (by kernel_rfl) (by kernel_rfl) (fun _ _ _ h => h) (Or.inl ⟨by rfl, ?y5⟩) hH ?r5
      case y5 => (intro w' hS; (try dsimp only at hS); go_simp; (try with_reducible rfl))
      (try simp only [Act.put, List.setIfInBounds_toArray, List.set_cons_zero, List.set_cons_succ])
      refine wpAnyH_takeD (i := 4) (d := some 13) (v := ?v6) rfl (by rfl) (by kernel_rfl) (by kernel_rfl) (by kernel_rfl) (fun _ _ _ h => h) (Or.inl ⟨by rfl, ?y6⟩) hH ?r6
      case y6 => (intro w' hS; (try dsimp only at hS); go_simp; (try with_reducible rfl))
      (try simp only [Act.put, List.setIfInBounds_toArray, List.set_cons_zero, List.set_cons_succ])
      refine wpAnyH_takeD (i := 5) (d := some 14) (v := ?v7) rfl (by rfl) (by kernel_rfl) (by kernel_rfl) (by kernel_rfl) (fun _ _ _ h => h) (Or.inl ⟨by rfl, ?y7⟩) hH ?r7
      case y7 => (intro w' hS; (try dsimp only at hS); go_simp; (try with_reducible rfl))
      (try simp only [Act.put, List.setIfInBounds_toArray, List.set_cons_zero, List.set_cons_succ])
      generalize hz5 : (⟨#[103, 111, 101, 115]⟩ ++ ⟨#[32]⟩ : Str) = z5
      have hs5 : z5.size ≤ 7 := by rw [← hz5, bsz_app]; show 4 + 1 ≤ 7; omega
      have HZ5 := Lib.hid hz5; clear hz5
      refine wpAnyH_ready (rs := [8]) (by kernel_rfl) (by simp) ?_
      refine AllReadyH.cons rfl (fun K hK => ?_) AllReadyH.nil
      go_wp2_with fail
      go_at_call 37
      refine (HNT.out _ (by repeat (first | with_reducible exact hbw | with_reducible exact Below.refl _ _ | apply Below.drew | apply Below.al_))).mono ?_
      rintro e w2 ⟨rfl, hbw, hb2⟩
      go_wp2_with fail
      refine hK.out _ _ ⟨HSB.out _ hbw, (hb2.cell (p := ⟨w1.heap.size, 0, none⟩) (by simp)).trans hH.2⟩ (fun hH3 => ?_)
      clear hK K hH
      have hH := hH3
      (try simp only [Act.put, List.setIfInBounds_toArray, List.set_cons_zero, List.set_cons_succ])
      refine wpAnyH_ready (rs := [9]) (by kernel_rfl) (by simp) ?_
      refine AllReadyH.cons rfl (fun K hK => ?_) AllReadyH.nil
      go_simp
      rw [if_neg (by omega)]
      (try simp only [Oper.upon])
      refine hK.out _ _ hH (fun _ => ?_)
      clear hK K
      (try simp only [Act.put, List.setIfInBounds_toArray, List.set_cons_zero, List.set_cons_succ])
      refine wpAnyH_takeD (i := 10) (d := some 4) (v := ?v8) rfl (by rfl) (by kernel_rfl) (by kernel_rfl) (by kernel_rfl) (fun _ _ _ h => h) (Or.inl ⟨by rfl, ?y8⟩) hH ?r8
      case y8 => (intro w' hS; (try dsimp only at hS); go_simp; (try with_reducible rfl))
      (try simp only [Act.put, List.setIfInBounds_toArray, List.set_cons_zero, List.set_cons_succ])
      refine wpAnyH_done (by kernel_rfl) ?_ _
      go_wp2_with fail
      go_ret
      exact ⟨ret_s (by rw [HE.out]; unfold rtS; rw [HND.out, HE0.out, HZ5.out]), HB1.out.trans ((by repeat (first | with_reducible exact hbw | with_reducible exact Below.refl _ _ | apply Below.drew | apply Below.al_) : Below w1.heap.size w1 _).mono HB1.out.size)⟩
    refine AllReadyH.cons rfl (fun K hK => ?_) AllReadyH.nil
    go_wp2_with fail
    go_at_call 37
    refine (HNT.out _ (by repeat (first | with_reducible exact hbw | with_reducible exact Below.refl _ _ | apply Below.drew | apply Below.al_))).mono ?_
    rintro e w2 ⟨rfl, hbw, hb2⟩
    go_wp2_with fail
    refine hK.out _ _ (HSB.out _ hbw) (fun hH2 => ?_)
    clear hK K hH
    have hH := hH2
    (try simp only [Act.put, List.setIfInBounds_toArray, List.set_cons_zero, List.set_cons_succ])
    refine wpAnyH_ready (rs := [0]) (by kernel_rfl) (by simp) ?_
    refine AllReadyH.cons rfl (fun K hK => ?_) AllReadyH.nil
    go_simp
    refine hK.out _ _ (HSB.out _ (Below.al_ hbw _)) (fun hH2 => ?_)
    clear hK K hH
    have hbx := hbw
    have hH := And.intro hH2 (blk_cl (w := w2.alloc (.cells #[.string ⟨#[103, 111, 101, 115]⟩, .string ⟨#[98, 97, 99, 107]⟩, .string ⟨#[101, 110, 100, 101, 100]⟩, .string ⟨#[117, 110, 100, 111, 110, 101]⟩] 9)) (b := w2.heap.size) (k := 0) (heap_new rfl) rfl).1
    refine wpAnyH_mono (S' := fun w' => ((w'.cell? ⟨w.heap.size + 1, 0, none⟩ = some (.int .i64 0) ∧ w'.cell? ⟨w.heap.size + 1, 1, none⟩ = some (.slice B m d)) ∧ Below w1.heap.size w1 w') ∧ w'.cell? ⟨w2.heap.size, 0, none⟩ = some (.string ⟨#[103, 111, 101, 115]⟩)) (fun w h => h.1) _ _ _ _ ?_
    (try simp only [Act.put, List.setIfInBounds_toArray, List.set_cons_zero, List.set_cons_succ])
    refine wpAnyH_takeD (i := 3) (d := some 12) (v := ?v9) rfl (by rfl) (by kernel_rfl) (by kernel_rfl) (by kernel_rfl) (fun _ _ _ h => h) (Or.inl ⟨by rfl, ?y9⟩) hH ?r9
    case y9 => (intro w' hS; (try dsimp only at hS); go_simp; (try with_reducible rfl))
    (try simp only [Act.put, List.setIfInBounds_toArray, List.set_cons_zero, List.set_cons_succ])
    refine wpAnyH_takeD (i := 4) (d := some 13) (v := ?v10) rfl (by rfl) (by kernel_rfl) (by kernel_rfl) (by kernel_rfl) (fun _ _ _ h => h) (Or.inl ⟨by rfl, ?y10⟩) hH ?r10
    case y10 => (intro w' hS; (try dsimp only at hS); go_simp; (try with_reducible rfl))
    (try simp only [Act.put, List.setIfInBounds_toArray, List.set_cons_zero, List.set_cons_succ])
    refine wpAnyH_takeD (i := 5) (d := some 14) (v := ?v11) rfl (by rfl) (by kernel_rfl) (by kernel_rfl) (by kernel_rfl) (fun _ _ _ h => h) (Or.inl ⟨by rfl, ?y11⟩) hH ?r11
    case y11 => (intro w' hS; (try dsimp only at hS); go_simp; (try with_reducible rfl))
    (try simp only [Act.put, List.setIfInBounds_toArray, List.set_cons_zero, List.set_cons_succ])
    generalize hz5 : (⟨#[103, 111, 101, 115]⟩ ++ ⟨#[32]⟩ : Str) = z5
    have hs5 : z5.size ≤ 7 := by rw [← hz5, bsz_app]; show 4 + 1 ≤ 7; omega
    have HZ5 := Lib.hid hz5; clear hz5
    refine wpAnyH_ready (rs := [9]) (by kernel_rfl) (by simp) ?_
    refine AllReadyH.cons rfl (fun K hK => ?_) AllReadyH.nil
    go_simp
    rw [if_neg (by omega)]
    (try simp only [Oper.upon])
    refine hK.out _ _ hH (fun _ => ?_)
    clear hK K
    (try simp only [Act.put, List.setIfInBounds_toArray, List.set_cons_zero, List.set_cons_succ])
    refine wpAnyH_takeD (i := 10) (d := some 4) (v := ?v12) rfl (by rfl) (by kernel_rfl) (by kernel_rfl) (by kernel_rfl) (fun _ _ _ h => h) (Or.inl ⟨by rfl, ?y12⟩) hH ?r12
    case y12 => (intro w' hS; (try dsimp only at hS); go_simp; (try with_reducible rfl))
    (try simp only [Act.put, List.setIfInBounds_toArray, List.set_cons_zero, List.set_cons_succ])
    refine wpAnyH_done (by kernel_rfl) ?_ _
    go_wp2_with fail
    go_ret
    exact ⟨ret_s (by rw [HE.out]; unfold rtS; rw [HND.out, HE0.out, HZ5.out]), HB1.out.trans ((by repeat (first | with_reducible exact hbw | with_reducible exact Below.refl _ _ | apply Below.drew | apply Below.al_) : Below w1.heap.size w1 _).mono HB1.out.size)⟩
  by_cases h1 : st = 1
  · subst h1
    have HE1 := Lib.hid (show stateS 1 = ⟨#[98, 97, 99, 107]⟩ from rfl)
    clear hst
    go_wp2_with fail
    refine wp_region_held_drew (S := fun w' => (w'.cell? ⟨w.heap.size + 1, 0, none⟩ = some (.int .i64 1) ∧ w'.cell? ⟨w.heap.size + 1, 1, none⟩ = some (.slice B m d)) ∧ Below w1.heap.size w1 w') (by kernel_rfl) (HSB.out _ (Below.refl _ _).drew) (fun hH => ?_)
    refine wpAnyH_takeD (i := 1) (d := some 10) (v := ?v13) rfl (by rfl) (by kernel_rfl) (by kernel_rfl) (by kernel_rfl) (fun _ _ _ h => h) (Or.inl ⟨by rfl, ?y13⟩) hH ?r13
    case y13 => (intro w' hS; (try dsimp only at hS); go_simp; (try with_reducible rfl))
    (try simp only [Act.put, List.setIfInBounds_toArray, List.set_cons_zero, List.set_cons_succ])
    refine wpAnyH_takeD (i := 2) (d := some 11) (v := ?v14) rfl (by rfl) (by kernel_rfl) (by kernel_rfl) (by kernel_rfl) (fun _ _ _ h => h) (Or.inl ⟨by rfl, ?y14⟩) hH ?r14
    case y14 => (intro w' hS; (try dsimp only at hS); go_simp; (try with_reducible rfl))
    (try simp only [Act.put, List.setIfInBounds_toArray, List.set_cons_zero, List.set_cons_succ])
    refine wpAnyH_takeD (i := 6) (d := some 15) (v := ?v15) rfl (by rfl) (by kernel_rfl) (by kernel_rfl) (by kernel_rfl) (fun _ _ _ h => h) (Or.inl ⟨by rfl, ?y15⟩) hH ?r15
    case y15 => (intro w' hS; (try dsimp only at hS); go_simp; (try with_reducible rfl))
    (try simp only [Act.put, List.setIfInBounds_toArray, List.set_cons_zero, List.set_cons_succ])
    refine wpAnyH_takeD (i := 7) (d := some 16) (v := ?v16) rfl (by rfl) (by kernel_rfl) (by kernel_rfl) (by kernel_rfl) (fun _ _ _ h => h) (Or.inl ⟨by rfl, ?y16⟩) hH ?r16
    case y16 => (intro w' hS; (try dsimp only at hS); go_simp; (try with_reducible rfl))
    (try simp only [Act.put, List.setIfInBounds_toArray, List.set_cons_zero, List.set_cons_succ])
    refine wpAnyH_ready (rs := [0, 8]) (by kernel_rfl) (by simp) ?_
    refine AllReadyH.cons rfl (fun K hK => ?_) ?_
    · go_simp
      refine hK.out _ _ (HSB.out _ (Below.al_ (Below.refl _ _).drew _)) (fun hH2 => ?_)
      clear hK K hH
      have hH := And.intro hH2 (blk_cl (w := w1.drew.alloc (.cells #[.string ⟨#[103, 111, 101, 115]⟩, .string ⟨#[98, 97, 99, 107]⟩, .string ⟨#[101, 110, 100, 101, 100]⟩, .string ⟨#[117, 110, 100, 111, 110, 101]⟩] 9)) (b := w1.heap.size) (k := 1) (heap_new rfl) rfl).1
      refine wpAnyH_mono (S' := fun w' => ((w'.cell? ⟨w.heap.size + 1, 0, none⟩ = some (.int .i64 1) ∧ w'.cell? ⟨w.heap.size + 1, 1, none⟩ = some (.slice B m d)) ∧ Below w1.heap.size w1 w') ∧ w'.cell? ⟨w1.heap.size, 1, none⟩ = some (.string ⟨#[98, 97, 99, 107]⟩)) (fun w h => h.1) _ _ _ _ ?_
      (try simp only [Act.put, List.setIfInBounds_toArray, List.set_cons_zero, List.set_cons_succ])
      refine wpAnyH_takeD (i := 3) (d := some 12) (v := ?v17) rfl (by rfl) (by kernel_rfl) (by kernel_rfl) (by kernel_rfl) (fun _ _ _ h => h) (Or.inl ⟨by rfl, ?y17⟩) hH ?r17
      case y17 => (intro w' hS; (try dsimp only at hS); go_simp; (try with_reducible rfl))
      (try simp only [Act.put, List.setIfInBounds_toArray, List.set_cons_zero, List.set_cons_succ])
      refine wpAnyH_takeD (i := 4) (d := some 13) (v := ?v18) rfl (by rfl) (by kernel_rfl) (by kernel_rfl) (by kernel_rfl) (fun _ _ _ h => h) (Or.inl ⟨by rfl, ?y18⟩) hH ?r18
      case y18 => (intro w' hS; (try dsimp only at hS); go_simp; (try with_reducible rfl))
      (try simp only [Act.put, List.setIfInBounds_toArray, List.set_cons_zero, List.set_cons_succ])
      refine wpAnyH_takeD (i := 5) (d := some 14) (v := ?v19) rfl (by rfl) (by kernel_rfl) (by kernel_rfl) (by kernel_rfl) (fun _ _ _ h => h) (Or.inl ⟨by rfl, ?y19⟩) hH ?r19
      case y19 => (intro w' hS; (try dsimp only at hS); go_simp; (try with_reducible rfl))
      (try simp only [Act.put, List.setIfInBounds_toArray, List.set_cons_zero, List.set_cons_succ])
      generalize hz5 : (⟨#[98, 97, 99, 107]⟩ ++ ⟨#[32]⟩ : Str) = z5
      have hs5 : z5.size ≤ 7 := by rw [← hz5, bsz_app]; show 4 + 1 ≤ 7; omega
      have HZ5 := Lib.hid hz5; clear hz5
      refine wpAnyH_ready (rs := [8]) (by kernel_rfl) (by simp) ?_
      refine AllReadyH.cons rfl (fun K hK => ?_) AllReadyH.nil
      go_wp2_with fail
      go_at_call 37
      refine (HNT.out _ (by repeat (first | with_reducible exact hbw | with_reducible exact Below.refl _ _ | apply Below.drew | apply Below.al_))).mono ?_
      rintro e w2 ⟨rfl, hbw, hb2⟩
      go_wp2_with fail
      refine hK.out _ _ ⟨HSB.out _ hbw, (hb2.cell (p := ⟨w1.heap.size, 1, none⟩) (by simp)).trans hH.2⟩ (fun hH3 => ?_)
      clear hK K hH
      have hH := hH3
      (try simp only [Act.put, List.setIfInBounds_toArray, List.set_cons_zero, List.set_cons_succ])
      refine wpAnyH_ready (rs := [9]) (by kernel_rfl) (by simp) ?_
      refine AllReadyH.cons rfl (fun K hK => ?_) AllReadyH.nil
      go_simp
      rw [if_neg (by omega)]
      (try simp only [Oper.upon])
      refine hK.out _ _ hH (fun _ => ?_)
      clear hK K
      (try simp only [Act.put, List.setIfInBounds_toArray, List.set_cons_zero, List.set_cons_succ])
      refine wpAnyH_takeD (i := 10) (d := some 4) (v := ?v20) rfl (by rfl) (by kernel_rfl) (by kernel_rfl) (by kernel_rfl) (fun _ _ _ h => h) (Or.inl ⟨by rfl, ?y20⟩) hH ?r20
      case y20 => (intro w' hS; (try dsimp only at hS); go_simp; (try with_reducible rfl))
      (try simp only [Act.put, List.setIfInBounds_toArray, List.set_cons_zero, List.set_cons_succ])
      refine wpAnyH_done (by kernel_rfl) ?_ _
      go_wp2_with fail
      go_ret
      exact ⟨ret_s (by rw [HE.out]; unfold rtS; rw [HND.out, HE1.out, HZ5.out]), HB1.out.trans ((by repeat (first | with_reducible exact hbw | with_reducible exact Below.refl _ _ | apply Below.drew | apply Below.al_) : Below w1.heap.size w1 _).mono HB1.out.size)⟩
    refine AllReadyH.cons rfl (fun K hK => ?_) AllReadyH.nil
    go_wp2_with fail
    go_at_call 37
    refine (HNT.out _ (by repeat (first | with_reducible exact hbw | with_reducible exact Below.refl _ _ | apply Below.drew | apply Below.al_))).mono ?_
    rintro e w2 ⟨rfl, hbw, hb2⟩
    go_wp2_with fail
    refine hK.out _ _ (HSB.out _ hbw) (fun hH2 => ?_)
    clear hK K hH
    have hH := hH2
    (try simp only [Act.put, List.setIfInBounds_toArray, List.set_cons_zero, List.set_cons_succ])
    refine wpAnyH_ready (rs := [0]) (by kernel_rfl) (by simp) ?_
    refine AllReadyH.cons rfl (fun K hK => ?_) AllReadyH.nil
    go_simp
    refine hK.out _ _ (HSB.out _ (Below.al_ hbw _)) (fun hH2 => ?_)
    clear hK K hH
    have hbx := hbw
    have hH := And.intro hH2 (blk_cl (w := w2.alloc (.cells #[.string ⟨#[103, 111, 101, 115]⟩, .string ⟨#[98, 97, 99, 107]⟩, .string ⟨#[101, 110, 100, 101, 100]⟩, .string ⟨#[117, 110, 100, 111, 110, 101]⟩] 9)) (b := w2.heap.size) (k := 1) (heap_new rfl) rfl).1
    refine wpAnyH_mono (S' := fun w' => ((w'.cell? ⟨w.heap.size + 1, 0, none⟩ = some (.int .i64 1) ∧ w'.cell? ⟨w.heap.size + 1, 1, none⟩ = some (.slice B m d)) ∧ Below w1.heap.size w1 w') ∧ w'.cell? ⟨w2.heap.size, 1, none⟩ = some (.string ⟨#[98, 97, 99, 107]⟩)) (fun w h => h.1) _ _ _ _ ?_
    (try simp only [Act.put, List.setIfInBounds_toArray, List.set_cons_zero, List.set_cons_succ])
    refine wpAnyH_takeD (i := 3) (d := some 12) (v := ?v21) rfl (by rfl) (by kernel_rfl) (by kernel_rfl) (by kernel_rfl) (fun _ _ _ h => h) (Or.inl ⟨by rfl, ?y21⟩) hH ?r21
    case y21 => (intro w' hS; (try dsimp only at hS); go_simp; (try with_reducible rfl))
    (try simp only [Act.put, List.setIfInBounds_toArray, List.set_cons_zero, List.set_cons_succ])
    refine wpAnyH_takeD (i := 4) (d := some 13) (v := ?v22) rfl (by rfl) (by kernel_rfl) (by kernel_rfl) (by kernel_rfl) (fun _ _ _ h => h) (Or.inl ⟨by rfl, ?y22⟩) hH ?r22
    case y22 => (intro w' hS; (try dsimp only at hS); go_simp; (try with_reducible rfl))
    (try simp only [Act.put, List.setIfInBounds_toArray, List.set_cons_zero, List.set_cons_succ])
    refine wpAnyH_takeD (i := 5) (d := some 14) (v := ?v23) rfl (by rfl) (by kernel_rfl) (by kernel_rfl) (by kernel_rfl) (fun _ _ _ h => h) (Or.inl ⟨by rfl, ?y23⟩) hH ?r23
    case y23 => (intro w' hS; (try dsimp only at hS); go_simp; (try with_reducible rfl))
    (try simp only [Act.put, List.setIfInBounds_toArray, List.set_cons_zero, List.set_cons_succ])
    generalize hz5 : (⟨#[98, 97, 99, 107]⟩ ++ ⟨#[32]⟩ : Str) = z5
    have hs5 : z5.size ≤ 7 := by rw [← hz5, bsz_app]; show 4 + 1 ≤ 7; omega
    have HZ5 := Lib.hid hz5; clear hz5
    refine wpAnyH_ready (rs := [9]) (by kernel_rfl) (by simp) ?_
    refine AllReadyH.cons rfl (fun K hK => ?_) AllReadyH.nil
    go_simp
    rw [if_neg (by omega)]
    (try simp only [Oper.upon])
    refine hK.out _ _ hH (fun _ => ?_)
    clear hK K
    (try simp only [Act.put, List.setIfInBounds_toArray, List.set_cons_zero, List.set_cons_succ])
    refine wpAnyH_takeD (i := 10) (d := some 4) (v := ?v24) rfl (by rfl) (by kernel_rfl) (by kernel_rfl) (by kernel_rfl) (fun _ _ _ h => h) (Or.inl ⟨by rfl, ?y24⟩) hH ?r24
    case y24 => (intro w' hS; (try dsimp only at hS); go_simp; (try with_reducible rfl))
    (try simp only [Act.put, List.setIfInBounds_toArray, List.set_cons_zero, List.set_cons_succ])
    refine wpAnyH_done (by kernel_rfl) ?_ _
    go_wp2_with fail
    go_ret
    exact ⟨ret_s (by rw [HE.out]; unfold rtS; rw [HND.out, HE1.out, HZ5.out]), HB1.out.trans ((by repeat (first | with_reducible exact hbw | with_reducible exact Below.refl _ _ | apply Below.drew | apply Below.al_) : Below w1.heap.size w1 _).mono HB1.out.size)⟩
  by_cases h2 : st = 2
  · subst h2
    have HE2 := Lib.hid (show stateS 2 = ⟨#[101, 110, 100, 101, 100]⟩ from rfl)
    clear hst
    go_wp2_with fail
    refine wp_region_held_drew (S := fun w' => (w'.cell? ⟨w.heap.size + 1, 0, none⟩ = some (.int .i64 2) ∧ w'.cell? ⟨w.heap.size + 1, 1, none⟩ = some (.slice B m d)) ∧ Below w1.heap.size w1 w') (by kernel_rfl) (HSB.out _ (Below.refl _ _).drew) (fun hH => ?_)
    refine wpAnyH_takeD (i := 1) (d := some 10) (v := ?v25) rfl (by rfl) (by kernel_rfl) (by kernel_rfl) (by kernel_rfl) (fun _ _ _ h => h) (Or.inl ⟨by rfl, ?y25⟩) hH ?r25
    case y25 => (intro w' hS; (try dsimp only at hS); go_simp; (try with_reducible rfl))
    (try simp only [Act.put, List.setIfInBounds_toArray, List.set_cons_zero, List.set_cons_succ])
    refine wpAnyH_takeD (i := 2) (d := some 11) (v := ?v26) rfl (by rfl) (by kernel_rfl) (by kernel_rfl) (by kernel_rfl) (fun _ _ _ h => h) (Or.inl ⟨by rfl, ?y26⟩) hH ?r26
    case y26 => (intro w' hS; (try dsimp only at hS); go_simp; (try with_reducible rfl))
    (try simp only [Act.put, List.setIfInBounds_toArray, List.set_cons_zero, List.set_cons_succ])
    refine wpAnyH_takeD (i := 6) (d := some 15) (v := ?v27) rfl (by rfl) (by kernel_rfl) (by kernel_rfl) (by kernel_rfl) (fun _ _ _ h => h) (Or.inl ⟨by rfl, ?y27⟩) hH ?r27
    case y27 => (intro w' hS; (try dsimp only at hS); go_simp; (try with_reducible rfl))
    (try simp only [Act.put, List.setIfInBounds_toArray, List.set_cons_zero, List.set_cons_succ])
    refine wpAnyH_takeD (i := 7) (d := some 16) (v := ?v28) rfl (by rfl) (by kernel_rfl) (by kernel_rfl) (by kernel_rfl) (fun _ _ _ h => h) (Or.inl ⟨by rfl, ?y28⟩) hH ?r28
    case y28 => (intro w' hS; (try dsimp only at hS); go_simp; (try with_reducible rfl))
    (try simp only [Act.put, List.setIfInBounds_toArray, List.set_cons_zero, List.set_cons_succ])
    refine wpAnyH_ready (rs := [0, 8]) (by kernel_rfl) (by simp) ?_
    refine AllReadyH.cons rfl (fun K hK => ?_) ?_
    · go_simp
      refine hK.out _ _ (HSB.out _ (Below.al_ (Below.refl _ _).drew _)) (fun hH2 => ?_)
      clear hK K hH
      have hH := And.intro hH2 (blk_cl (w := w1.drew.alloc (.cells #[.string ⟨#[103, 111, 101, 115]⟩, .string ⟨#[98, 97, 99, 107]⟩, .string ⟨#[101, 110, 100, 101, 100]⟩, .string ⟨#[117, 110, 100, 111, 110, 101]⟩] 9)) (b := w1.heap.size) (k := 2) (heap_new rfl) rfl).1
      refine wpAnyH_mono (S' := fun w' => ((w'.cell? ⟨w.heap.size + 1, 0, none⟩ = some (.int .i64 2) ∧ w'.cell? ⟨w.heap.size + 1, 1, none⟩ = some (.slice B m d)) ∧ Below w1.heap.size w1 w') ∧ w'.cell? ⟨w1.heap.size, 2, none⟩ = some (.string ⟨#[101, 110, 100, 101, 100]⟩)) (fun w h => h.1) _ _ _ _ ?_
      (try simp only [Act.put, List.setIfInBounds_toArray, List.set_cons_zero, List.set_cons_succ])
      refine wpAnyH_takeD (i := 3) (d := some 12) (v := ?v29) rfl (by rfl) (by kernel_rfl) (by kernel_rfl) (by kernel_rfl) (fun _ _ _ h => h) (Or.inl ⟨by rfl, ?y29⟩) hH ?r29
      case y29 => (intro w' hS; (try dsimp only at hS); go_simp; (try with_reducible rfl))
      (try simp only [Act.put, List.setIfInBounds_toArray, List.set_cons_zero, List.set_cons_succ])
      refine wpAnyH_takeD (i := 4) (d := some 13) (v := ?v30) rfl (by rfl) (by kernel_rfl) (by kernel_rfl) (by kernel_rfl) (fun _ _ _ h => h) (Or.inl ⟨by rfl, ?y30⟩) hH ?r30
      case y30 => (intro w' hS; (try dsimp only at hS); go_simp; (try with_reducible rfl))
      (try simp only [Act.put, List.setIfInBounds_toArray, List.set_cons_zero, List.set_cons_succ])
      refine wpAnyH_takeD (i := 5) (d := some 14) (v := ?v31) rfl (by rfl) (by kernel_rfl) (by kernel_rfl) (by kernel_rfl) (fun _ _ _ h => h) (Or.inl ⟨by rfl, ?y31⟩) hH ?r31
      case y31 => (intro w' hS; (try dsimp only at hS); go_simp; (try with_reducible rfl))
      (try simp only [Act.put, List.setIfInBounds_toArray, List.set_cons_zero, List.set_cons_succ])
      generalize hz5 : (⟨#[101, 110, 100, 101, 100]⟩ ++ ⟨#[32]⟩ : Str) = z5
      have hs5 : z5.size ≤ 7 := by rw [← hz5, bsz_app]; show 5 + 1 ≤ 7; omega
      have HZ5 := Lib.hid hz5; clear hz5
      refine wpAnyH_ready (rs := [8]) (by kernel_rfl) (by simp) ?_
      refine AllReadyH.cons rfl (fun K hK => ?_) AllReadyH.nil
      go_wp2_with fail
      go_at_call 37
      refine (HNT.out _ (by repeat (first | with_reducible exact hbw | with_reducible exact Below.refl _ _ | apply Below.drew | apply Below.al_))).mono ?_
      rintro e w2 ⟨rfl, hbw, hb2⟩
      go_wp2_with fail
      refine hK.out _ _ ⟨HSB.out _ hbw, (hb2.cell (p := ⟨w1.heap.size, 2, none⟩) (by simp)).trans hH.2⟩ (fun hH3 => ?_)
      clear hK K hH
      have hH := hH3
      (try simp only [Act.put, List.setIfInBounds_toArray, List.set_cons_zero, List.set_cons_succ])
      refine wpAnyH_ready (rs := [9]) (by kernel_rfl) (by simp) ?_
      refine AllReadyH.cons rfl (fun K hK => ?_) AllReadyH.nil
      go_simp
      rw [if_neg (by omega)]
      (try simp only [Oper.upon])
      refine hK.out _ _ hH (fun _ => ?_)
      clear hK K
      (try simp only [Act.put, List.setIfInBounds_toArray, List.set_cons_zero, List.set_cons_succ])
      refine wpAnyH_takeD (i := 10) (d := some 4) (v := ?v32) rfl (by rfl) (by kernel_rfl) (by kernel_rfl) (by kernel_rfl) (fun _ _ _ h => h) (Or.inl ⟨by rfl, ?y32⟩) hH ?r32
      case y32 => (intro w' hS; (try dsimp only at hS); go_simp; (try with_reducible rfl))
      (try simp only [Act.put, List.setIfInBounds_toArray, List.set_cons_zero, List.set_cons_succ])
      refine wpAnyH_done (by kernel_rfl) ?_ _
      go_wp2_with fail
      go_ret
      exact ⟨ret_s (by rw [HE.out]; unfold rtS; rw [HND.out, HE2.out, HZ5.out]), HB1.out.trans ((by repeat (first | with_reducible exact hbw | with_reducible exact Below.refl _ _ | apply Below.drew | apply Below.al_) : Below w1.heap.size w1 _).mono HB1.out.size)⟩
    refine AllReadyH.cons rfl (fun K hK => ?_) AllReadyH.nil
    go_wp2_with fail
    go_at_call 37
    refine (HNT.out _ (by repeat (first | with_reducible exact hbw | with_reducible exact Below.refl _ _ | apply Below.drew | apply Below.al_))).mono ?_
    rintro e w2 ⟨rfl, hbw, hb2⟩
    go_wp2_with fail
    refine hK.out _ _ (HSB.out _ hbw) (fun hH2 => ?_)
    clear hK K hH
    have hH := hH2
    (try simp only [Act.put, List.setIfInBounds_toArray, List.set_cons_zero, List.set_cons_succ])
    refine wpAnyH_ready (rs := [0]) (by kernel_rfl) (by simp) ?_
    refine AllReadyH.cons rfl (fun K hK => ?_) AllReadyH.nil
    go_simp
    refine hK.out _ _ (HSB.out _ (Below.al_ hbw _)) (fun hH2 => ?_)
    clear hK K hH
    have hbx := hbw
    have hH := And.intro hH2 (blk_cl (w := w2.alloc (.cells #[.string ⟨#[103, 111, 101, 115]⟩, .string ⟨#[98, 97, 99, 107]⟩, .string ⟨#[101, 110, 100, 101, 100]⟩, .string ⟨#[117, 110, 100, 111, 110, 101]⟩] 9)) (b := w2.heap.size) (k := 2) (heap_new rfl) rfl).1
    refine wpAnyH_mono (S' := fun w' => ((w'.cell? ⟨w.heap.size + 1, 0, none⟩ = some (.int .i64 2) ∧ w'.cell? ⟨w.heap.size + 1, 1, none⟩ = some (.slice B m d)) ∧ Below w1.heap.size w1 w') ∧ w'.cell? ⟨w2.heap.size, 2, none⟩ = some (.string ⟨#[101, 110, 100, 101, 100]⟩)) (fun w h => h.1) _ _ _ _ ?_
    (try simp only [Act.put, List.setIfInBounds_toArray, List.set_cons_zero, List.set_cons_succ])
    refine wpAnyH_takeD (i := 3) (d := some 12) (v := ?v33) rfl (by rfl) (by kernel_rfl) (by kernel_rfl) (by kernel_rfl) (fun _ _ _ h => h) (Or.inl ⟨by rfl, ?y33⟩) hH ?r33
    case y33 => (intro w' hS; (try dsimp only at hS); go_simp; (try with_reducible rfl))
    (try simp only [Act.put, List.setIfInBounds_toArray, List.set_cons_zero, List.set_cons_succ])
    refine wpAnyH_takeD (i := 4) (d := some 13) (v := ?v34) rfl (by rfl) (by kernel_rfl) (by kernel_rfl) (by kernel_rfl) (fun _ _ _ h => h) (Or.inl ⟨by rfl, ?y34⟩) hH ?r34
    case y34 => (intro w' hS; (try dsimp only at hS); go_simp; (try with_reducible rfl))
    (try simp only [Act.put, List.setIfInBounds_toArray, List.set_cons_zero, List.set_cons_succ])
    refine wpAnyH_takeD (i := 5) (d := some 14) (v := ?v35) rfl (by rfl) (by kernel_rfl) (by kernel_rfl) (by kernel_rfl) (fun _ _ _ h => h) (Or.inl ⟨by rfl, ?y35⟩) hH ?r35
    case y35 => (intro w' hS; (try dsimp only at hS); go_simp; (try with_reducible rfl))
    (try simp only [Act.put, List.setIfInBounds_toArray, List.set_cons_zero, List.set_cons_succ])
    generalize hz5 : (⟨#[101, 110, 100, 101, 100]⟩ ++ ⟨#[32]⟩ : Str) = z5
    have hs5 : z5.size ≤ 7 := by rw [← hz5, bsz_app]; show 5 + 1 ≤ 7; omega
    have HZ5 := Lib.hid hz5; clear hz5
    refine wpAnyH_ready (rs := [9]) (by kernel_rfl) (by simp) ?_
    refine AllReadyH.cons rfl (fun K hK => ?_) AllReadyH.nil
    go_simp
    rw [if_neg (by omega)]
    (try simp only [Oper.upon])
    refine hK.out _ _ hH (fun _ => ?_)
    clear hK K
    (try simp only [Act.put, List.setIfInBounds_toArray, List.set_cons_zero, List.set_cons_succ])
    refine wpAnyH_takeD (i := 10) (d := some 4) (v := ?v36) rfl (by rfl) (by kernel_rfl) (by kernel_rfl) (by kernel_rfl) (fun _ _ _ h => h) (Or.inl ⟨by rfl, ?y36⟩) hH ?r36
    case y36 => (intro w' hS; (try dsimp only at hS); go_simp; (try with_reducible rfl))
    (try simp only [Act.put, List.setIfInBounds_toArray, List.set_cons_zero, List.set_cons_succ])
    refine wpAnyH_done (by kernel_rfl) ?_ _
    go_wp2_with fail
    go_ret
    exact ⟨ret_s (by rw [HE.out]; unfold rtS; rw [HND.out, HE2.out, HZ5.out]), HB1.out.trans ((by repeat (first | with_reducible exact hbw | with_reducible exact Below.refl _ _ | apply Below.drew | apply Below.al_) : Below w1.heap.size w1 _).mono HB1.out.size)⟩
  by_cases h3 : st = 3
  · subst h3
    have HE3 := Lib.hid (show stateS 3 = ⟨#[117, 110, 100, 111, 110, 101]⟩ from rfl)
    clear hst
    go_wp2_with fail
    refine wp_region_held_drew (S := fun w' => (w'.cell? ⟨w.heap.size + 1, 0, none⟩ = some (.int .i64 3) ∧ w'.cell? ⟨w.heap.size + 1, 1, none⟩ = some (.slice B m d)) ∧ Below w1.heap.size w1 w') (by kernel_rfl) (HSB.out _ (Below.refl _ _).drew) (fun hH => ?_)
    refine wpAnyH_takeD (i := 1) (d := some 10) (v := ?v37) rfl (by rfl) (by kernel_rfl) (by kernel_rfl) (by kernel_rfl) (fun _ _ _ h => h) (Or.inl ⟨by rfl, ?y37⟩) hH ?r37
    case y37 => (intro w' hS; (try dsimp only at hS); go_simp; (try with_reducible rfl))
    (try simp only [Act.put, List.setIfInBounds_toArray, List.set_cons_zero, List.set_cons_succ])
    refine wpAnyH_takeD (i := 2) (d := some 11) (v := ?v38) rfl (by rfl) (by kernel_rfl) (by kernel_rfl) (by kernel_rfl) (fun _ _ _ h => h) (Or.inl ⟨by rfl, ?y38⟩) hH ?r38
    case y38 => (intro w' hS; (try dsimp only at hS); go_simp; (try with_reducible rfl))
    (try simp only [Act.put, List.setIfInBounds_toArray, List.set_cons_zero, List.set_cons_succ])
    refine wpAnyH_takeD (i := 6) (d := some 15) (v := ?v39) rfl (by rfl) (by kernel_rfl) (by kernel_rfl) (by kernel_rfl) (fun _ _ _ h => h) (Or.inl ⟨by rfl, ?y39⟩) hH ?r39
    case y39 => (intro w' hS; (try dsimp only at hS); go_simp; (try with_reducible rfl))
    (try simp only [Act.put, List.setIfInBounds_toArray, List.set_cons_zero, List.set_cons_succ])
    refine wpAnyH_takeD (i := 7) (d := some 16) (v := ?v40) rfl (by rfl) (by kernel_rfl) (by kernel_rfl) (by kernel_rfl) (fun _ _ _ h => h) (Or.inl ⟨by rfl, ?y40⟩) hH ?r40
    case y40 => (intro w' hS; (try dsimp only at hS); go_simp; (try with_reducible rfl))
    (try simp only [Act.put, List.setIfInBounds_toArray, List.set_cons_zero, List.set_cons_succ])
    refine wpAnyH_ready (rs := [0, 8]) (by kernel_rfl) (by simp) ?_
    refine AllReadyH.cons rfl (fun K hK => ?_) ?_
    · go_simp
      refine hK.out _ _ (HSB.out _ (Below.al_ (Below.refl _ _).drew _)) (fun hH2 => ?_)
      clear hK K hH
      have hH := And.intro hH2 (blk_cl (w := w1.drew.alloc (.cells #[.string ⟨#[103, 111, 101, 115]⟩, .string ⟨#[98, 97, 99, 107]⟩, .string ⟨#[101, 110, 100, 101, 100]⟩, .string ⟨#[117, 110, 100, 111, 110, 101]⟩] 9)) (b := w1.heap.size) (k := 3) (heap_new rfl) rfl).1
      refine wpAnyH_mono (S' := fun w' => ((w'.cell? ⟨w.heap.size + 1, 0, none⟩ = some (.int .i64 3) ∧ w'.cell? ⟨w.heap.size + 1, 1, none⟩ = some (.slice B m d)) ∧ Below w1.heap.size w1 w') ∧ w'.cell? ⟨w1.heap.size, 3, none⟩ = some (.string ⟨#[117, 110, 100, 111, 110, 101]⟩)) (fun w h => h.1) _ _ _ _ ?_
      (try simp only [Act.put, List.setIfInBounds_toArray, List.set_cons_zero, List.set_cons_succ])
      refine wpAnyH_takeD (i := 3) (d := some 12) (v := ?v41) rfl (by rfl) (by kernel_rfl) (by kernel_rfl) (by kernel_rfl) (fun _ _ _ h => h) (Or.inl ⟨by rfl, ?y41⟩) hH ?r41
      case y41 => (intro w' hS; (try dsimp only at hS); go_simp; (try with_reducible rfl))
      (try simp only [Act.put, List.setIfInBounds_toArray, List.set_cons_zero, List.set_cons_succ])
      refine wpAnyH_takeD (i := 4) (d := some 13) (v := ?v42) rfl (by rfl) (by kernel_rfl) (by kernel_rfl) (by kernel_rfl) (fun _ _ _ h => h) (Or.inl ⟨by rfl, ?y42⟩) hH ?r42
      case y42 => (intro w' hS; (try dsimp only at hS); go_simp; (try with_reducible rfl))
      (try simp only [Act.put, List.setIfInBounds_toArray, List.set_cons_zero, List.set_cons_succ])
      refine wpAnyH_takeD (i := 5) (d := some 14) (v := ?v43) rfl (by rfl) (by kernel_rfl) (by kernel_rfl) (by kernel_rfl) (fun _ _ _ h => h) (Or.inl ⟨by rfl, ?y43⟩) hH ?r43
      case y43 => (intro w' hS; (try dsimp only at hS); go_simp; (try with_reducible rfl))
      (try simp only [Act.put, List.setIfInBounds_toArray, List.set_cons_zero, List.set_cons_succ])
      generalize hz5 : (⟨#[117, 110, 100, 111, 110, 101]⟩ ++ ⟨#[32]⟩ : Str) = z5
      have hs5 : z5.size ≤ 7 := by rw [← hz5, bsz_app]; show 6 + 1 ≤ 7; omega
      have HZ5 := Lib.hid hz5; clear hz5
      refine wpAnyH_ready (rs := [8]) (by kernel_rfl) (by simp) ?_
      refine AllReadyH.cons rfl (fun K hK => ?_) AllReadyH.nil
      go_wp2_with fail
      go_at_call 37
      refine (HNT.out _ (by repeat (first | with_reducible exact hbw | with_reducible exact Below.refl _ _ | apply Below.drew | apply Below.al_))).mono ?_
      rintro e w2 ⟨rfl, hbw, hb2⟩
      go_wp2_with fail
      refine hK.out _ _ ⟨HSB.out _ hbw, (hb2.cell (p := ⟨w1.heap.size, 3, none⟩) (by simp)).trans hH.2⟩ (fun hH3 => ?_)
      clear hK K hH
      have hH := hH3
      (try simp only [Act.put, List.setIfInBounds_toArray, List.set_cons_zero, List.set_cons_succ])
      refine wpAnyH_ready (rs := [9]) (by kernel_rfl) (by simp) ?_
      refine AllReadyH.cons rfl (fun K hK => ?_) AllReadyH.nil
      go_simp
      rw [if_neg (by omega)]
      (try simp only [Oper.upon])
      refine hK.out _ _ hH (fun _ => ?_)
      clear hK K
      (try simp only [Act.put, List.setIfInBounds_toArray, List.set_cons_zero, List.set_cons_succ])
      refine wpAnyH_takeD (i := 10) (d := some 4) (v := ?v44) rfl (by rfl) (by kernel_rfl) (by kernel_rfl) (by kernel_rfl) (fun _ _ _ h => h) (Or.inl ⟨by rfl, ?y44⟩) hH ?r44
      case y44 => (intro w' hS; (try dsimp only at hS); go_simp; (try with_reducible rfl))
      (try simp only [Act.put, List.setIfInBounds_toArray, List.set_cons_zero, List.set_cons_succ])
      refine wpAnyH_done (by kernel_rfl) ?_ _
      go_wp2_with fail
      go_ret
      exact ⟨ret_s (by rw [HE.out]; unfold rtS; rw [HND.out, HE3.out, HZ5.out]), HB1.out.trans ((by repeat (first | with_reducible exact hbw | with_reducible exact Below.refl _ _ | apply Below.drew | apply Below.al_) : Below w1.heap.size w1 _).mono HB1.out.size)⟩
    refine AllReadyH.cons rfl (fun K hK => ?_) AllReadyH.nil
    go_wp2_with fail
    go_at_call 37
    refine (HNT.out _ (by repeat (first | with_reducible exact hbw | with_reducible exact Below.refl _ _ | apply Below.drew | apply Below.al_))).mono ?_
    rintro e w2 ⟨rfl, hbw, hb2⟩
    go_wp2_with fail
    refine hK.out _ _ (HSB.out _ hbw) (fun hH2 => ?_)
    clear hK K hH
    have hH := hH2
    (try simp only [Act.put, List.setIfInBounds_toArray, List.set_cons_zero, List.set_cons_succ])
    refine wpAnyH_ready (rs := [0]) (by kernel_rfl) (by simp) ?_
    refine AllReadyH.cons rfl (fun K hK => ?_) AllReadyH.nil
    go_simp
    refine hK.out _ _ (HSB.out _ (Below.al_ hbw _)) (fun hH2 => ?_)
    clear hK K hH
    have hbx := hbw
    have hH := And.intro hH2 (blk_cl (w := w2.alloc (.cells #[.string ⟨#[103, 111, 101, 115]⟩, .string ⟨#[98, 97, 99, 107]⟩, .string ⟨#[101, 110, 100, 101, 100]⟩, .string ⟨#[117, 110, 100, 111, 110, 101]⟩] 9)) (b := w2.heap.size) (k := 3) (heap_new rfl) rfl).1
    refine wpAnyH_mono (S' := fun w' => ((w'.cell? ⟨w.heap.size + 1, 0, none⟩ = some (.int .i64 3) ∧ w'.cell? ⟨w.heap.size + 1, 1, none⟩ = some (.slice B m d)) ∧ Below w1.heap.size w1 w') ∧ w'.cell? ⟨w2.heap.size, 3, none⟩ = some (.string ⟨#[117, 110, 100, 111, 110, 101]⟩)) (fun w h => h.1) _ _ _ _ ?_
    (try simp only [Act.put, List.setIfInBounds_toArray, List.set_cons_zero, List.set_cons_succ])
    refine wpAnyH_takeD (i := 3) (d := some 12) (v := ?v45) rfl (by rfl) (by kernel_rfl) (by kernel_rfl) (by kernel_rfl) (fun _ _ _ h => h) (Or.inl ⟨by rfl, ?y45⟩) hH ?r45
    case y45 => (intro w' hS; (try dsimp only at hS); go_simp; (try with_reducible rfl))
    (try simp only [Act.put, List.setIfInBounds_toArray, List.set_cons_zero, List.set_cons_succ])
    refine wpAnyH_takeD (i := 4) (d := some 13) (v := ?v46) rfl (by rfl) (by kernel_rfl) (by kernel_rfl) (by kernel_rfl) (fun _ _ _ h => h) (Or.inl ⟨by rfl, ?y46⟩) hH ?r46
    case y46 => (intro w' hS; (try dsimp only at hS); go_simp; (try with_reducible rfl))
    (try simp only [Act.put, List.setIfInBounds_toArray, List.set_cons_zero, List.set_cons_succ])
    refine wpAnyH_takeD (i := 5) (d := some 14) (v := ?v47) rfl (by rfl) (by kernel_rfl) (by kernel_rfl) (by kernel_rfl) (fun _ _ _ h => h) (Or.inl ⟨by rfl, ?y47⟩) hH ?r47
    case y47 => (intro w' hS; (try dsimp only at hS); go_simp; (try with_reducible rfl))
    (try simp only [Act.put, List.setIfInBounds_toArray, List.set_cons_zero, List.set_cons_succ])
    generalize hz5 : (⟨#[117, 110, 100, 111, 110, 101]⟩ ++ ⟨#[32]⟩ : Str) = z5
    have hs5 : z5.size ≤ 7 := by rw [← hz5, bsz_app]; show 6 + 1 ≤ 7; omega
    have HZ5 := Lib.hid hz5; clear hz5
    refine wpAnyH_ready (rs := [9]) (by kernel_rfl) (by simp) ?_
    refine AllReadyH.cons rfl (fun K hK => ?_) AllReadyH.nil
    go_simp
    rw [if_neg (by omega)]
    (try simp only [Oper.upon])
    refine hK.out _ _ hH (fun _ => ?_)
    clear hK K
    (try simp only [Act.put, List.setIfInBounds_toArray, List.set_cons_zero, List.set_cons_succ])
    refine wpAnyH_takeD (i := 10) (d := some 4) (v := ?v48) rfl (by rfl) (by kernel_rfl) (by kernel_rfl) (by kernel_rfl) (fun _ _ _ h => h) (Or.inl ⟨by rfl, ?y48⟩) hH ?r48
    case y48 => (intro w' hS; (try dsimp only at hS); go_simp; (try with_reducible rfl))
    (try simp only [Act.put, List.setIfInBounds_toArray, List.set_cons_zero, List.set_cons_succ])
    refine wpAnyH_done (by kernel_rfl) ?_ _
    go_wp2_with fail
    go_ret
    exact ⟨ret_s (by rw [HE.out]; unfold rtS; rw [HND.out, HE3.out, HZ5.out]), HB1.out.trans ((by repeat (first | with_reducible exact hbw | with_reducible exact Below.refl _ _ | apply Below.drew | apply Below.al_) : Below w1.heap.size w1 _).mono HB1.out.size)⟩
  exfalso
  omega
end Go.Proofs.YthdfefgianokgaaGreatDoor

/- A new run: the program's. -/
namespace Go.Proofs.YthdfefgianokgaaGreatDoor
open Go.RowKit

set_option maxRecDepth 100000 in
theorem runNewI_any (A : Option Addr) (n c : Nat) (f : Flow) (lo : Nat) (w : World) (hr : RStep w lo A n f.steps) (hok : okSteps f.steps) :
    Calls Tryz.prog 36 #[.agg #[.int .i64 f.ver, .slice A n c]] w fun e w' => e = .returned (.tuple #[.agg #[.int .i64 0, .slice none 0 0], .bool (flowB f)]) ∧ Below w.heap.size w w' := by
  have HR := Lib.hid ((hr.alloc (.cells #[.int .i64 f.ver, .slice A n c] 38)).alloc (.cells #[.int .i64 0, .slice none 0 0] 40)); clear hr
  have HB := Lib.hid (((Below.refl w.heap.size w).alloc (Nat.le_refl _) (.cells #[.int .i64 f.ver, .slice A n c] 38)).alloc (by simp) (.cells #[.int .i64 0, .slice none 0 0] 40))
  have HX := Lib.hid (heap_new (w := w.alloc (.cells #[.int .i64 f.ver, .slice A n c] 38)) (b := w.heap.size + 1) (o := .cells #[.int .i64 0, .slice none 0 0] 40) (by simp))
  go_enter Tryz.func36, Tryz.ntmps36
  go_wp2_with fail
  refine (flowI_any _ _ _ f _ _ HR.out hok).mono ?_
  rintro e w1 ⟨rfl, hb⟩
  have HX1 := Lib.hid ((hb.block _ (heap_lt HX.out)).trans HX.out)
  have HB1 := Lib.hid (HB.out.trans (hb.mono HB.out.size))
  clear hb
  have z0 := (blk_cl (k := 0) HX1.out rfl).1
  have z0' := (blk_cl (k := 0) HX1.out rfl).2
  have z1 := (blk_cl (k := 1) HX1.out rfl).1
  have z1' := (blk_cl (k := 1) HX1.out rfl).2
  go_wp2_with fail
  have hres := set21 (u := .slice none 0 0) (set20 (u := .int .i64 0) HX1.out)
  have e0 := (blk_cl (k := 0) hres rfl).1
  have e1 := (blk_cl (k := 1) hres rfl).1
  exact bodyPost_ret (v := .tuple #[.agg #[.int .i64 0, .slice none 0 0], .bool (flowB f)]) (by simp [results, Tryz.results36, go_sem, e0, e1]) rfl ⟨rfl, (HB1.out.setCell (p := ⟨w.heap.size + 1, 0, none⟩) (by show w.heap.size ≤ w.heap.size + 1; omega) _).setCell (p := ⟨w.heap.size + 1, 1, none⟩) (by show w.heap.size ≤ w.heap.size + 1; omega) _⟩
end Go.Proofs.YthdfefgianokgaaGreatDoor

/- Runs: a step is done, the program's side. -/
namespace Go.Proofs.YthdfefgianokgaaGreatDoor
open Go.RowKit

set_option maxRecDepth 100000 in
set_option maxHeartbeats 1000000 in
theorem canI_any (A B : Option Addr) (n c m d : Nat) (f : Flow) (st : Int) (done : List Str) (x : Str) (lo lo' : Nat) (w : World) (hr : RStep w lo A n f.steps) (hok : okSteps f.steps) (hd : RStr w lo' B m done) (hm : m ≤ 1048576) (hmd : m ≤ d) :
    Calls Tryz.prog 89 #[.agg #[.int .i64 f.ver, .slice A n c], .agg #[.int .i64 st, .slice B m d], .string x] w fun e w' => e = .returned (.bool (canB f st done x)) ∧ Below w.heap.size w w' := by
  have HO := Lib.hid hok; clear hok
  have HX0 := Lib.hid (heap_old (o := .cells #[.int .i64 st, .slice B m d] 40) (heap_new (w := w) (o := .cells #[.int .i64 f.ver, .slice A n c] 38) rfl))
  have HY0 := Lib.hid (heap_new (w := w.alloc (.cells #[.int .i64 f.ver, .slice A n c] 38)) (b := w.heap.size + 1) (o := .cells #[.int .i64 st, .slice B m d] 40) (by simp))
  have HB0 := Lib.hid (((Below.refl w.heap.size w).alloc (Nat.le_refl _) (.cells #[.int .i64 f.ver, .slice A n c] 38)).alloc (by simp) (.cells #[.int .i64 st, .slice B m d] 40))
  have HR := Lib.hid ((hr.alloc (.cells #[.int .i64 f.ver, .slice A n c] 38)).alloc (.cells #[.int .i64 st, .slice B m d] 40)); clear hr
  have HD := Lib.hid ((hd.alloc (.cells #[.int .i64 f.ver, .slice A n c] 38)).alloc (.cells #[.int .i64 st, .slice B m d] 40)); clear hd
  go_enter Tryz.func89, Tryz.ntmps89
  go_wp2_with fail
  refine (runI_any _ _ _ _ _ _ f st done _ _ _ HR.out HO.out HD.out hm hmd).mono ?_
  rintro e w1 ⟨rfl, hb⟩
  have HX1 := Lib.hid ((hb.block _ (heap_lt HX0.out)).trans HX0.out)
  have HY1 := Lib.hid ((hb.block _ (heap_lt HY0.out)).trans HY0.out)
  have HB1 := Lib.hid (HB0.out.trans (hb.mono HB0.out.size))
  have HR1 := Lib.hid (HR.out.below hb)
  have HD1 := Lib.hid (HD.out.below hb)
  clear hb
  have x0 := (blk_cl (k := 0) HX1.out rfl).1
  have x1 := (blk_cl (k := 1) HX1.out rfl).1
  have y0 := (blk_cl (k := 0) HY1.out rfl).1
  have y1 := (blk_cl (k := 1) HY1.out rfl).1
  cases hrun : runB f st done
  · have HE := Lib.hid (show canB f st done x = false by unfold canB; rw [hrun]; rfl)
    go_wp2_with fail
    go_ret
    exact ⟨ret_b HE.out.symm, HB1.out⟩
  by_cases h0 : st = 0
  · subst h0
    have HE := Lib.hid (show canB f 0 done x = hasB (rdyL f.steps done) x by unfold canB; rw [hrun]; simp)
    clear hrun
    go_wp2_with fail
    refine (ready_any _ _ _ _ _ _ f.ver f.steps done _ _ _ HR1.out HO.out HD1.out hm).mono ?_
    rintro e w2 ⟨A2, n2, c2, rfl, h2, hb2⟩
    have hl : n2 ≤ 1048576 := by rw [← h2.1]; exact Nat.le_trans (rdyL_len _ _) HO.out.1
    have HB2 := Lib.hid (HB1.out.trans (hb2.mono HB1.out.size))
    have H2 := Lib.hid h2; clear h2 hb2 x0 x1 y0 y1
    go_wp2_with fail
    refine (contains_any _ _ _ _ x _ _ H2.out hl).mono ?_
    rintro e w3 ⟨rfl, rfl⟩
    go_wp2_with fail
    go_ret
    exact ⟨ret_b HE.out.symm, HB2.out⟩
  · have hq : (st == 0) = false := by rw [beq_eq_false_iff_ne]; exact h0
    have HE := Lib.hid (show canB f st done x = false by unfold canB; rw [hrun]; simp [h0])
    clear hrun
    go_wp2_with fail
    go_ret
    exact ⟨ret_b HE.out.symm, HB1.out⟩

set_option maxRecDepth 100000 in
set_option maxHeartbeats 1000000 in
theorem doI_any (A B : Option Addr) (n c m d : Nat) (f : Flow) (st : Int) (done : List Str) (x : Str) (lo lo' : Nat) (w : World) (hr : RStep w lo A n f.steps) (hok : okSteps f.steps) (hd : RStr w lo' B m done) (hm : m ≤ 1048576) (hmd : m ≤ d) :
    Calls Tryz.prog 56 #[.agg #[.int .i64 f.ver, .slice A n c], .agg #[.int .i64 st, .slice B m d], .string x] w fun e w' => ∃ B' n' d', e = .returned (.tuple #[.agg #[.int .i64 (doR f st done x).1, .slice B' n' d'], .bool (canB f st done x)]) ∧
      w'.ownsRow w.heap.size 9 1 (.slice B' n' d') n' ((doR f st done x).2.map Value.string) ∧ Below w.heap.size w w' := by
  have hn : n ≤ 1048576 := by have := hok.1; rw [hr.1] at this; exact this
  have HX := Lib.hid (heap_old (o := .cells #[.int .i64 0, .slice none 0 0] 40) (heap_old (o := .cells #[.int .i64 st, .slice B m d] 40) (heap_new (w := w) (o := .cells #[.int .i64 f.ver, .slice A n c] 38) rfl)))
  have HY := Lib.hid (heap_old (o := .cells #[.int .i64 0, .slice none 0 0] 40) (heap_new (w := w.alloc (.cells #[.int .i64 f.ver, .slice A n c] 38)) (b := w.heap.size + 1) (o := .cells #[.int .i64 st, .slice B m d] 40) (by simp)))
  have HZ := Lib.hid (heap_new (w := (w.alloc (.cells #[.int .i64 f.ver, .slice A n c] 38)).alloc (.cells #[.int .i64 st, .slice B m d] 40)) (b := w.heap.size + 1 + 1) (o := .cells #[.int .i64 0, .slice none 0 0] 40) (by simp))
  have HB := Lib.hid ((((Below.refl w.heap.size w).alloc (Nat.le_refl _) (.cells #[.int .i64 f.ver, .slice A n c] 38)).alloc (by simp) (.cells #[.int .i64 st, .slice B m d] 40)).alloc (by simp; omega) (.cells #[.int .i64 0, .slice none 0 0] 40))
  have HR := Lib.hid (((hr.alloc (.cells #[.int .i64 f.ver, .slice A n c] 38)).alloc (.cells #[.int .i64 st, .slice B m d] 40)).alloc (.cells #[.int .i64 0, .slice none 0 0] 40)); clear hr
  have HD := Lib.hid (((hd.alloc (.cells #[.int .i64 f.ver, .slice A n c] 38)).alloc (.cells #[.int .i64 st, .slice B m d] 40)).alloc (.cells #[.int .i64 0, .slice none 0 0] 40)); clear hd
  have HLm := Lib.hid HD.out.1
  have HLn := Lib.hid HR.out.1
  go_enter Tryz.func56, Tryz.ntmps56
  go_wp2_with fail
  refine (canI_any _ _ _ _ _ _ f st done x _ _ _ HR.out hok HD.out hm hmd).mono ?_
  rintro e w1 ⟨rfl, hb⟩
  have HX1 := Lib.hid ((hb.block _ (heap_lt HX.out)).trans HX.out)
  have HY1 := Lib.hid ((hb.block _ (heap_lt HY.out)).trans HY.out)
  have HZ1 := Lib.hid ((hb.block _ (heap_lt HZ.out)).trans HZ.out)
  have HB1 := Lib.hid (HB.out.trans (hb.mono HB.out.size))
  have HD1 := Lib.hid (HD.out.below hb)
  clear hb HX HY HZ HB HD
  have hs1 := heap_lt HZ1.out
  have z0 := (blk_cl (k := 0) HZ1.out rfl).1
  have z0' := (blk_cl (k := 0) HZ1.out rfl).2
  have z1 := (blk_cl (k := 1) HZ1.out rfl).1
  have z1' := (blk_cl (k := 1) HZ1.out rfl).2
  cases hcan : canB f st done x
  · have HE := Lib.hid (doR_no hcan)
    go_wp2_with fail
    have hres := set21 (u := .slice none 0 0) (set20 (u := .int .i64 0) HZ1.out)
    have e0 := (blk_cl (k := 0) hres rfl).1
    have e1 := (blk_cl (k := 1) hres rfl).1
    exact bodyPost_ret (v := .tuple #[.agg #[.int .i64 0, .slice none 0 0], .bool false]) (by simp [results, Tryz.results56, go_sem, e0, e1]) rfl ⟨none, 0, 0, by rw [HE.out, hcan], by rw [HE.out]; exact own_nil, (HB1.out.setCell (p := ⟨w.heap.size + 1 + 1, 0, none⟩) (by show w.heap.size ≤ w.heap.size + 1 + 1; omega) _).setCell (p := ⟨w.heap.size + 1 + 1, 1, none⟩) (by show w.heap.size ≤ w.heap.size + 1 + 1; omega) _⟩
  · have HE := Lib.hid (doR_yes hcan)
    have hle : m + 1 ≤ 1048576 := by
      have h1 := ord_len (can_ord hcan)
      rw [List.length_append, HLm.out, HLn.out] at h1
      have h2 := List.length_singleton (a := x)
      omega
    have HCAN := Lib.hid hcan; clear hcan
    have y0 := (blk_cl (k := 0) HY1.out rfl).1
    have y1 := (blk_cl (k := 1) HY1.out rfl).1
    go_wp2_with fail
    refine (cloneNames_any _ _ _ done _ _ HD1.out hm).mono ?_
    rintro e w3 ⟨v3, rfl, how3⟩
    have hb3 := how3.below
    have HX3 := Lib.hid ((hb3.block _ (heap_lt HX1.out)).trans HX1.out)
    have HZ3 := Lib.hid ((hb3.block _ (heap_lt HZ1.out)).trans HZ1.out)
    have HB3 := Lib.hid (HB1.out.trans (hb3.mono HB1.out.size))
    have HO3 := Lib.hid how3; clear how3 hb3
    have HN3x := Lib.hid (row_ne HO3.out.row HX3.out (by decide))
    have HN3z := Lib.hid (row_ne HO3.out.row HZ3.out (by decide))
    clear y0 y1 z0 z0' z1 z1'
    go_wp2_with (at_builtin; refine app_str w1 _ m done _ x ?c0 rfl (.tmp 17) (.tmp 19) rfl rfl rfl ?c1 (by omega) ?_)
    case c0 => exact HO3.out.alloc _
    case c1 => exact heap_new rfl
    intro v5 w5 how5 hg5
    replace how5 : Own 9 1 w1 w5 v5 (m + 1) ((done ++ [x]).map Value.string) := by rw [List.map_append]; exact how5
    have HX5 := Lib.hid (grown_blk hg5 (heap_old HX3.out) HN3x.out)
    have HZ5 := Lib.hid (grown_blk hg5 (heap_old HZ3.out) HN3z.out)
    obtain ⟨A5, c5, rfl, hrow5⟩ := own_str how5.row
    have HROW := Lib.hid hrow5; clear hrow5
    have HO5 := Lib.hid how5.row
    have HB5 := Lib.hid (HB1.out.trans (how5.below.mono HB1.out.size)); clear how5 hg5
    have x0 := (blk_cl (k := 0) HX5.out rfl).1
    have x1 := (blk_cl (k := 1) HX5.out rfl).1
    go_wp2_with fail
    refine (forth_any _ _ _ _ _ _ f.ver _).mono ?_
    rintro e w6 ⟨rfl, hb6⟩
    have HZ6 := Lib.hid ((hb6.block _ (heap_lt HZ5.out)).trans HZ5.out)
    have HB6 := Lib.hid (HB5.out.trans (hb6.mono HB5.out.size))
    have HO6 := Lib.hid (row_below HO5.out hb6)
    clear hb6 x0 x1
    have HE2 := Lib.hid (show doR f st done x = (forthI (m + 1) n, done ++ [x]) by rw [HE.out, HLm.out, HLn.out])
    generalize forthI (m + 1) n = z at *
    have z0 := (blk_cl (k := 0) HZ6.out rfl).1
    have z0' := (blk_cl (k := 0) HZ6.out rfl).2
    have z1 := (blk_cl (k := 1) HZ6.out rfl).1
    have z1' := (blk_cl (k := 1) HZ6.out rfl).2
    go_wp2_with fail
    have hres := set21 (u := .slice A5 (m + 1) c5) (set20 (u := .int .i64 z) HZ6.out)
    have e0 := (blk_cl (k := 0) hres rfl).1
    have e1 := (blk_cl (k := 1) hres rfl).1
    have hbl := (HB6.out.setCell (p := ⟨w.heap.size + 1 + 1, 0, none⟩) (by show w.heap.size ≤ w.heap.size + 1 + 1; omega) (.int .i64 z)).setCell (p := ⟨w.heap.size + 1 + 1, 1, none⟩) (by show w.heap.size ≤ w.heap.size + 1 + 1; omega) (.slice A5 (m + 1) c5)
    exact bodyPost_ret (v := .tuple #[.agg #[.int .i64 z, .slice A5 (m + 1) c5], .bool true]) (by simp [results, Tryz.results56, go_sem, e0, e1]) rfl ⟨_, _, _, by rw [HE2.out, HCAN.out], by rw [HE2.out]; exact row_mono (row_set (row_set HO6.out HZ6.out (by decide)) (set20 HZ6.out) (by decide)) HB1.out.size, hbl⟩
end Go.Proofs.YthdfefgianokgaaGreatDoor

/- Runs: a step fails, both sides. -/
namespace Go.Proofs.YthdfefgianokgaaGreatDoor
open Go.RowKit

/-- A step fails. -/
def failR (f : Flow) (st : Int) (done : List Str) (x : Str) : Int × List Str := if canB f st done x = true then (backI f.steps done done.length, done) else (0, [])
theorem failR_no {f : Flow} {st : Int} {done : List Str} {x : Str} (h : canB f st done x = false) : failR f st done x = (0, []) := by unfold failR; rw [if_neg (by rw [h]; simp)]
theorem failR_yes {f : Flow} {st : Int} {done : List Str} {x : Str} (h : canB f st done x = true) : failR f st done x = (backI f.steps done done.length, done) := by unfold failR; rw [if_pos h]
theorem can_run {f : Flow} {st : Int} {done : List Str} {x : Str} (h : canB f st done x = true) : runB f st done = true := by
  unfold canB at h
  rw [Bool.and_eq_true] at h
  exact h.1

set_option maxRecDepth 100000 in
set_option maxHeartbeats 1000000 in
theorem failS_any (A B : Option Addr) (n c m d : Nat) (f : Flow) (st : Int) (done : List Str) (x : Str) (lo lo' : Nat) (w : World) (hr : RStep w lo A n f.steps) (hok : okSteps f.steps) (hd : RStr w lo' B m done) (hm : m ≤ 1048576) (hmd : m ≤ d) :
    Calls Tryz.prog 78 #[.agg #[.int .i64 f.ver, .slice A n c], .agg #[.int .i64 st, .slice B m d], .string x] w fun e w' => ∃ B' n' d', e = .returned (.tuple #[.agg #[.int .i64 (failR f st done x).1, .slice B' n' d'], .bool (canB f st done x)]) ∧
      w'.ownsRow w.heap.size 9 1 (.slice B' n' d') n' ((failR f st done x).2.map Value.string) ∧ Below w.heap.size w w' := by
  have hn : n ≤ 1048576 := by have := hok.1; rw [hr.1] at this; exact this
  have HX := Lib.hid (heap_old (o := .cells #[.int .i64 0, .slice none 0 0] 40) (heap_old (o := .cells #[.int .i64 st, .slice B m d] 40) (heap_new (w := w) (o := .cells #[.int .i64 f.ver, .slice A n c] 38) rfl)))
  have HY := Lib.hid (heap_old (o := .cells #[.int .i64 0, .slice none 0 0] 40) (heap_new (w := w.alloc (.cells #[.int .i64 f.ver, .slice A n c] 38)) (b := w.heap.size + 1) (o := .cells #[.int .i64 st, .slice B m d] 40) (by simp)))
  have HZ := Lib.hid (heap_new (w := (w.alloc (.cells #[.int .i64 f.ver, .slice A n c] 38)).alloc (.cells #[.int .i64 st, .slice B m d] 40)) (b := w.heap.size + 1 + 1) (o := .cells #[.int .i64 0, .slice none 0 0] 40) (by simp))
  have HB := Lib.hid ((((Below.refl w.heap.size w).alloc (Nat.le_refl _) (.cells #[.int .i64 f.ver, .slice A n c] 38)).alloc (by simp) (.cells #[.int .i64 st, .slice B m d] 40)).alloc (by simp; omega) (.cells #[.int .i64 0, .slice none 0 0] 40))
  have HR := Lib.hid (((hr.alloc (.cells #[.int .i64 f.ver, .slice A n c] 38)).alloc (.cells #[.int .i64 st, .slice B m d] 40)).alloc (.cells #[.int .i64 0, .slice none 0 0] 40)); clear hr
  have HD := Lib.hid (((hd.alloc (.cells #[.int .i64 f.ver, .slice A n c] 38)).alloc (.cells #[.int .i64 st, .slice B m d] 40)).alloc (.cells #[.int .i64 0, .slice none 0 0] 40)); clear hd
  have HLm := Lib.hid HD.out.1
  have HLn := Lib.hid HR.out.1
  go_enter Tryz.func78, Tryz.ntmps78
  go_wp2_with fail
  refine (canS_any _ _ _ _ _ _ f st done x _ _ _ HR.out hok HD.out hm hmd).mono ?_
  rintro e w1 ⟨rfl, hb⟩
  have HX1 := Lib.hid ((hb.block _ (heap_lt HX.out)).trans HX.out)
  have HY1 := Lib.hid ((hb.block _ (heap_lt HY.out)).trans HY.out)
  have HZ1 := Lib.hid ((hb.block _ (heap_lt HZ.out)).trans HZ.out)
  have HB1 := Lib.hid (HB.out.trans (hb.mono HB.out.size))
  have HR1 := Lib.hid (HR.out.below hb)
  have HD1 := Lib.hid (HD.out.below hb)
  clear hb HX HY HZ HB HD HR
  have hs1 := heap_lt HZ1.out
  have z0 := (blk_cl (k := 0) HZ1.out rfl).1
  have z0' := (blk_cl (k := 0) HZ1.out rfl).2
  have z1 := (blk_cl (k := 1) HZ1.out rfl).1
  have z1' := (blk_cl (k := 1) HZ1.out rfl).2
  cases hcan : canB f st done x
  · have HE := Lib.hid (failR_no hcan)
    go_wp2_with fail
    have hres := set21 (u := .slice none 0 0) (set20 (u := .int .i64 0) HZ1.out)
    have e0 := (blk_cl (k := 0) hres rfl).1
    have e1 := (blk_cl (k := 1) hres rfl).1
    exact bodyPost_ret (v := .tuple #[.agg #[.int .i64 0, .slice none 0 0], .bool false]) (by simp [results, Tryz.results78, go_sem, e0, e1]) rfl ⟨none, 0, 0, by rw [HE.out, hcan], by rw [HE.out]; exact own_nil, (HB1.out.setCell (p := ⟨w.heap.size + 1 + 1, 0, none⟩) (by show w.heap.size ≤ w.heap.size + 1 + 1; omega) _).setCell (p := ⟨w.heap.size + 1 + 1, 1, none⟩) (by show w.heap.size ≤ w.heap.size + 1 + 1; omega) _⟩
  · have HE := Lib.hid (failR_yes hcan)
    have HORD := Lib.hid (run_ord (can_run hcan))
    have HCAN := Lib.hid hcan; clear hcan
    have x0 := (blk_cl (k := 0) HX1.out rfl).1
    have x1 := (blk_cl (k := 1) HX1.out rfl).1
    have y1 := (blk_cl (k := 1) HY1.out rfl).1
    clear z0 z0' z1 z1'
    go_wp2_with fail
    refine (backS_any _ _ _ _ _ _ f done _ _ _ HR1.out hok HD1.out hm HORD.out).mono ?_
    rintro e w2 ⟨B2, d2, rfl, ho2, hb2⟩
    have HZ2 := Lib.hid ((hb2.block _ (heap_lt HZ1.out)).trans HZ1.out)
    have HB2 := Lib.hid (HB1.out.trans (hb2.mono HB1.out.size))
    have HO2 := Lib.hid ho2; clear ho2 hb2 x0 x1 y1
    have HE2 := Lib.hid (show failR f st done x = (backI f.steps done m, done) by rw [HE.out, HLm.out])
    generalize backI f.steps done m = z at *
    have z0 := (blk_cl (k := 0) HZ2.out rfl).1
    have z0' := (blk_cl (k := 0) HZ2.out rfl).2
    have z1 := (blk_cl (k := 1) HZ2.out rfl).1
    have z1' := (blk_cl (k := 1) HZ2.out rfl).2
    go_wp2_with fail
    have hres := set21 (u := .slice B2 m d2) (set20 (u := .int .i64 z) HZ2.out)
    have e0 := (blk_cl (k := 0) hres rfl).1
    have e1 := (blk_cl (k := 1) hres rfl).1
    exact bodyPost_ret (v := .tuple #[.agg #[.int .i64 z, .slice B2 m d2], .bool true]) (by simp [results, Tryz.results78, go_sem, e0, e1]) rfl ⟨_, _, _, by rw [HE2.out, HCAN.out], by rw [HE2.out]; exact row_mono (row_set (row_set HO2.out HZ2.out (by decide)) (set20 HZ2.out) (by decide)) HB1.out.size, (HB2.out.setCell (p := ⟨w.heap.size + 1 + 1, 0, none⟩) (by show w.heap.size ≤ w.heap.size + 1 + 1; omega) _).setCell (p := ⟨w.heap.size + 1 + 1, 1, none⟩) (by show w.heap.size ≤ w.heap.size + 1 + 1; omega) _⟩

set_option maxRecDepth 100000 in
set_option maxHeartbeats 1000000 in
theorem failI_any (A B : Option Addr) (n c m d : Nat) (f : Flow) (st : Int) (done : List Str) (x : Str) (lo lo' : Nat) (w : World) (hr : RStep w lo A n f.steps) (hok : okSteps f.steps) (hd : RStr w lo' B m done) (hm : m ≤ 1048576) (hmd : m ≤ d) :
    Calls Tryz.prog 57 #[.agg #[.int .i64 f.ver, .slice A n c], .agg #[.int .i64 st, .slice B m d], .string x] w fun e w' => ∃ B' n' d', e = .returned (.tuple #[.agg #[.int .i64 (failR f st done x).1, .slice B' n' d'], .bool (canB f st done x)]) ∧
      w'.ownsRow w.heap.size 9 1 (.slice B' n' d') n' ((failR f st done x).2.map Value.string) ∧ Below w.heap.size w w' := by
  have hn : n ≤ 1048576 := by have := hok.1; rw [hr.1] at this; exact this
  have HX := Lib.hid (heap_old (o := .cells #[.int .i64 0, .slice none 0 0] 40) (heap_old (o := .cells #[.int .i64 st, .slice B m d] 40) (heap_new (w := w) (o := .cells #[.int .i64 f.ver, .slice A n c] 38) rfl)))
  have HY := Lib.hid (heap_old (o := .cells #[.int .i64 0, .slice none 0 0] 40) (heap_new (w := w.alloc (.cells #[.int .i64 f.ver, .slice A n c] 38)) (b := w.heap.size + 1) (o := .cells #[.int .i64 st, .slice B m d] 40) (by simp)))
  have HZ := Lib.hid (heap_new (w := (w.alloc (.cells #[.int .i64 f.ver, .slice A n c] 38)).alloc (.cells #[.int .i64 st, .slice B m d] 40)) (b := w.heap.size + 1 + 1) (o := .cells #[.int .i64 0, .slice none 0 0] 40) (by simp))
  have HB := Lib.hid ((((Below.refl w.heap.size w).alloc (Nat.le_refl _) (.cells #[.int .i64 f.ver, .slice A n c] 38)).alloc (by simp) (.cells #[.int .i64 st, .slice B m d] 40)).alloc (by simp; omega) (.cells #[.int .i64 0, .slice none 0 0] 40))
  have HR := Lib.hid (((hr.alloc (.cells #[.int .i64 f.ver, .slice A n c] 38)).alloc (.cells #[.int .i64 st, .slice B m d] 40)).alloc (.cells #[.int .i64 0, .slice none 0 0] 40)); clear hr
  have HD := Lib.hid (((hd.alloc (.cells #[.int .i64 f.ver, .slice A n c] 38)).alloc (.cells #[.int .i64 st, .slice B m d] 40)).alloc (.cells #[.int .i64 0, .slice none 0 0] 40)); clear hd
  have HLm := Lib.hid HD.out.1
  have HLn := Lib.hid HR.out.1
  go_enter Tryz.func57, Tryz.ntmps57
  go_wp2_with fail
  refine (canI_any _ _ _ _ _ _ f st done x _ _ _ HR.out hok HD.out hm hmd).mono ?_
  rintro e w1 ⟨rfl, hb⟩
  have HX1 := Lib.hid ((hb.block _ (heap_lt HX.out)).trans HX.out)
  have HY1 := Lib.hid ((hb.block _ (heap_lt HY.out)).trans HY.out)
  have HZ1 := Lib.hid ((hb.block _ (heap_lt HZ.out)).trans HZ.out)
  have HB1 := Lib.hid (HB.out.trans (hb.mono HB.out.size))
  have HR1 := Lib.hid (HR.out.below hb)
  have HD1 := Lib.hid (HD.out.below hb)
  clear hb HX HY HZ HB HD HR
  have hs1 := heap_lt HZ1.out
  have z0 := (blk_cl (k := 0) HZ1.out rfl).1
  have z0' := (blk_cl (k := 0) HZ1.out rfl).2
  have z1 := (blk_cl (k := 1) HZ1.out rfl).1
  have z1' := (blk_cl (k := 1) HZ1.out rfl).2
  cases hcan : canB f st done x
  · have HE := Lib.hid (failR_no hcan)
    go_wp2_with fail
    have hres := set21 (u := .slice none 0 0) (set20 (u := .int .i64 0) HZ1.out)
    have e0 := (blk_cl (k := 0) hres rfl).1
    have e1 := (blk_cl (k := 1) hres rfl).1
    exact bodyPost_ret (v := .tuple #[.agg #[.int .i64 0, .slice none 0 0], .bool false]) (by simp [results, Tryz.results57, go_sem, e0, e1]) rfl ⟨none, 0, 0, by rw [HE.out, hcan], by rw [HE.out]; exact own_nil, (HB1.out.setCell (p := ⟨w.heap.size + 1 + 1, 0, none⟩) (by show w.heap.size ≤ w.heap.size + 1 + 1; omega) _).setCell (p := ⟨w.heap.size + 1 + 1, 1, none⟩) (by show w.heap.size ≤ w.heap.size + 1 + 1; omega) _⟩
  · have HE := Lib.hid (failR_yes hcan)
    have HALL := Lib.hid (fun j (hj : j < m) => ord_all (run_ord (can_run hcan)) j (by rw [HLm.out]; exact hj))
    have HCAN := Lib.hid hcan; clear hcan
    clear z0 z0' z1 z1'
    have HSB : Hid (∀ w', Below w1.heap.size w1 w' → (w'.cell? ⟨w.heap.size, 0, none⟩ = some (.int .i64 f.ver) ∧ w'.cell? ⟨w.heap.size, 1, none⟩ = some (.slice A n c)) ∧ w'.cell? ⟨w.heap.size + 1, 1, none⟩ = some (.slice B m d)) := fun w' h => by
      have e1 := (h.block _ (heap_lt HX1.out)).trans HX1.out
      have e2 := (h.block _ (heap_lt HY1.out)).trans HY1.out
      exact ⟨⟨(blk_cl (k := 0) e1 rfl).1, (blk_cl (k := 1) e1 rfl).1⟩, (blk_cl (k := 1) e2 rfl).1⟩
    have HSZ : Hid (∀ w'', Below w1.heap.size w1 w'' → ∀ u u', (fun w' => (w'.cell? ⟨w.heap.size, 0, none⟩ = some (.int .i64 f.ver) ∧ w'.cell? ⟨w.heap.size, 1, none⟩ = some (.slice A n c)) ∧ w'.cell? ⟨w.heap.size + 1, 1, none⟩ = some (.slice B m d)) ((w''.setCell ⟨w.heap.size + 1 + 1, 0, none⟩ u).setCell ⟨w.heap.size + 1 + 1, 1, none⟩ u')) := fun w' h u u' => by
      have e1 := set_ne (b := w.heap.size + 1 + 1) (o := 1) (u := u') (set_ne (b := w.heap.size + 1 + 1) (o := 0) (u := u) ((h.block _ (heap_lt HX1.out)).trans HX1.out) (by omega)) (by omega)
      have e2 := set_ne (b := w.heap.size + 1 + 1) (o := 1) (u := u') (set_ne (b := w.heap.size + 1 + 1) (o := 0) (u := u) ((h.block _ (heap_lt HY1.out)).trans HY1.out) (by omega)) (by omega)
      exact ⟨⟨(blk_cl (k := 0) e1 rfl).1, (blk_cl (k := 1) e1 rfl).1⟩, (blk_cl (k := 1) e2 rfl).1⟩
    have HBK := Lib.hid (fun (w' : World) (h : Below w1.heap.size w1 w') => back_any A B n c m d f.ver f.steps done _ _ w' (HR1.out.below h) hn (HD1.out.below h) hm HALL.out)
    have HCL := Lib.hid (fun (w' : World) (h : Below w1.heap.size w1 w') => cloneNames_any B m d done _ w' (HD1.out.below h) hm)
    have HE2 := Lib.hid (show failR f st done x = (backI f.steps done m, done) by rw [HE.out, HLm.out])
    generalize backI f.steps done m = z at *
    go_wp2_with fail
    go_region_held3 (fun w' => (w'.cell? ⟨w.heap.size, 0, none⟩ = some (.int .i64 f.ver) ∧ w'.cell? ⟨w.heap.size, 1, none⟩ = some (.slice A n c)) ∧ w'.cell? ⟨w.heap.size + 1, 1, none⟩ = some (.slice B m d))
      (first | exact HSB.out _ hbw | exact HSB.out _ (Below.refl _ _).drew | exact HSZ.out _ hbw _ _ | fail "keep")
      (first
        | (go_at_call 69; refine (HBK.out _ (Below.refl _ _).drew).mono ?_; rintro e w2 ⟨rfl, hb2⟩; have hbw : Below w1.heap.size w1 w2 := (Below.refl w1.heap.size w1).drew.trans hb2)
        | (go_at_call 90; refine (HCL.out _ hbw).mono ?_; rintro e w3 ⟨v3, rfl, how3⟩; replace hbw := hbw.trans (how3.below.mono hbw.size); have HZ3 := Lib.hid ((hbw.block _ (heap_lt HZ1.out)).trans HZ1.out); obtain ⟨A3, c3, rfl, _⟩ := own_str how3.row; have z0 := (blk_cl (k := 0) HZ3.out rfl).1; have z0' := (blk_cl (k := 0) HZ3.out rfl).2; have z1 := (blk_cl (k := 1) HZ3.out rfl).1; have z1' := (blk_cl (k := 1) HZ3.out rfl).2)
        | fail "no arm")
    have HB3 := Lib.hid (HB1.out.trans (hbw.mono HB1.out.size))
    go_wp2_with fail
    have hres := set21 (u := .slice A3 m c3) (set20 (u := .int .i64 z) HZ3.out)
    have e0 := (blk_cl (k := 0) hres rfl).1
    have e1 := (blk_cl (k := 1) hres rfl).1
    exact bodyPost_ret (v := .tuple #[.agg #[.int .i64 z, .slice A3 m c3], .bool true]) (by simp [results, Tryz.results57, go_sem, e0, e1]) rfl ⟨_, _, _, by rw [HE2.out, HCAN.out], by rw [HE2.out]; exact row_mono (row_set (row_set how3.row HZ3.out (by decide)) (set20 HZ3.out) (by decide)) (Nat.le_trans HB1.out.size hb2.size), (HB3.out.setCell (p := ⟨w.heap.size + 1 + 1, 0, none⟩) (by show w.heap.size ≤ w.heap.size + 1 + 1; omega) _).setCell (p := ⟨w.heap.size + 1 + 1, 1, none⟩) (by show w.heap.size ≤ w.heap.size + 1 + 1; omega) _⟩
end Go.Proofs.YthdfefgianokgaaGreatDoor

/- Runs: the last step is undone, both sides. -/
namespace Go.Proofs.YthdfefgianokgaaGreatDoor
open Go.RowKit

/-- The last step is undone. -/
def undoB (f : Flow) (st : Int) (done : List Str) : Bool := runB f st done && decide (st = 1)
def undoR (f : Flow) (st : Int) (done : List Str) : Int × List Str := if undoB f st done = true then (backI f.steps (done.take (done.length - 1)) (done.length - 1), done.take (done.length - 1)) else (0, [])
def undoN (f : Flow) (st : Int) (done : List Str) : Str := if undoB f st done = true then nth done (done.length - 1) else ⟨#[]⟩
theorem undo_no {f : Flow} {st : Int} {done : List Str} (h : undoB f st done = false) : undoR f st done = (0, []) ∧ undoN f st done = ⟨#[]⟩ := by unfold undoR undoN; rw [if_neg (by rw [h]; simp), if_neg (by rw [h]; simp)]; exact ⟨rfl, rfl⟩
theorem undo_yes {f : Flow} {st : Int} {done : List Str} {k : Nat} (h : undoB f st done = true) (hl : done.length = k + 1) : undoR f st done = (backI f.steps (done.take k) k, done.take k) ∧ undoN f st done = nth done k := by
  unfold undoR undoN
  rw [if_pos h, if_pos h, hl]
  exact ⟨rfl, rfl⟩
theorem undo_run {f : Flow} {st : Int} {done : List Str} (h : undoB f st done = true) : runB f st done = true ∧ st = 1 ∧ ∃ k, done.length = k + 1 := by
  unfold undoB at h
  simp only [Bool.and_eq_true, decide_eq_true_eq] at h
  obtain ⟨h1, rfl⟩ := h
  refine ⟨h1, rfl, done.length - 1, ?_⟩
  have h2 := h1
  unfold runB at h2
  simp at h2
  omega
theorem ord_take {ss : List Step} {done : List Str} (h : ordB ss done = true) (k : Nat) : ordB ss (done.take k) = true := by
  unfold ordB at h ⊢
  rw [allN_iff] at h ⊢
  intro j hj
  rw [List.length_take] at hj
  have h1 := h j (by omega)
  unfold ordAt at h1 ⊢
  have e1 : nth (done.take k) j = nth done j := by
    rw [nth_eq (by rw [List.length_take]; omega), nth_eq (by omega), List.getElem_take]
  have e2 : (done.take k).take j = done.take j := by rw [List.take_take]; congr 1; omega
  rw [e1, e2]
  exact h1

set_option maxRecDepth 100000 in
set_option maxHeartbeats 1000000 in
theorem undoS_any (A B : Option Addr) (n c m d : Nat) (f : Flow) (st : Int) (done : List Str) (lo lo' : Nat) (w : World) (hr : RStep w lo A n f.steps) (hok : okSteps f.steps) (hd : RStr w lo' B m done) (hm : m ≤ 1048576) (hmd : m ≤ d) :
    Calls Tryz.prog 79 #[.agg #[.int .i64 f.ver, .slice A n c], .agg #[.int .i64 st, .slice B m d]] w fun e w' => ∃ B' n' d', e = .returned (.tuple #[.agg #[.int .i64 (undoR f st done).1, .slice B' n' d'], .string (undoN f st done), .bool (undoB f st done)]) ∧
      w'.ownsRow w.heap.size 9 1 (.slice B' n' d') n' ((undoR f st done).2.map Value.string) ∧ Below w.heap.size w w' := by
  have hn : n ≤ 1048576 := by have := hok.1; rw [hr.1] at this; exact this
  have HX := Lib.hid (heap_old (o := .cells #[.int .i64 0, .slice none 0 0] 40) (heap_old (o := .cells #[.int .i64 st, .slice B m d] 40) (heap_new (w := w) (o := .cells #[.int .i64 f.ver, .slice A n c] 38) rfl)))
  have HY := Lib.hid (heap_old (o := .cells #[.int .i64 0, .slice none 0 0] 40) (heap_new (w := w.alloc (.cells #[.int .i64 f.ver, .slice A n c] 38)) (b := w.heap.size + 1) (o := .cells #[.int .i64 st, .slice B m d] 40) (by simp)))
  have HZ := Lib.hid (heap_new (w := (w.alloc (.cells #[.int .i64 f.ver, .slice A n c] 38)).alloc (.cells #[.int .i64 st, .slice B m d] 40)) (b := w.heap.size + 1 + 1) (o := .cells #[.int .i64 0, .slice none 0 0] 40) (by simp))
  have HB := Lib.hid ((((Below.refl w.heap.size w).alloc (Nat.le_refl _) (.cells #[.int .i64 f.ver, .slice A n c] 38)).alloc (by simp) (.cells #[.int .i64 st, .slice B m d] 40)).alloc (by simp; omega) (.cells #[.int .i64 0, .slice none 0 0] 40))
  have HR := Lib.hid (((hr.alloc (.cells #[.int .i64 f.ver, .slice A n c] 38)).alloc (.cells #[.int .i64 st, .slice B m d] 40)).alloc (.cells #[.int .i64 0, .slice none 0 0] 40)); clear hr
  have HDW := Lib.hid hd
  have HD := Lib.hid (((hd.alloc (.cells #[.int .i64 f.ver, .slice A n c] 38)).alloc (.cells #[.int .i64 st, .slice B m d] 40)).alloc (.cells #[.int .i64 0, .slice none 0 0] 40)); clear hd
  have HLm := Lib.hid HD.out.1
  have HLn := Lib.hid HR.out.1
  go_enter Tryz.func79, Tryz.ntmps79
  go_wp2_with fail
  refine (runS_any _ _ _ _ _ _ f st done _ _ _ HR.out hok HD.out hm hmd).mono ?_
  rintro e w1 ⟨rfl, hb⟩
  have HX1 := Lib.hid ((hb.block _ (heap_lt HX.out)).trans HX.out)
  have HY1 := Lib.hid ((hb.block _ (heap_lt HY.out)).trans HY.out)
  have HZ1 := Lib.hid ((hb.block _ (heap_lt HZ.out)).trans HZ.out)
  have HB1 := Lib.hid (HB.out.trans (hb.mono HB.out.size))
  have HR1 := Lib.hid (HR.out.below hb)
  have HD1 := Lib.hid (HD.out.below hb)
  have HNM := Lib.hid (fun (k : Nat) (b off : Nat) (e : B = some ⟨b, off, none⟩) (hk : k < m) => (by
    obtain ⟨b', off', e', ⟨_, hbl⟩, hcc⟩ := RStr.at_ HDW.out (show 0 < m by omega)
    rw [e] at e'
    injection e' with e'; injection e' with e1 e2
    subst e1; subst e2
    exact ⟨hbl, ((HB.out.trans (hb.mono HB.out.size)).cell (p := ⟨b, off + k, none⟩) hbl).trans (hcc k hk).1⟩ : b < w.heap.size ∧ w1.cell? ⟨b, off + k, none⟩ = some (.string (nth done k))))
  clear hb HX HY HZ HB HD HR
  have hs1 := heap_lt HZ1.out
  have z0 := (blk_cl (k := 0) HZ1.out rfl).1
  have z0' := (blk_cl (k := 0) HZ1.out rfl).2
  have z1 := (blk_cl (k := 1) HZ1.out rfl).1
  have z1' := (blk_cl (k := 1) HZ1.out rfl).2
  have y0 := (blk_cl (k := 0) HY1.out rfl).1
  have y1 := (blk_cl (k := 1) HY1.out rfl).1
  by_cases hu : undoB f st done = true
  case neg =>
    rw [Bool.not_eq_true] at hu
    have HE := Lib.hid (undo_no hu)
    have HU := Lib.hid hu
    cases hrun : runB f st done
    · clear hrun hu
      go_wp2_with fail
      have hres := set21 (u := .slice none 0 0) (set20 (u := .int .i64 0) HZ1.out)
      have e0 := (blk_cl (k := 0) hres rfl).1
      have e1 := (blk_cl (k := 1) hres rfl).1
      exact bodyPost_ret (v := .tuple #[.agg #[.int .i64 0, .slice none 0 0], .string ⟨#[]⟩, .bool false]) (by simp [results, Tryz.results79, go_sem, e0, e1]) rfl ⟨none, 0, 0, by rw [HE.out.1, HE.out.2, HU.out], by rw [HE.out.1]; exact own_nil, (HB1.out.setCell (p := ⟨w.heap.size + 1 + 1, 0, none⟩) (by show w.heap.size ≤ w.heap.size + 1 + 1; omega) _).setCell (p := ⟨w.heap.size + 1 + 1, 1, none⟩) (by show w.heap.size ≤ w.heap.size + 1 + 1; omega) _⟩
    · have h1 : ¬ st = 1 := fun h => by unfold undoB at hu; rw [hrun, h] at hu; simp at hu
      have hq : (st == 1) = false := by rw [beq_eq_false_iff_ne]; exact h1
      clear hrun hu h1
      go_wp2_with fail
      have hres := set21 (u := .slice none 0 0) (set20 (u := .int .i64 0) HZ1.out)
      have e0 := (blk_cl (k := 0) hres rfl).1
      have e1 := (blk_cl (k := 1) hres rfl).1
      exact bodyPost_ret (v := .tuple #[.agg #[.int .i64 0, .slice none 0 0], .string ⟨#[]⟩, .bool false]) (by simp [results, Tryz.results79, go_sem, e0, e1]) rfl ⟨none, 0, 0, by rw [HE.out.1, HE.out.2, HU.out], by rw [HE.out.1]; exact own_nil, (HB1.out.setCell (p := ⟨w.heap.size + 1 + 1, 0, none⟩) (by show w.heap.size ≤ w.heap.size + 1 + 1; omega) _).setCell (p := ⟨w.heap.size + 1 + 1, 1, none⟩) (by show w.heap.size ≤ w.heap.size + 1 + 1; omega) _⟩
  obtain ⟨hrun, rfl, k, hk⟩ := undo_run hu
  obtain rfl : m = k + 1 := by rw [← HLm.out, hk]
  obtain ⟨hE1, hE2⟩ := undo_yes hu hk
  have HE := Lib.hid hE1
  have HEN := Lib.hid hE2; clear hE1 hE2
  have HU := Lib.hid hu; clear hu
  rw [hrun]
  have HORD := Lib.hid (ord_take (run_ord hrun) k); clear hrun
  obtain ⟨b, off, rfl, _, _⟩ := RStr.at_ HD1.out (show 0 < k + 1 by omega)
  obtain ⟨hbl, hnm⟩ := HNM.out k b off rfl (by omega)
  have HTK := Lib.hid ((RH.take HD1.out.low (k := k) (by omega)).up (Nat.le_refl _))
  generalize nth done k = x at *
  have HNX := Lib.hid hnm; clear hnm HNM
  clear z0 z0' z1 z1'
  have hk1 : (k : Int) < (k : Int) + 1 := by omega
  have hk2 : (k : Int) ≤ (d : Int) := by omega
  have hk3 : k ≤ d := by omega
  have hk4 : k < k + 1 := by omega
  have HSB : Hid (∀ w', Below w1.heap.size w1 w' → ((w'.cell? ⟨w.heap.size, 0, none⟩ = some (.int .i64 f.ver) ∧ w'.cell? ⟨w.heap.size, 1, none⟩ = some (.slice A n c)) ∧ w'.cell? ⟨w.heap.size + 1, 1, none⟩ = some (.slice (some ⟨b, off, none⟩) (k + 1) d)) ∧ w'.cell? ⟨b, off + k, none⟩ = some (.string x)) := fun w' h => by
    have e1 := (h.block _ (heap_lt HX1.out)).trans HX1.out
    have e2 := (h.block _ (heap_lt HY1.out)).trans HY1.out
    exact ⟨⟨⟨(blk_cl (k := 0) e1 rfl).1, (blk_cl (k := 1) e1 rfl).1⟩, (blk_cl (k := 1) e2 rfl).1⟩, (h.cell (p := ⟨b, off + k, none⟩) (by show b < _; omega)).trans HNX.out⟩
  have HSZ : Hid (∀ w'', Below w1.heap.size w1 w'' → ∀ u u', (fun w' => ((w'.cell? ⟨w.heap.size, 0, none⟩ = some (.int .i64 f.ver) ∧ w'.cell? ⟨w.heap.size, 1, none⟩ = some (.slice A n c)) ∧ w'.cell? ⟨w.heap.size + 1, 1, none⟩ = some (.slice (some ⟨b, off, none⟩) (k + 1) d)) ∧ w'.cell? ⟨b, off + k, none⟩ = some (.string x)) ((w''.setCell ⟨w.heap.size + 1 + 1, 0, none⟩ u).setCell ⟨w.heap.size + 1 + 1, 1, none⟩ u')) := fun w' h u u' => by
    have e1 := set_ne (b := w.heap.size + 1 + 1) (o := 1) (u := u') (set_ne (b := w.heap.size + 1 + 1) (o := 0) (u := u) ((h.block _ (heap_lt HX1.out)).trans HX1.out) (by omega)) (by omega)
    have e2 := set_ne (b := w.heap.size + 1 + 1) (o := 1) (u := u') (set_ne (b := w.heap.size + 1 + 1) (o := 0) (u := u) ((h.block _ (heap_lt HY1.out)).trans HY1.out) (by omega)) (by omega)
    have e3 := (h.cell (p := ⟨b, off + k, none⟩) (by show b < _; omega)).trans HNX.out
    have e4 := (((Below.refl (w.heap.size + 1 + 1) w').setCell (p := ⟨w.heap.size + 1 + 1, 0, none⟩) (Nat.le_refl _) u).setCell (p := ⟨w.heap.size + 1 + 1, 1, none⟩) (Nat.le_refl _) u').cell (p := ⟨b, off + k, none⟩) (by show b < _; omega)
    exact ⟨⟨⟨(blk_cl (k := 0) e1 rfl).1, (blk_cl (k := 1) e1 rfl).1⟩, (blk_cl (k := 1) e2 rfl).1⟩, e4.trans e3⟩
  have HBK := Lib.hid (fun (w' : World) (h : Below w1.heap.size w1 w') => backS_any A (some ⟨b, off, none⟩) n c k d f (done.take k) _ _ w' (HR1.out.below h) hok (HTK.out.below h) (by omega) HORD.out)
  generalize backI f.steps (done.take k) k = z at *
  go_wp2_with fail
  go_region_held3 (fun w' => ((w'.cell? ⟨w.heap.size, 0, none⟩ = some (.int .i64 f.ver) ∧ w'.cell? ⟨w.heap.size, 1, none⟩ = some (.slice A n c)) ∧ w'.cell? ⟨w.heap.size + 1, 1, none⟩ = some (.slice (some ⟨b, off, none⟩) (k + 1) d)) ∧ w'.cell? ⟨b, off + k, none⟩ = some (.string x))
    (first | exact HSB.out _ hbw | exact HSB.out _ (Below.refl _ _).drew | exact HSZ.out _ hbw _ _ | fail "keep")
    (first
      | (go_at_call 114; refine (HBK.out _ (Below.refl _ _).drew).mono ?_; rintro e w3 ⟨A3, c3, rfl, ho3, hb3⟩; have hbw : Below w1.heap.size w1 w3 := (Below.refl w1.heap.size w1).drew.trans hb3; have HZ3 := Lib.hid ((hbw.block _ (heap_lt HZ1.out)).trans HZ1.out); have z0 := (blk_cl (k := 0) HZ3.out rfl).1; have z0' := (blk_cl (k := 0) HZ3.out rfl).2; have z1 := (blk_cl (k := 1) HZ3.out rfl).1; have z1' := (blk_cl (k := 1) HZ3.out rfl).2)
      | fail "no arm")
  have HB3 := Lib.hid (HB1.out.trans (hbw.mono HB1.out.size))
  go_wp2_with fail
  have hres := set21 (u := .slice A3 k c3) (set20 (u := .int .i64 z) HZ3.out)
  have e0 := (blk_cl (k := 0) hres rfl).1
  have e1 := (blk_cl (k := 1) hres rfl).1
  exact bodyPost_ret (v := .tuple #[.agg #[.int .i64 z, .slice A3 k c3], .string x, .bool true]) (by simp [results, Tryz.results79, go_sem, e0, e1]) rfl ⟨_, _, _, by rw [HE.out, HU.out, HEN.out], by rw [HE.out]; exact row_mono (row_set (row_set ho3 HZ3.out (by decide)) (set20 HZ3.out) (by decide)) HB1.out.size, (HB3.out.setCell (p := ⟨w.heap.size + 1 + 1, 0, none⟩) (by show w.heap.size ≤ w.heap.size + 1 + 1; omega) _).setCell (p := ⟨w.heap.size + 1 + 1, 1, none⟩) (by show w.heap.size ≤ w.heap.size + 1 + 1; omega) _⟩

set_option maxRecDepth 100000 in
set_option maxHeartbeats 1000000 in
theorem undoI_any (A B : Option Addr) (n c m d : Nat) (f : Flow) (st : Int) (done : List Str) (lo lo' : Nat) (w : World) (hr : RStep w lo A n f.steps) (hok : okSteps f.steps) (hd : RStr w lo' B m done) (hm : m ≤ 1048576) (hmd : m ≤ d) :
    Calls Tryz.prog 58 #[.agg #[.int .i64 f.ver, .slice A n c], .agg #[.int .i64 st, .slice B m d]] w fun e w' => ∃ B' n' d', e = .returned (.tuple #[.agg #[.int .i64 (undoR f st done).1, .slice B' n' d'], .string (undoN f st done), .bool (undoB f st done)]) ∧
      w'.ownsRow w.heap.size 9 1 (.slice B' n' d') n' ((undoR f st done).2.map Value.string) ∧ Below w.heap.size w w' := by
  have hn : n ≤ 1048576 := by have := hok.1; rw [hr.1] at this; exact this
  have HX := Lib.hid (heap_old (o := .cells #[.int .i64 0, .slice none 0 0] 40) (heap_old (o := .cells #[.int .i64 st, .slice B m d] 40) (heap_new (w := w) (o := .cells #[.int .i64 f.ver, .slice A n c] 38) rfl)))
  have HY := Lib.hid (heap_old (o := .cells #[.int .i64 0, .slice none 0 0] 40) (heap_new (w := w.alloc (.cells #[.int .i64 f.ver, .slice A n c] 38)) (b := w.heap.size + 1) (o := .cells #[.int .i64 st, .slice B m d] 40) (by simp)))
  have HZ := Lib.hid (heap_new (w := (w.alloc (.cells #[.int .i64 f.ver, .slice A n c] 38)).alloc (.cells #[.int .i64 st, .slice B m d] 40)) (b := w.heap.size + 1 + 1) (o := .cells #[.int .i64 0, .slice none 0 0] 40) (by simp))
  have HB := Lib.hid ((((Below.refl w.heap.size w).alloc (Nat.le_refl _) (.cells #[.int .i64 f.ver, .slice A n c] 38)).alloc (by simp) (.cells #[.int .i64 st, .slice B m d] 40)).alloc (by simp; omega) (.cells #[.int .i64 0, .slice none 0 0] 40))
  have HR := Lib.hid (((hr.alloc (.cells #[.int .i64 f.ver, .slice A n c] 38)).alloc (.cells #[.int .i64 st, .slice B m d] 40)).alloc (.cells #[.int .i64 0, .slice none 0 0] 40)); clear hr
  have HDW := Lib.hid hd
  have HD := Lib.hid (((hd.alloc (.cells #[.int .i64 f.ver, .slice A n c] 38)).alloc (.cells #[.int .i64 st, .slice B m d] 40)).alloc (.cells #[.int .i64 0, .slice none 0 0] 40)); clear hd
  have HLm := Lib.hid HD.out.1
  have HLn := Lib.hid HR.out.1
  go_enter Tryz.func58, Tryz.ntmps58
  go_wp2_with fail
  refine (runI_any _ _ _ _ _ _ f st done _ _ _ HR.out hok HD.out hm hmd).mono ?_
  rintro e w1 ⟨rfl, hb⟩
  have HX1 := Lib.hid ((hb.block _ (heap_lt HX.out)).trans HX.out)
  have HY1 := Lib.hid ((hb.block _ (heap_lt HY.out)).trans HY.out)
  have HZ1 := Lib.hid ((hb.block _ (heap_lt HZ.out)).trans HZ.out)
  have HB1 := Lib.hid (HB.out.trans (hb.mono HB.out.size))
  have HR1 := Lib.hid (HR.out.below hb)
  have HD1 := Lib.hid (HD.out.below hb)
  have HNM := Lib.hid (fun (k : Nat) (b off : Nat) (e : B = some ⟨b, off, none⟩) (hk : k < m) => (by
    obtain ⟨b', off', e', ⟨_, hbl⟩, hcc⟩ := RStr.at_ HDW.out (show 0 < m by omega)
    rw [e] at e'
    injection e' with e'; injection e' with e1 e2
    subst e1; subst e2
    exact ⟨hbl, ((HB.out.trans (hb.mono HB.out.size)).cell (p := ⟨b, off + k, none⟩) hbl).trans (hcc k hk).1⟩ : b < w.heap.size ∧ w1.cell? ⟨b, off + k, none⟩ = some (.string (nth done k))))
  clear hb HX HY HZ HB HD HR
  have hs1 := heap_lt HZ1.out
  have z0 := (blk_cl (k := 0) HZ1.out rfl).1
  have z0' := (blk_cl (k := 0) HZ1.out rfl).2
  have z1 := (blk_cl (k := 1) HZ1.out rfl).1
  have z1' := (blk_cl (k := 1) HZ1.out rfl).2
  have y0 := (blk_cl (k := 0) HY1.out rfl).1
  have y1 := (blk_cl (k := 1) HY1.out rfl).1
  by_cases hu : undoB f st done = true
  case neg =>
    rw [Bool.not_eq_true] at hu
    have HE := Lib.hid (undo_no hu)
    have HU := Lib.hid hu
    cases hrun : runB f st done
    · clear hrun hu
      go_wp2_with fail
      have hres := set21 (u := .slice none 0 0) (set20 (u := .int .i64 0) HZ1.out)
      have e0 := (blk_cl (k := 0) hres rfl).1
      have e1 := (blk_cl (k := 1) hres rfl).1
      exact bodyPost_ret (v := .tuple #[.agg #[.int .i64 0, .slice none 0 0], .string ⟨#[]⟩, .bool false]) (by simp [results, Tryz.results58, go_sem, e0, e1]) rfl ⟨none, 0, 0, by rw [HE.out.1, HE.out.2, HU.out], by rw [HE.out.1]; exact own_nil, (HB1.out.setCell (p := ⟨w.heap.size + 1 + 1, 0, none⟩) (by show w.heap.size ≤ w.heap.size + 1 + 1; omega) _).setCell (p := ⟨w.heap.size + 1 + 1, 1, none⟩) (by show w.heap.size ≤ w.heap.size + 1 + 1; omega) _⟩
    · have h1 : ¬ st = 1 := fun h => by unfold undoB at hu; rw [hrun, h] at hu; simp at hu
      have hq : (st == 1) = false := by rw [beq_eq_false_iff_ne]; exact h1
      clear hrun hu h1
      go_wp2_with fail
      have hres := set21 (u := .slice none 0 0) (set20 (u := .int .i64 0) HZ1.out)
      have e0 := (blk_cl (k := 0) hres rfl).1
      have e1 := (blk_cl (k := 1) hres rfl).1
      exact bodyPost_ret (v := .tuple #[.agg #[.int .i64 0, .slice none 0 0], .string ⟨#[]⟩, .bool false]) (by simp [results, Tryz.results58, go_sem, e0, e1]) rfl ⟨none, 0, 0, by rw [HE.out.1, HE.out.2, HU.out], by rw [HE.out.1]; exact own_nil, (HB1.out.setCell (p := ⟨w.heap.size + 1 + 1, 0, none⟩) (by show w.heap.size ≤ w.heap.size + 1 + 1; omega) _).setCell (p := ⟨w.heap.size + 1 + 1, 1, none⟩) (by show w.heap.size ≤ w.heap.size + 1 + 1; omega) _⟩
  obtain ⟨hrun, rfl, k, hk⟩ := undo_run hu
  obtain rfl : m = k + 1 := by rw [← HLm.out, hk]
  obtain ⟨hE1, hE2⟩ := undo_yes hu hk
  have HE := Lib.hid hE1
  have HEN := Lib.hid hE2; clear hE1 hE2
  have HU := Lib.hid hu; clear hu
  rw [hrun]
  have HORD := Lib.hid (ord_take (run_ord hrun) k); clear hrun
  obtain ⟨b, off, rfl, _, _⟩ := RStr.at_ HD1.out (show 0 < k + 1 by omega)
  obtain ⟨hbl, hnm⟩ := HNM.out k b off rfl (by omega)
  have HTK := Lib.hid ((RH.take HD1.out.low (k := k) (by omega)).up (Nat.le_refl _))
  generalize nth done k = x at *
  have HNX := Lib.hid hnm; clear hnm HNM
  clear z0 z0' z1 z1'
  have hk1 : (k : Int) < (k : Int) + 1 := by omega
  have hk2 : (k : Int) ≤ (d : Int) := by omega
  have hk3 : k ≤ d := by omega
  have hk4 : k < k + 1 := by omega
  go_wp2_with fail
  refine (cloneNames_any _ _ _ (done.take k) _ _ HTK.out (by omega)).mono ?_
  rintro e w2 ⟨v2, rfl, how2⟩
  have hb2 := how2.below
  obtain ⟨A3, c3, rfl, hrs3⟩ := own_str how2.row
  have HRS := Lib.hid hrs3; clear hrs3
  have HROW := Lib.hid how2.row; clear how2
  have HX2 := Lib.hid ((hb2.block _ (heap_lt HX1.out)).trans HX1.out)
  have HY2 := Lib.hid ((hb2.block _ (heap_lt HY1.out)).trans HY1.out)
  have HZ2 := Lib.hid ((hb2.block _ (heap_lt HZ1.out)).trans HZ1.out)
  have HNX2 := Lib.hid ((hb2.cell (p := ⟨b, off + k, none⟩) (by show b < _; omega)).trans HNX.out)
  have hs2 := hb2.size
  have HB2 := Lib.hid (HB1.out.trans (hb2.mono HB1.out.size))
  have HR2 := Lib.hid (HR1.out.below hb2)
  clear hb2 y0 y1
  have HSB : Hid (∀ w', Below w2.heap.size w2 w' → ((w'.cell? ⟨w.heap.size, 0, none⟩ = some (.int .i64 f.ver) ∧ w'.cell? ⟨w.heap.size, 1, none⟩ = some (.slice A n c)) ∧ w'.cell? ⟨w.heap.size + 1, 1, none⟩ = some (.slice (some ⟨b, off, none⟩) (k + 1) d)) ∧ w'.cell? ⟨b, off + k, none⟩ = some (.string x)) := fun w' h => by
    have e1 := (h.block _ (heap_lt HX2.out)).trans HX2.out
    have e2 := (h.block _ (heap_lt HY2.out)).trans HY2.out
    exact ⟨⟨⟨(blk_cl (k := 0) e1 rfl).1, (blk_cl (k := 1) e1 rfl).1⟩, (blk_cl (k := 1) e2 rfl).1⟩, (h.cell (p := ⟨b, off + k, none⟩) (by show b < _; omega)).trans HNX2.out⟩
  have HSZ : Hid (∀ w'', Below w2.heap.size w2 w'' → ∀ u u', (fun w' => ((w'.cell? ⟨w.heap.size, 0, none⟩ = some (.int .i64 f.ver) ∧ w'.cell? ⟨w.heap.size, 1, none⟩ = some (.slice A n c)) ∧ w'.cell? ⟨w.heap.size + 1, 1, none⟩ = some (.slice (some ⟨b, off, none⟩) (k + 1) d)) ∧ w'.cell? ⟨b, off + k, none⟩ = some (.string x)) ((w''.setCell ⟨w.heap.size + 1 + 1, 0, none⟩ u).setCell ⟨w.heap.size + 1 + 1, 1, none⟩ u')) := fun w' h u u' => by
    have e1 := set_ne (b := w.heap.size + 1 + 1) (o := 1) (u := u') (set_ne (b := w.heap.size + 1 + 1) (o := 0) (u := u) ((h.block _ (heap_lt HX2.out)).trans HX2.out) (by omega)) (by omega)
    have e2 := set_ne (b := w.heap.size + 1 + 1) (o := 1) (u := u') (set_ne (b := w.heap.size + 1 + 1) (o := 0) (u := u) ((h.block _ (heap_lt HY2.out)).trans HY2.out) (by omega)) (by omega)
    have e3 := (h.cell (p := ⟨b, off + k, none⟩) (by show b < _; omega)).trans HNX2.out
    have e4 := (((Below.refl (w.heap.size + 1 + 1) w').setCell (p := ⟨w.heap.size + 1 + 1, 0, none⟩) (Nat.le_refl _) u).setCell (p := ⟨w.heap.size + 1 + 1, 1, none⟩) (Nat.le_refl _) u').cell (p := ⟨b, off + k, none⟩) (by show b < _; omega)
    exact ⟨⟨⟨(blk_cl (k := 0) e1 rfl).1, (blk_cl (k := 1) e1 rfl).1⟩, (blk_cl (k := 1) e2 rfl).1⟩, e4.trans e3⟩
  have HBK := Lib.hid (fun (w' : World) (h : Below w2.heap.size w2 w') => back_any A A3 n c k c3 f.ver f.steps (done.take k) _ _ w' (HR2.out.below h) hn (HRS.out.below h) (by omega) (fun j hj => ord_all HORD.out j (by rw [List.length_take, hk]; omega)))
  generalize backI f.steps (done.take k) k = z at *
  go_wp2_with fail
  go_region_held3 (fun w' => ((w'.cell? ⟨w.heap.size, 0, none⟩ = some (.int .i64 f.ver) ∧ w'.cell? ⟨w.heap.size, 1, none⟩ = some (.slice A n c)) ∧ w'.cell? ⟨w.heap.size + 1, 1, none⟩ = some (.slice (some ⟨b, off, none⟩) (k + 1) d)) ∧ w'.cell? ⟨b, off + k, none⟩ = some (.string x))
    (first | exact HSB.out _ hbw | exact HSB.out _ (Below.refl _ _).drew | exact HSZ.out _ hbw _ _ | fail "keep")
    (first
      | (go_at_call 69; refine (HBK.out _ (Below.refl _ _).drew).mono ?_; rintro e w3 ⟨rfl, hb3⟩; have hbw : Below w2.heap.size w2 w3 := (Below.refl w2.heap.size w2).drew.trans hb3; have HZ3 := Lib.hid ((hbw.block _ (heap_lt HZ2.out)).trans HZ2.out); have z0 := (blk_cl (k := 0) HZ3.out rfl).1; have z0' := (blk_cl (k := 0) HZ3.out rfl).2; have z1 := (blk_cl (k := 1) HZ3.out rfl).1; have z1' := (blk_cl (k := 1) HZ3.out rfl).2)
      | fail "no arm")
  have HB3 := Lib.hid (HB2.out.trans (hbw.mono HB2.out.size))
  go_wp2_with fail
  have hres := set21 (u := .slice A3 k c3) (set20 (u := .int .i64 z) HZ3.out)
  have e0 := (blk_cl (k := 0) hres rfl).1
  have e1 := (blk_cl (k := 1) hres rfl).1
  exact bodyPost_ret (v := .tuple #[.agg #[.int .i64 z, .slice A3 k c3], .string x, .bool true]) (by simp [results, Tryz.results58, go_sem, e0, e1]) rfl ⟨_, _, _, by rw [HE.out, HU.out, HEN.out], by rw [HE.out]; exact row_mono (row_set (row_set (row_below HROW.out hbw) HZ3.out (by decide)) (set20 HZ3.out) (by decide)) HB1.out.size, (HB3.out.setCell (p := ⟨w.heap.size + 1 + 1, 0, none⟩) (by show w.heap.size ≤ w.heap.size + 1 + 1; omega) _).setCell (p := ⟨w.heap.size + 1 + 1, 1, none⟩) (by show w.heap.size ≤ w.heap.size + 1 + 1; omega) _⟩
end Go.Proofs.YthdfefgianokgaaGreatDoor

/- Events: a run goes on by an event, both sides. -/
namespace Go.Proofs.YthdfefgianokgaaGreatDoor
open Go.RowKit

/-- A run goes on by an event. -/
def evB (f : Flow) (st : Int) (done : List Str) (k : Int) (x : Str) : Bool := if k = 1 then canB f st done x else if k = 2 then canB f st done x else if k = 3 then undoB f st done && decide (undoN f st done = x) else false
def evR (f : Flow) (st : Int) (done : List Str) (k : Int) (x : Str) : Int × List Str := if k = 1 then doR f st done x else if k = 2 then failR f st done x else if k = 3 then (if (undoB f st done && decide (undoN f st done = x)) = true then undoR f st done else (0, [])) else (0, [])
theorem ev_1 (f : Flow) (st : Int) (done : List Str) (x : Str) : evR f st done 1 x = doR f st done x ∧ evB f st done 1 x = canB f st done x := ⟨rfl, rfl⟩
theorem ev_2 (f : Flow) (st : Int) (done : List Str) (x : Str) : evR f st done 2 x = failR f st done x ∧ evB f st done 2 x = canB f st done x := ⟨rfl, rfl⟩
theorem ev_3 {f : Flow} {st : Int} {done : List Str} {x : Str} (h : undoB f st done = true) (hx : undoN f st done = x) : evR f st done 3 x = undoR f st done ∧ evB f st done 3 x = true := by
  unfold evR evB
  rw [h, hx]
  simp
theorem ev_3n {f : Flow} {st : Int} {done : List Str} {x : Str} (h : undoB f st done = false ∨ undoN f st done ≠ x) : evR f st done 3 x = (0, []) ∧ evB f st done 3 x = false := by
  unfold evR evB
  rcases h with h | h <;> simp [h]
theorem ev_no {f : Flow} {st : Int} {done : List Str} {x : Str} {k : Int} (h1 : k ≠ 1) (h2 : k ≠ 2) (h3 : k ≠ 3) : evR f st done k x = (0, []) ∧ evB f st done k x = false := by
  unfold evR evB
  rw [if_neg h1, if_neg h2, if_neg h3, if_neg h1, if_neg h2, if_neg h3]
  exact ⟨rfl, rfl⟩

set_option maxRecDepth 100000 in
set_option maxHeartbeats 1000000 in
theorem evS_any (A B : Option Addr) (n c m d : Nat) (f : Flow) (st : Int) (done : List Str) (k : Int) (x : Str) (lo lo' : Nat) (w : World) (hr : RStep w lo A n f.steps) (hok : okSteps f.steps) (hd : RStr w lo' B m done) (hm : m ≤ 1048576) (hmd : m ≤ d) :
    Calls Tryz.prog 47 #[.agg #[.int .i64 f.ver, .slice A n c], .agg #[.int .i64 st, .slice B m d], .agg #[.int .i64 k, .string x]] w fun e w' => ∃ B' n' d', e = .returned (.tuple #[.agg #[.int .i64 (evR f st done k x).1, .slice B' n' d'], .bool (evB f st done k x)]) ∧
      w'.ownsRow w.heap.size 9 1 (.slice B' n' d') n' ((evR f st done k x).2.map Value.string) ∧ Below w.heap.size w w' := by
  have HX := Lib.hid (heap_old (o := .cells #[.int .i64 0, .slice none 0 0] 40) (heap_old (o := .cells #[.int .i64 k, .string x] 65) (heap_old (o := .cells #[.int .i64 st, .slice B m d] 40) (heap_new (w := w) (o := .cells #[.int .i64 f.ver, .slice A n c] 38) rfl))))
  have HY := Lib.hid (heap_old (o := .cells #[.int .i64 0, .slice none 0 0] 40) (heap_old (o := .cells #[.int .i64 k, .string x] 65) (heap_new (w := w.alloc (.cells #[.int .i64 f.ver, .slice A n c] 38)) (b := w.heap.size + 1) (o := .cells #[.int .i64 st, .slice B m d] 40) (by simp))))
  have HV := Lib.hid (heap_old (o := .cells #[.int .i64 0, .slice none 0 0] 40) (heap_new (w := (w.alloc (.cells #[.int .i64 f.ver, .slice A n c] 38)).alloc (.cells #[.int .i64 st, .slice B m d] 40)) (b := w.heap.size + 1 + 1) (o := .cells #[.int .i64 k, .string x] 65) (by simp)))
  have HZ := Lib.hid (heap_new (w := ((w.alloc (.cells #[.int .i64 f.ver, .slice A n c] 38)).alloc (.cells #[.int .i64 st, .slice B m d] 40)).alloc (.cells #[.int .i64 k, .string x] 65)) (b := w.heap.size + 1 + 1 + 1) (o := .cells #[.int .i64 0, .slice none 0 0] 40) (by simp))
  have HB := Lib.hid (((((Below.refl w.heap.size w).alloc (Nat.le_refl _) (.cells #[.int .i64 f.ver, .slice A n c] 38)).alloc (by simp) (.cells #[.int .i64 st, .slice B m d] 40)).alloc (by simp; omega) (.cells #[.int .i64 k, .string x] 65)).alloc (by simp; omega) (.cells #[.int .i64 0, .slice none 0 0] 40))
  have HR := Lib.hid ((((hr.alloc (.cells #[.int .i64 f.ver, .slice A n c] 38)).alloc (.cells #[.int .i64 st, .slice B m d] 40)).alloc (.cells #[.int .i64 k, .string x] 65)).alloc (.cells #[.int .i64 0, .slice none 0 0] 40)); clear hr
  have HD := Lib.hid ((((hd.alloc (.cells #[.int .i64 f.ver, .slice A n c] 38)).alloc (.cells #[.int .i64 st, .slice B m d] 40)).alloc (.cells #[.int .i64 k, .string x] 65)).alloc (.cells #[.int .i64 0, .slice none 0 0] 40)); clear hd
  go_enter Tryz.func47, Tryz.ntmps47
  by_cases h1 : k = 1
  · subst h1
    have HE := Lib.hid (ev_1 f st done x)
    go_wp2_with fail
    refine (doS_any _ _ _ _ _ _ f st done x _ _ _ HR.out hok HD.out hm hmd).mono ?_
    rintro e w2 ⟨B2, n2, d2, rfl, ho2, hb2⟩
    have HZ2 := Lib.hid ((hb2.block _ (heap_lt HZ.out)).trans HZ.out)
    have HB2 := Lib.hid (HB.out.trans (hb2.mono HB.out.size))
    clear hb2
    generalize doR f st done x = v at *
    have z0 := (blk_cl (k := 0) HZ2.out rfl).1
    have z0' := (blk_cl (k := 0) HZ2.out rfl).2
    have z1 := (blk_cl (k := 1) HZ2.out rfl).1
    have z1' := (blk_cl (k := 1) HZ2.out rfl).2
    go_wp2_with fail
    have hres := set21 (u := .slice B2 n2 d2) (set20 (u := .int .i64 v.1) HZ2.out)
    have e0 := (blk_cl (k := 0) hres rfl).1
    have e1 := (blk_cl (k := 1) hres rfl).1
    exact bodyPost_ret (v := .tuple #[.agg #[.int .i64 v.1, .slice B2 n2 d2], .bool (canB f st done x)]) (by simp [results, Tryz.results47, go_sem, e0, e1]) rfl ⟨_, _, _, by rw [HE.out.1, HE.out.2], by rw [HE.out.1]; exact row_mono (row_set (row_set ho2 HZ2.out (by decide)) (set20 HZ2.out) (by decide)) HB.out.size, (HB2.out.setCell (p := ⟨w.heap.size + 1 + 1 + 1, 0, none⟩) (by show w.heap.size ≤ w.heap.size + 1 + 1 + 1; omega) _).setCell (p := ⟨w.heap.size + 1 + 1 + 1, 1, none⟩) (by show w.heap.size ≤ w.heap.size + 1 + 1 + 1; omega) _⟩
  have g1 : (k == 1) = false := by rw [beq_eq_false_iff_ne]; exact h1
  by_cases h2 : k = 2
  · subst h2
    have HE := Lib.hid (ev_2 f st done x)
    go_wp2_with fail
    refine (failS_any _ _ _ _ _ _ f st done x _ _ _ HR.out hok HD.out hm hmd).mono ?_
    rintro e w2 ⟨B2, n2, d2, rfl, ho2, hb2⟩
    have HZ2 := Lib.hid ((hb2.block _ (heap_lt HZ.out)).trans HZ.out)
    have HB2 := Lib.hid (HB.out.trans (hb2.mono HB.out.size))
    clear hb2
    generalize failR f st done x = v at *
    have z0 := (blk_cl (k := 0) HZ2.out rfl).1
    have z0' := (blk_cl (k := 0) HZ2.out rfl).2
    have z1 := (blk_cl (k := 1) HZ2.out rfl).1
    have z1' := (blk_cl (k := 1) HZ2.out rfl).2
    go_wp2_with fail
    have hres := set21 (u := .slice B2 n2 d2) (set20 (u := .int .i64 v.1) HZ2.out)
    have e0 := (blk_cl (k := 0) hres rfl).1
    have e1 := (blk_cl (k := 1) hres rfl).1
    exact bodyPost_ret (v := .tuple #[.agg #[.int .i64 v.1, .slice B2 n2 d2], .bool (canB f st done x)]) (by simp [results, Tryz.results47, go_sem, e0, e1]) rfl ⟨_, _, _, by rw [HE.out.1, HE.out.2], by rw [HE.out.1]; exact row_mono (row_set (row_set ho2 HZ2.out (by decide)) (set20 HZ2.out) (by decide)) HB.out.size, (HB2.out.setCell (p := ⟨w.heap.size + 1 + 1 + 1, 0, none⟩) (by show w.heap.size ≤ w.heap.size + 1 + 1 + 1; omega) _).setCell (p := ⟨w.heap.size + 1 + 1 + 1, 1, none⟩) (by show w.heap.size ≤ w.heap.size + 1 + 1 + 1; omega) _⟩
  have g2 : (k == 2) = false := by rw [beq_eq_false_iff_ne]; exact h2
  by_cases h3 : k = 3
  · subst h3
    go_wp2_with fail
    refine (undoS_any _ _ _ _ _ _ f st done _ _ _ HR.out hok HD.out hm hmd).mono ?_
    rintro e w2 ⟨B2, n2, d2, rfl, ho2, hb2⟩
    have HZ2 := Lib.hid (heap_old (o := .cells #[.int .i64 (undoR f st done).1, .slice B2 n2 d2] 40) ((hb2.block _ (heap_lt HZ.out)).trans HZ.out))
    have HV2 := Lib.hid (heap_old (o := .cells #[.int .i64 (undoR f st done).1, .slice B2 n2 d2] 40) ((hb2.block _ (heap_lt HV.out)).trans HV.out))
    have HW2 := Lib.hid (heap_new (w := w2) (o := .cells #[.int .i64 (undoR f st done).1, .slice B2 n2 d2] 40) rfl)
    have HB2a := HB.out.trans (hb2.mono HB.out.size)
    have HB2 := Lib.hid (HB2a.alloc HB2a.size (.cells #[.int .i64 (undoR f st done).1, .slice B2 n2 d2] 40))
    have ho3 := ho2.alloc (.cells #[.int .i64 (undoR f st done).1, .slice B2 n2 d2] 40)
    have v1 := (blk_cl (k := 1) HV2.out rfl).1
    have p0 := (blk_cl (k := 0) HW2.out rfl).1
    have p1 := (blk_cl (k := 1) HW2.out rfl).1
    clear hb2 HB2a
    by_cases hu : undoB f st done = true
    · by_cases hx : undoN f st done = x
      · have HE := Lib.hid (ev_3 hu hx)
        have hs1 := seq_t hx
        have hs2 : ((undoN f st done).toList != x.toList) = false := by rw [hx]; simp
        rw [hu]
        clear hu hx
        generalize undoR f st done = v at *
        generalize undoN f st done = y at *
        have z0 := (blk_cl (k := 0) HZ2.out rfl).1
        have z0' := (blk_cl (k := 0) HZ2.out rfl).2
        have z1 := (blk_cl (k := 1) HZ2.out rfl).1
        have z1' := (blk_cl (k := 1) HZ2.out rfl).2
        go_wp2_with fail
        have hres := set21 (u := .slice B2 n2 d2) (set20 (u := .int .i64 v.1) HZ2.out)
        have e0 := (blk_cl (k := 0) hres rfl).1
        have e1 := (blk_cl (k := 1) hres rfl).1
        exact bodyPost_ret (v := .tuple #[.agg #[.int .i64 v.1, .slice B2 n2 d2], .bool true]) (by simp [results, Tryz.results47, go_sem, e0, e1]) rfl ⟨_, _, _, by rw [HE.out.1, HE.out.2], by rw [HE.out.1]; exact row_mono (row_set (row_set ho3 HZ2.out (by decide)) (set20 HZ2.out) (by decide)) HB.out.size, (HB2.out.setCell (p := ⟨w.heap.size + 1 + 1 + 1, 0, none⟩) (by show w.heap.size ≤ w.heap.size + 1 + 1 + 1; omega) _).setCell (p := ⟨w.heap.size + 1 + 1 + 1, 1, none⟩) (by show w.heap.size ≤ w.heap.size + 1 + 1 + 1; omega) _⟩
      · have HE := Lib.hid (ev_3n (f := f) (st := st) (done := done) (x := x) (.inr hx))
        have hs1 := seq_f hx
        have hs2 : ((undoN f st done).toList != x.toList) = true := by unfold bne; rw [hs1]; rfl
        rw [hu]
        clear hu hx
        generalize undoR f st done = v at *
        generalize undoN f st done = y at *
        have z0 := (blk_cl (k := 0) HZ2.out rfl).1
        have z0' := (blk_cl (k := 0) HZ2.out rfl).2
        have z1 := (blk_cl (k := 1) HZ2.out rfl).1
        have z1' := (blk_cl (k := 1) HZ2.out rfl).2
        go_wp2_with fail
        have hres := set21 (u := .slice none 0 0) (set20 (u := .int .i64 0) HZ2.out)
        have e0 := (blk_cl (k := 0) hres rfl).1
        have e1 := (blk_cl (k := 1) hres rfl).1
        exact bodyPost_ret (v := .tuple #[.agg #[.int .i64 0, .slice none 0 0], .bool false]) (by simp [results, Tryz.results47, go_sem, e0, e1]) rfl ⟨none, 0, 0, by rw [HE.out.1, HE.out.2], by rw [HE.out.1]; exact own_nil, (HB2.out.setCell (p := ⟨w.heap.size + 1 + 1 + 1, 0, none⟩) (by show w.heap.size ≤ w.heap.size + 1 + 1 + 1; omega) _).setCell (p := ⟨w.heap.size + 1 + 1 + 1, 1, none⟩) (by show w.heap.size ≤ w.heap.size + 1 + 1 + 1; omega) _⟩
    · rw [Bool.not_eq_true] at hu
      have HE := Lib.hid (ev_3n (f := f) (st := st) (done := done) (x := x) (.inl hu))
      rw [hu]
      clear hu
      generalize undoR f st done = v at *
      generalize undoN f st done = y at *
      have z0 := (blk_cl (k := 0) HZ2.out rfl).1
      have z0' := (blk_cl (k := 0) HZ2.out rfl).2
      have z1 := (blk_cl (k := 1) HZ2.out rfl).1
      have z1' := (blk_cl (k := 1) HZ2.out rfl).2
      go_wp2_with fail
      have hres := set21 (u := .slice none 0 0) (set20 (u := .int .i64 0) HZ2.out)
      have e0 := (blk_cl (k := 0) hres rfl).1
      have e1 := (blk_cl (k := 1) hres rfl).1
      exact bodyPost_ret (v := .tuple #[.agg #[.int .i64 0, .slice none 0 0], .bool false]) (by simp [results, Tryz.results47, go_sem, e0, e1]) rfl ⟨none, 0, 0, by rw [HE.out.1, HE.out.2], by rw [HE.out.1]; exact own_nil, (HB2.out.setCell (p := ⟨w.heap.size + 1 + 1 + 1, 0, none⟩) (by show w.heap.size ≤ w.heap.size + 1 + 1 + 1; omega) _).setCell (p := ⟨w.heap.size + 1 + 1 + 1, 1, none⟩) (by show w.heap.size ≤ w.heap.size + 1 + 1 + 1; omega) _⟩
  have g3 : (k == 3) = false := by rw [beq_eq_false_iff_ne]; exact h3
  have HE := Lib.hid (ev_no (f := f) (st := st) (done := done) (x := x) h1 h2 h3)
  clear h1 h2 h3
  go_wp2_with fail
  have e0 := (blk_cl (k := 0) HZ.out rfl).1
  have e1 := (blk_cl (k := 1) HZ.out rfl).1
  exact bodyPost_ret (v := .tuple #[.agg #[.int .i64 0, .slice none 0 0], .bool false]) (by simp [results, Tryz.results47, go_sem, e0, e1]) rfl ⟨none, 0, 0, by rw [HE.out.1, HE.out.2], by rw [HE.out.1]; exact own_nil, HB.out⟩

set_option maxRecDepth 100000 in
set_option maxHeartbeats 1000000 in
theorem evI_any (A B : Option Addr) (n c m d : Nat) (f : Flow) (st : Int) (done : List Str) (k : Int) (x : Str) (lo lo' : Nat) (w : World) (hr : RStep w lo A n f.steps) (hok : okSteps f.steps) (hd : RStr w lo' B m done) (hm : m ≤ 1048576) (hmd : m ≤ d) :
    Calls Tryz.prog 34 #[.agg #[.int .i64 f.ver, .slice A n c], .agg #[.int .i64 st, .slice B m d], .agg #[.int .i64 k, .string x]] w fun e w' => ∃ B' n' d', e = .returned (.tuple #[.agg #[.int .i64 (evR f st done k x).1, .slice B' n' d'], .bool (evB f st done k x)]) ∧
      w'.ownsRow w.heap.size 9 1 (.slice B' n' d') n' ((evR f st done k x).2.map Value.string) ∧ Below w.heap.size w w' := by
  have HX := Lib.hid (heap_old (o := .cells #[.int .i64 0, .slice none 0 0] 40) (heap_old (o := .cells #[.int .i64 k, .string x] 65) (heap_old (o := .cells #[.int .i64 st, .slice B m d] 40) (heap_new (w := w) (o := .cells #[.int .i64 f.ver, .slice A n c] 38) rfl))))
  have HY := Lib.hid (heap_old (o := .cells #[.int .i64 0, .slice none 0 0] 40) (heap_old (o := .cells #[.int .i64 k, .string x] 65) (heap_new (w := w.alloc (.cells #[.int .i64 f.ver, .slice A n c] 38)) (b := w.heap.size + 1) (o := .cells #[.int .i64 st, .slice B m d] 40) (by simp))))
  have HV := Lib.hid (heap_old (o := .cells #[.int .i64 0, .slice none 0 0] 40) (heap_new (w := (w.alloc (.cells #[.int .i64 f.ver, .slice A n c] 38)).alloc (.cells #[.int .i64 st, .slice B m d] 40)) (b := w.heap.size + 1 + 1) (o := .cells #[.int .i64 k, .string x] 65) (by simp)))
  have HZ := Lib.hid (heap_new (w := ((w.alloc (.cells #[.int .i64 f.ver, .slice A n c] 38)).alloc (.cells #[.int .i64 st, .slice B m d] 40)).alloc (.cells #[.int .i64 k, .string x] 65)) (b := w.heap.size + 1 + 1 + 1) (o := .cells #[.int .i64 0, .slice none 0 0] 40) (by simp))
  have HB := Lib.hid (((((Below.refl w.heap.size w).alloc (Nat.le_refl _) (.cells #[.int .i64 f.ver, .slice A n c] 38)).alloc (by simp) (.cells #[.int .i64 st, .slice B m d] 40)).alloc (by simp; omega) (.cells #[.int .i64 k, .string x] 65)).alloc (by simp; omega) (.cells #[.int .i64 0, .slice none 0 0] 40))
  have HR := Lib.hid ((((hr.alloc (.cells #[.int .i64 f.ver, .slice A n c] 38)).alloc (.cells #[.int .i64 st, .slice B m d] 40)).alloc (.cells #[.int .i64 k, .string x] 65)).alloc (.cells #[.int .i64 0, .slice none 0 0] 40)); clear hr
  have HD := Lib.hid ((((hd.alloc (.cells #[.int .i64 f.ver, .slice A n c] 38)).alloc (.cells #[.int .i64 st, .slice B m d] 40)).alloc (.cells #[.int .i64 k, .string x] 65)).alloc (.cells #[.int .i64 0, .slice none 0 0] 40)); clear hd
  go_enter Tryz.func34, Tryz.ntmps34
  by_cases h1 : k = 1
  · subst h1
    have HE := Lib.hid (ev_1 f st done x)
    go_wp2_with fail
    refine (doI_any _ _ _ _ _ _ f st done x _ _ _ HR.out hok HD.out hm hmd).mono ?_
    rintro e w2 ⟨B2, n2, d2, rfl, ho2, hb2⟩
    have HZ2 := Lib.hid ((hb2.block _ (heap_lt HZ.out)).trans HZ.out)
    have HB2 := Lib.hid (HB.out.trans (hb2.mono HB.out.size))
    clear hb2
    generalize doR f st done x = v at *
    have z0 := (blk_cl (k := 0) HZ2.out rfl).1
    have z0' := (blk_cl (k := 0) HZ2.out rfl).2
    have z1 := (blk_cl (k := 1) HZ2.out rfl).1
    have z1' := (blk_cl (k := 1) HZ2.out rfl).2
    go_wp2_with fail
    have hres := set21 (u := .slice B2 n2 d2) (set20 (u := .int .i64 v.1) HZ2.out)
    have e0 := (blk_cl (k := 0) hres rfl).1
    have e1 := (blk_cl (k := 1) hres rfl).1
    exact bodyPost_ret (v := .tuple #[.agg #[.int .i64 v.1, .slice B2 n2 d2], .bool (canB f st done x)]) (by simp [results, Tryz.results34, go_sem, e0, e1]) rfl ⟨_, _, _, by rw [HE.out.1, HE.out.2], by rw [HE.out.1]; exact row_mono (row_set (row_set ho2 HZ2.out (by decide)) (set20 HZ2.out) (by decide)) HB.out.size, (HB2.out.setCell (p := ⟨w.heap.size + 1 + 1 + 1, 0, none⟩) (by show w.heap.size ≤ w.heap.size + 1 + 1 + 1; omega) _).setCell (p := ⟨w.heap.size + 1 + 1 + 1, 1, none⟩) (by show w.heap.size ≤ w.heap.size + 1 + 1 + 1; omega) _⟩
  have g1 : (k == 1) = false := by rw [beq_eq_false_iff_ne]; exact h1
  by_cases h2 : k = 2
  · subst h2
    have HE := Lib.hid (ev_2 f st done x)
    go_wp2_with fail
    refine (failI_any _ _ _ _ _ _ f st done x _ _ _ HR.out hok HD.out hm hmd).mono ?_
    rintro e w2 ⟨B2, n2, d2, rfl, ho2, hb2⟩
    have HZ2 := Lib.hid ((hb2.block _ (heap_lt HZ.out)).trans HZ.out)
    have HB2 := Lib.hid (HB.out.trans (hb2.mono HB.out.size))
    clear hb2
    generalize failR f st done x = v at *
    have z0 := (blk_cl (k := 0) HZ2.out rfl).1
    have z0' := (blk_cl (k := 0) HZ2.out rfl).2
    have z1 := (blk_cl (k := 1) HZ2.out rfl).1
    have z1' := (blk_cl (k := 1) HZ2.out rfl).2
    go_wp2_with fail
    have hres := set21 (u := .slice B2 n2 d2) (set20 (u := .int .i64 v.1) HZ2.out)
    have e0 := (blk_cl (k := 0) hres rfl).1
    have e1 := (blk_cl (k := 1) hres rfl).1
    exact bodyPost_ret (v := .tuple #[.agg #[.int .i64 v.1, .slice B2 n2 d2], .bool (canB f st done x)]) (by simp [results, Tryz.results34, go_sem, e0, e1]) rfl ⟨_, _, _, by rw [HE.out.1, HE.out.2], by rw [HE.out.1]; exact row_mono (row_set (row_set ho2 HZ2.out (by decide)) (set20 HZ2.out) (by decide)) HB.out.size, (HB2.out.setCell (p := ⟨w.heap.size + 1 + 1 + 1, 0, none⟩) (by show w.heap.size ≤ w.heap.size + 1 + 1 + 1; omega) _).setCell (p := ⟨w.heap.size + 1 + 1 + 1, 1, none⟩) (by show w.heap.size ≤ w.heap.size + 1 + 1 + 1; omega) _⟩
  have g2 : (k == 2) = false := by rw [beq_eq_false_iff_ne]; exact h2
  by_cases h3 : k = 3
  · subst h3
    go_wp2_with fail
    refine (undoI_any _ _ _ _ _ _ f st done _ _ _ HR.out hok HD.out hm hmd).mono ?_
    rintro e w2 ⟨B2, n2, d2, rfl, ho2, hb2⟩
    have HZ2 := Lib.hid (heap_old (o := .cells #[.int .i64 (undoR f st done).1, .slice B2 n2 d2] 40) ((hb2.block _ (heap_lt HZ.out)).trans HZ.out))
    have HV2 := Lib.hid (heap_old (o := .cells #[.int .i64 (undoR f st done).1, .slice B2 n2 d2] 40) ((hb2.block _ (heap_lt HV.out)).trans HV.out))
    have HW2 := Lib.hid (heap_new (w := w2) (o := .cells #[.int .i64 (undoR f st done).1, .slice B2 n2 d2] 40) rfl)
    have HB2a := HB.out.trans (hb2.mono HB.out.size)
    have HB2 := Lib.hid (HB2a.alloc HB2a.size (.cells #[.int .i64 (undoR f st done).1, .slice B2 n2 d2] 40))
    have ho3 := ho2.alloc (.cells #[.int .i64 (undoR f st done).1, .slice B2 n2 d2] 40)
    have v1 := (blk_cl (k := 1) HV2.out rfl).1
    have p0 := (blk_cl (k := 0) HW2.out rfl).1
    have p1 := (blk_cl (k := 1) HW2.out rfl).1
    clear hb2 HB2a
    by_cases hu : undoB f st done = true
    · by_cases hx : undoN f st done = x
      · have HE := Lib.hid (ev_3 hu hx)
        have hs1 := seq_t hx
        have hs2 : ((undoN f st done).toList != x.toList) = false := by rw [hx]; simp
        rw [hu]
        clear hu hx
        generalize undoR f st done = v at *
        generalize undoN f st done = y at *
        have z0 := (blk_cl (k := 0) HZ2.out rfl).1
        have z0' := (blk_cl (k := 0) HZ2.out rfl).2
        have z1 := (blk_cl (k := 1) HZ2.out rfl).1
        have z1' := (blk_cl (k := 1) HZ2.out rfl).2
        go_wp2_with fail
        have hres := set21 (u := .slice B2 n2 d2) (set20 (u := .int .i64 v.1) HZ2.out)
        have e0 := (blk_cl (k := 0) hres rfl).1
        have e1 := (blk_cl (k := 1) hres rfl).1
        exact bodyPost_ret (v := .tuple #[.agg #[.int .i64 v.1, .slice B2 n2 d2], .bool true]) (by simp [results, Tryz.results34, go_sem, e0, e1]) rfl ⟨_, _, _, by rw [HE.out.1, HE.out.2], by rw [HE.out.1]; exact row_mono (row_set (row_set ho3 HZ2.out (by decide)) (set20 HZ2.out) (by decide)) HB.out.size, (HB2.out.setCell (p := ⟨w.heap.size + 1 + 1 + 1, 0, none⟩) (by show w.heap.size ≤ w.heap.size + 1 + 1 + 1; omega) _).setCell (p := ⟨w.heap.size + 1 + 1 + 1, 1, none⟩) (by show w.heap.size ≤ w.heap.size + 1 + 1 + 1; omega) _⟩
      · have HE := Lib.hid (ev_3n (f := f) (st := st) (done := done) (x := x) (.inr hx))
        have hs1 := seq_f hx
        have hs2 : ((undoN f st done).toList != x.toList) = true := by unfold bne; rw [hs1]; rfl
        rw [hu]
        clear hu hx
        generalize undoR f st done = v at *
        generalize undoN f st done = y at *
        have z0 := (blk_cl (k := 0) HZ2.out rfl).1
        have z0' := (blk_cl (k := 0) HZ2.out rfl).2
        have z1 := (blk_cl (k := 1) HZ2.out rfl).1
        have z1' := (blk_cl (k := 1) HZ2.out rfl).2
        go_wp2_with fail
        have hres := set21 (u := .slice none 0 0) (set20 (u := .int .i64 0) HZ2.out)
        have e0 := (blk_cl (k := 0) hres rfl).1
        have e1 := (blk_cl (k := 1) hres rfl).1
        exact bodyPost_ret (v := .tuple #[.agg #[.int .i64 0, .slice none 0 0], .bool false]) (by simp [results, Tryz.results34, go_sem, e0, e1]) rfl ⟨none, 0, 0, by rw [HE.out.1, HE.out.2], by rw [HE.out.1]; exact own_nil, (HB2.out.setCell (p := ⟨w.heap.size + 1 + 1 + 1, 0, none⟩) (by show w.heap.size ≤ w.heap.size + 1 + 1 + 1; omega) _).setCell (p := ⟨w.heap.size + 1 + 1 + 1, 1, none⟩) (by show w.heap.size ≤ w.heap.size + 1 + 1 + 1; omega) _⟩
    · rw [Bool.not_eq_true] at hu
      have HE := Lib.hid (ev_3n (f := f) (st := st) (done := done) (x := x) (.inl hu))
      rw [hu]
      clear hu
      generalize undoR f st done = v at *
      generalize undoN f st done = y at *
      have z0 := (blk_cl (k := 0) HZ2.out rfl).1
      have z0' := (blk_cl (k := 0) HZ2.out rfl).2
      have z1 := (blk_cl (k := 1) HZ2.out rfl).1
      have z1' := (blk_cl (k := 1) HZ2.out rfl).2
      go_wp2_with fail
      have hres := set21 (u := .slice none 0 0) (set20 (u := .int .i64 0) HZ2.out)
      have e0 := (blk_cl (k := 0) hres rfl).1
      have e1 := (blk_cl (k := 1) hres rfl).1
      exact bodyPost_ret (v := .tuple #[.agg #[.int .i64 0, .slice none 0 0], .bool false]) (by simp [results, Tryz.results34, go_sem, e0, e1]) rfl ⟨none, 0, 0, by rw [HE.out.1, HE.out.2], by rw [HE.out.1]; exact own_nil, (HB2.out.setCell (p := ⟨w.heap.size + 1 + 1 + 1, 0, none⟩) (by show w.heap.size ≤ w.heap.size + 1 + 1 + 1; omega) _).setCell (p := ⟨w.heap.size + 1 + 1 + 1, 1, none⟩) (by show w.heap.size ≤ w.heap.size + 1 + 1 + 1; omega) _⟩
  have g3 : (k == 3) = false := by rw [beq_eq_false_iff_ne]; exact h3
  have HE := Lib.hid (ev_no (f := f) (st := st) (done := done) (x := x) h1 h2 h3)
  clear h1 h2 h3
  go_wp2_with fail
  have e0 := (blk_cl (k := 0) HZ.out rfl).1
  have e1 := (blk_cl (k := 1) HZ.out rfl).1
  exact bodyPost_ret (v := .tuple #[.agg #[.int .i64 0, .slice none 0 0], .bool false]) (by simp [results, Tryz.results34, go_sem, e0, e1]) rfl ⟨none, 0, 0, by rw [HE.out.1, HE.out.2], by rw [HE.out.1]; exact own_nil, HB.out⟩

end Go.Proofs.YthdfefgianokgaaGreatDoor

/- Events leave runs valid. No program in sight. -/
namespace Go.Proofs.YthdfefgianokgaaGreatDoor

theorem can_zero {f : Flow} {st : Int} {done : List Str} {x : Str} (h : canB f st done x = true) : st = 0 := by
  unfold canB at h
  simp only [Bool.and_eq_true, decide_eq_true_eq] at h
  exact h.2.1
theorem run_did {f : Flow} {st : Int} {done : List Str} {x : Str} (h : canB f st done x = true) : runB f (forthI (done.length + 1) f.steps.length) (done ++ [x]) = true := by
  have h1 := can_ord h
  have h2 := ord_len h1
  have h3 : (done ++ [x]).length = done.length + 1 := by simp
  rw [h3] at h2
  unfold runB
  rw [run_flow (can_run h), h1, h3]
  unfold forthI
  by_cases e : done.length + 1 = f.steps.length
  · rw [if_pos e]; simp [e]
  · rw [if_neg e]; simp; omega
theorem back_run {f : Flow} {done : List Str} (hf : flowB f = true) (ho : ordB f.steps done = true) (hl : done.length < f.steps.length) : runB f (backI f.steps done done.length) done = true := by
  have hle := leftN_le f.steps done done.length
  rw [back_eq]
  unfold runB
  rw [hf, ho]
  by_cases h : leftN f.steps done done.length = done.length
  · rw [if_pos h]; simp [hl, h]
  · rw [if_neg h]; simp [hl]; omega
theorem run_short {f : Flow} {st : Int} {done : List Str} (h : runB f st done = true) (hs : st = 0 ∨ st = 1) : done.length < f.steps.length := by
  unfold runB at h
  rcases hs with rfl | rfl <;> simp at h <;> omega
theorem run_ev {f : Flow} {st : Int} {done : List Str} {k : Int} {x : Str} (h : evB f st done k x = true) : runB f (evR f st done k x).1 (evR f st done k x).2 = true := by
  by_cases h1 : k = 1
  · subst h1
    rw [(ev_1 f st done x).2] at h
    rw [(ev_1 f st done x).1, doR_yes h]
    exact run_did h
  by_cases h2 : k = 2
  · subst h2
    rw [(ev_2 f st done x).2] at h
    rw [(ev_2 f st done x).1, failR_yes h]
    exact back_run (run_flow (can_run h)) (run_ord (can_run h)) (run_short (can_run h) (.inl (can_zero h)))
  by_cases h3 : k = 3
  · subst h3
    by_cases hu : undoB f st done = true ∧ undoN f st done = x
    · rw [(ev_3 hu.1 hu.2).1]
      obtain ⟨hr, hs, j, hj⟩ := undo_run hu.1
      rw [(undo_yes hu.1 hj).1]
      have hl := run_short hr (.inr hs)
      have ht : (done.take j).length = j := by rw [List.length_take]; omega
      have := back_run (run_flow hr) (ord_take (run_ord hr) j) (by rw [ht]; omega)
      rw [ht] at this
      exact this
    · have hn : undoB f st done = false ∨ undoN f st done ≠ x := by
        by_cases hb : undoB f st done = true
        · exact .inr fun e => hu ⟨hb, e⟩
        · exact .inl (by simpa using hb)
      rw [(ev_3n hn).2] at h
      cases h
  · rw [(ev_no h1 h2 h3).2] at h
    cases h
end Go.Proofs.YthdfefgianokgaaGreatDoor

/- Runs as those of another flow. No program in sight. -/
namespace Go.Proofs.YthdfefgianokgaaGreatDoor

/-- A run is one of another flow. -/
def fitB (f g : Flow) (st : Int) (done : List Str) : Bool := runB f st done && (flowB g && (ordB g.steps done && (decide (st = 0) || decide (st = 2) || !decide (done.length = g.steps.length))))
def fitR (f g : Flow) (st : Int) (done : List Str) : Int × List Str := if fitB f g st done = true then ((if st = 0 ∨ st = 2 then forthI done.length g.steps.length else backI g.steps done done.length), done) else (0, [])
theorem fitR_no {f g : Flow} {st : Int} {done : List Str} (h : fitB f g st done = false) : fitR f g st done = (0, []) := by unfold fitR; rw [if_neg (by rw [h]; simp)]
theorem fitR_yes {f g : Flow} {st : Int} {done : List Str} (h : fitB f g st done = true) : fitR f g st done = ((if st = 0 ∨ st = 2 then forthI done.length g.steps.length else backI g.steps done done.length), done) := if_pos h
theorem fit_parts {f g : Flow} {st : Int} {done : List Str} (h : fitB f g st done = true) : runB f st done = true ∧ flowB g = true ∧ ordB g.steps done = true ∧ (st = 0 ∨ st = 2 ∨ done.length ≠ g.steps.length) := by
  unfold fitB at h
  simp only [Bool.and_eq_true, Bool.or_eq_true, decide_eq_true_eq, Bool.not_eq_true', decide_eq_false_iff_not] at h
  obtain ⟨h1, h2, h3, h4⟩ := h
  refine ⟨h1, h2, h3, ?_⟩
  rcases h4 with (h4 | h4) | h4
  · exact .inl h4
  · exact .inr (.inl h4)
  · exact .inr (.inr h4)
theorem fit_run {f g : Flow} {st : Int} {done : List Str} (h : fitB f g st done = true) : runB g (fitR f g st done).1 (fitR f g st done).2 = true := by
  obtain ⟨h1, h2, h3, h4⟩ := fit_parts h
  have hl := ord_len h3
  rw [fitR_yes h]
  by_cases hs : st = 0 ∨ st = 2
  · rw [if_pos hs]
    show runB g (forthI done.length g.steps.length) done = true
    unfold runB forthI
    rw [h2, h3]
    by_cases e : done.length = g.steps.length
    · rw [if_pos e]; simp [e]
    · rw [if_neg e]; simp; omega
  · rw [if_neg hs]
    exact back_run h2 h3 (by omega)
end Go.Proofs.YthdfefgianokgaaGreatDoor
