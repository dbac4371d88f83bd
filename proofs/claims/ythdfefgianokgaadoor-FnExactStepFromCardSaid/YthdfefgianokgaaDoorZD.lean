/- Contracts of functions and plain lemmas, joined. No condition but those that each states. -/
import Derived.Test.YthdfefgianokgaaDoorZB
import Derived.Test.YthdfefgianokgaaDoorZA

/- Comparing steps; FnStepText: the walk. -/
namespace Go.Proofs.YthdfefgianokgaaDoor
open Go.RowKit

theorem eqBs_same (xs : List Str) : eqB xs xs = true := eqB_all rfl fun _ _ => rfl

set_option maxRecDepth 100000 in
theorem sameStep_same (A B : Option Addr) (n c d : Nat) (s : Step) (lo lo' : Nat) (w : World) (hr : RStr w lo A n s.after) (hn : n ≤ 1048576) (hr' : RStr w lo' B n s.after) :
    Calls Tryd.prog 14 #[.agg #[.string s.name, .slice A n c, .bool s.undo], .agg #[.string s.name, .slice B n d, .bool s.undo]] w fun e w' => e = .returned (.bool true) ∧ Below w.heap.size w w' := by
  have HR := Lib.hid ((hr.alloc (.cells #[.string s.name, .slice A n c, .bool s.undo] 25)).alloc (.cells #[.string s.name, .slice B n d, .bool s.undo] 25)); clear hr
  have HS := Lib.hid ((hr'.alloc (.cells #[.string s.name, .slice A n c, .bool s.undo] 25)).alloc (.cells #[.string s.name, .slice B n d, .bool s.undo] 25)); clear hr'
  have HB := Lib.hid (((Below.refl w.heap.size w).alloc (Nat.le_refl _) (.cells #[.string s.name, .slice A n c, .bool s.undo] 25)).alloc (by simp) (.cells #[.string s.name, .slice B n d, .bool s.undo] 25))
  have HX := Lib.hid (heap_old (o := .cells #[.string s.name, .slice B n d, .bool s.undo] 25) (heap_new (w := w) (o := .cells #[.string s.name, .slice A n c, .bool s.undo] 25) rfl))
  have HY := Lib.hid (heap_new (w := w.alloc (.cells #[.string s.name, .slice A n c, .bool s.undo] 25)) (b := w.heap.size + 1) (o := .cells #[.string s.name, .slice B n d, .bool s.undo] 25) (by simp))
  have x0 := (blk_cl (k := 0) HX.out rfl).1
  have x1 := (blk_cl (k := 1) HX.out rfl).1
  have x2 := (blk_cl (k := 2) HX.out rfl).1
  have y0 := (blk_cl (k := 0) HY.out rfl).1
  have y1 := (blk_cl (k := 1) HY.out rfl).1
  have y2 := (blk_cl (k := 2) HY.out rfl).1
  have hq : (s.name.toList == s.name.toList) = true := beq_self_eq_true _
  have hu : (s.undo == s.undo) = true := beq_self_eq_true _
  go_enter Tryd.func14, Tryd.ntmps14
  go_wp2_with (go_at_call 35; refine (sameTexts_any _ _ _ _ _ _ s.after s.after _ _ _ HR.out hn HS.out hn).mono ?_; rintro e w' ⟨rfl, q, rfl⟩; rw [eqBs_same])
  go_ret
  exact ⟨rfl, below_drewN HB.out _⟩

theorem stepS_small {s : Step} (h : stepB s = true) : (stepS s).size ≤ 100 ∧ 0 < (stepS s).size := by
  obtain ⟨k, b, hm⟩ := mark_ex h
  exact ⟨hm.small, by have := hm.last.1; omega⟩
theorem ne_empty {y : Str} (h : 0 < y.size) : (y.toList == ([] : List UInt8)) = false := by
  rw [beq_eq_false_iff_ne]
  intro e
  have e2 : y.toList.length = y.size := by rw [ByteArray.toList_eq]; rfl
  rw [e] at e2
  simp at e2
  omega

set_option maxRecDepth 100000 in
set_option maxHeartbeats 1000000 in
theorem fnStepText_any (A : Option Addr) (n c : Nat) (w : World) (hr : RByte w A n) (hc : n ≤ c) (hm : HasMax w) :
    Calls Tryd.prog 3 #[.slice A n c] w fun e w' => e = .returned (.bool true) ∧ Below w.heap.size w w' := by
  have HR := Lib.hid hr; clear hr
  have HM := Lib.hid hm; clear hm
  by_cases hn : 1048576 < n
  · go_enter Tryd.func3, Tryd.ntmps3
    go_wp2_with fail
    go_ret
    exact ⟨rfl, Below.refl _ _⟩
  go_enter Tryd.func3, Tryd.ntmps3
  go_wp2_with fail
  refine (drawStepText_any _ _ _ _ HR.out hc (by omega)).mono ?_
  rintro e w1 ⟨s, A1, n1, c1, rfl, hs, hok, h6, hnc, hb1⟩
  have HS := Lib.hid (hs.alloc (.cells #[.string s.name, .slice A1 n1 c1, .bool s.undo] 25)); clear hs
  have HOK := Lib.hid hok; clear hok
  have HB1 := Lib.hid (hb1.alloc hb1.size (.cells #[.string s.name, .slice A1 n1 c1, .bool s.undo] 25)); clear hb1
  have HX := Lib.hid (heap_new (w := w1) (o := .cells #[.string s.name, .slice A1 n1 c1, .bool s.undo] 25) rfl)
  go_wp2_with fail
  refine (stepTextI_any _ _ _ s _ _ HS.out HOK.out hnc).mono ?_
  rintro e w2 ⟨rfl, hb2⟩
  have HX2 := Lib.hid ((hb2.block w1.heap.size (by simp)).trans HX.out)
  have HB2 := Lib.hid (HB1.out.trans (hb2.mono HB1.out.size))
  have HS2 := Lib.hid (HS.out.below hb2)
  clear hb2 HS
  have a0 := (blk_cl (k := 0) HX2.out rfl).1
  have a1 := (blk_cl (k := 1) HX2.out rfl).1
  have a2 := (blk_cl (k := 2) HX2.out rfl).1
  go_wp2_with fail
  refine (stepTextS_any _ _ _ s _ _ HS2.out HOK.out).mono ?_
  rintro e w3 ⟨rfl, hb3⟩
  have HX3 := Lib.hid ((hb3.block w1.heap.size (heap_lt HX2.out)).trans HX2.out)
  have HB3 := Lib.hid (HB2.out.trans (hb3.mono HB2.out.size))
  have HS3 := Lib.hid (HS2.out.below hb3)
  clear hb3 HS2 a0 a1 a2 HX2 HX
  cases h : stepB s
  · have hy : textS s = ⟨#[]⟩ := by unfold textS; rw [if_neg (by rw [h]; simp)]
    rw [hy]
    clear hy h
    go_wp2_with fail
    go_ret
    exact ⟨rfl, HB3.out⟩
  · have hy : textS s = stepS s := by unfold textS; rw [if_pos h]
    obtain ⟨hsm, hs0⟩ := stepS_small h
    have hF := from_yes h (rfl : stepS s = stepS s)
    have HF := Lib.hid hF
    rw [hy]
    have q0 : ((stepS s).toList != (stepS s).toList) = false := by simp
    have q1 := ne_empty hs0
    have q2 : ((stepS s).toList == (stepS s).toList) = true := by simp
    clear hy h hF
    go_wp2_with fail
    refine (stepFromI_any (stepS s) _ (by omega) (HM.out.below HB3.out rfl)).mono ?_
    rintro e w4 ⟨A4, n4, c4, rfl, hs4, _, hb4⟩
    rw [HF.out.1, HF.out.2] at *
    obtain rfl : n4 = n1 := by have := hs4.1; have := HS3.out.1; omega
    have hn4 : n4 ≤ 6 := h6
    have HS4 := Lib.hid (hs4.hat.alloc (.cells #[.string s.name, .slice A4 n4 c4, .bool s.undo] 25))
    have HX4 := Lib.hid (heap_old (o := .cells #[.string s.name, .slice A4 n4 c4, .bool s.undo] 25) ((hb4.block w1.heap.size (heap_lt HX3.out)).trans HX3.out))
    have HS5 := Lib.hid ((HS3.out.below hb4).alloc (.cells #[.string s.name, .slice A4 n4 c4, .bool s.undo] 25))
    have HB4' := Lib.hid (HB3.out.trans (hb4.mono HB3.out.size))
    have HB4 := Lib.hid (HB4'.out.alloc HB4'.out.size (.cells #[.string s.name, .slice A4 n4 c4, .bool s.undo] 25))
    have HY4 := Lib.hid (heap_new (w := w4) (o := .cells #[.string s.name, .slice A4 n4 c4, .bool s.undo] 25) rfl)
    clear hb4 hs4 HS3 HX3 HB3 HB4'
    have x0 := (blk_cl (k := 0) HX4.out rfl).1
    have x1 := (blk_cl (k := 1) HX4.out rfl).1
    have x2 := (blk_cl (k := 2) HX4.out rfl).1
    have y0 := (blk_cl (k := 0) HY4.out rfl).1
    have y1 := (blk_cl (k := 1) HY4.out rfl).1
    have y2 := (blk_cl (k := 2) HY4.out rfl).1
    go_wp2_with (go_at_call 14; refine (sameStep_same _ _ _ _ _ s _ _ _ HS4.out (by omega) HS5.out).mono ?_; rintro e w5 ⟨rfl, hb5⟩)
    go_ret
    exact ⟨rfl, HB4.out.trans (hb5.mono HB4.out.size)⟩
end Go.Proofs.YthdfefgianokgaaDoor

/- The reference's cut. -/
namespace Go.Proofs.YthdfefgianokgaaDoor
open Go.RowKit

def prep (p : Bytes) : List Bytes → List Bytes
  | [] => [p]
  | h :: t => (p ++ h) :: t
theorem prep_nil {l : List Bytes} (h : l ≠ []) : prep [] l = l := by
  cases l with
  | nil => exact absurd rfl h
  | cons x t => rfl
def CutInv (b : UInt8) (q : Bytes) (out : List Str) (p k : Nat) : Prop := out.map bs ++ prep ((q.drop p).take (k - p)) (cutW b (q.drop k)) = cutW b q
theorem cinv_start (b : UInt8) (q : Bytes) : CutInv b q [] 0 0 := by
  unfold CutInv
  simp [prep_nil (cutW_ne b q)]
theorem cinv_hit {b : UInt8} {q : Bytes} {out : List Str} {p k : Nat} (h : CutInv b q out p k) (hk : k < q.length) (e : q[k] = b) : CutInv b q (out ++ [ofBs ((q.drop p).take (k - p))]) (k + 1) (k + 1) := by
  unfold CutInv at h ⊢
  rw [List.drop_eq_getElem_cons hk, cutW, if_pos e] at h
  rw [← h, List.map_append, Nat.sub_self, List.take_zero, prep_nil (cutW_ne b _)]
  simp [prep, bs_of]
theorem cinv_miss {b : UInt8} {q : Bytes} {out : List Str} {p k : Nat} (h : CutInv b q out p k) (hk : k < q.length) (e : q[k] ≠ b) (hp : p ≤ k) : CutInv b q out p (k + 1) := by
  unfold CutInv at h ⊢
  have e2 : (q.drop p).take (k + 1 - p) = (q.drop p).take (k - p) ++ [q[k]] := by
    rw [show k + 1 - p = (k - p) + 1 by omega, List.take_succ_eq_append_getElem (by rw [List.length_drop]; omega), List.getElem_drop]
    simp [show p + (k - p) = k by omega]
  rw [List.drop_eq_getElem_cons hk, cutW, if_neg e] at h
  rw [← h, e2]
  cases hx : cutW b (q.drop (k + 1)) with
  | nil => exact absurd hx (cutW_ne b _)
  | cons y t => simp [prep]
theorem cinv_end {b : UInt8} {q : Bytes} {out : List Str} {p k : Nat} (h : CutInv b q out p k) (hk : k = q.length) : (out ++ [ofBs (q.drop p)]) = (cutW b q).map ofBs := by
  unfold CutInv at h
  subst hk
  have e : (q.drop p).take (q.length - p) = q.drop p := List.take_of_length_le (by rw [List.length_drop]; omega)
  rw [e, List.drop_length] at h
  rw [← h]
  have e2 : (ofBs ∘ bs) = id := by funext x; exact of_bs x
  rw [List.map_append, List.map_map, e2, List.map_id]
  simp [prep, cutW]
theorem bs_extract (s : Str) (a b : Nat) : s.extract a b = ofBs (((bs s).drop a).take (b - a)) := by
  have h := Lib.extract_data s a b
  have h2 := of_bs (s.extract a b)
  rw [← h2]
  exact congrArg ofBs h

set_option maxRecDepth 100000 in
theorem l41Cut_any (s : Str) (b : UInt8) (w : World) (hs : s.size ≤ 1048576) :
    Calls Tryd.prog 36 #[.string s, .int .u8 b.toNat] w fun e w' => ∃ A c, e = .returned (.slice A (cutW b (bs s)).length c) ∧ SStr w' w.heap.size A (cutW b (bs s)).length ((cutW b (bs s)).map ofBs) ∧ Below w.heap.size w w' := by
  have hlen : (bs s).length = s.size := bs_len s
  go_enter Tryd.func36, Tryd.ntmps36
  go_wp2_with fail
  go_loopw [5, 6, 7] (fun v fr i wr => ∃ (m k p : Nat) (out : List Str), k ≤ s.size ∧ p ≤ k ∧ m ≤ k ∧ fr = .int .i64 p ∧ i = .int .i64 k ∧ Own 9 1 w wr v m (out.map Value.string) ∧ CutInv b (bs s) out p k) (fun _ _ i _ => s.size - (intOf i).toNat)
  case atStart => exact ⟨0, 0, 0, [], Nat.zero_le _, Nat.le_refl _, Nat.le_refl _, rfl, rfl, ⟨World.ownsRow_made _ _ _ (Nat.le_refl _) (by unfold maxLen; omega) rfl, (Below.refl _ _).alloc (Nat.le_refl _) _⟩, cinv_start _ _⟩
  case round =>
    obtain ⟨m, k, p, out, hk, hp, hm, rfl, rfl, how, hi⟩ := hrel
    have HW := Lib.hid how; clear how
    have HI := Lib.hid hi; clear hi
    by_cases hlt : k < s.size
    · have hkb : k < (bs s).length := by omega
      obtain ⟨x, hx⟩ : ∃ x, s[k]'hlt = x := ⟨_, rfl⟩
      have hxb : (bs s)[k]'hkb = x := hx
      by_cases he : x = b
      · have hq : ((x.toNat : Int) == (b.toNat : Int)) = true := by rw [he]; simp
        have HI2 := Lib.hid (cinv_hit HI.out hkb (hxb.trans he))
        clear he hxb
        go_wp2_with (at_builtin; refine app_str w _ m out _ (s.extract p k) ?c0 rfl (.tmp 20) (.tmp 25) rfl rfl rfl ?c1 (by omega) ?_)
        case c0 => exact HW.out.alloc _
        case c1 => exact heap_new rfl
        intro v' w' how' hg'
        go_wp2_with fail
        go_roundw
        case rel => exact ⟨m + 1, k + 1, k + 1, out ++ [s.extract p k], by omega, by omega, by omega, by go_num, by go_num, by rw [List.map_append]; exact how', by rw [bs_extract]; exact HI2.out⟩
        case measure => simp [intOf]; omega
      · have hq : ((x.toNat : Int) == (b.toNat : Int)) = false := by
          rw [beq_eq_false_iff_ne]
          intro e
          exact he (UInt8.toNat_inj.1 (by omega))
        have HI2 := Lib.hid (cinv_miss HI.out hkb (fun e => he (hxb.symm.trans e)) hp)
        clear he hxb
        go_wp2_with fail
        go_roundw
        case rel => exact ⟨m, k + 1, p, out, by omega, by omega, by omega, rfl, by go_num, HW.out, HI2.out⟩
        case measure => simp [intOf]; omega
    · have HE := Lib.hid (cinv_end HI.out (by omega : k = (bs s).length))
      go_wp2_with (at_builtin; refine app_str w _ m out _ (s.extract p s.size) ?c0 rfl (.tmp 29) (.tmp 33) rfl rfl rfl ?c1 (by omega) ?_)
      case c0 => exact HW.out.alloc _
      case c1 => exact heap_new rfl
      intro v' w' how' hg'
      have hfin : out ++ [s.extract p s.size] = (cutW b (bs s)).map ofBs := by
        rw [← HE.out, bs_extract, List.take_of_length_le (by rw [List.length_drop]; omega)]
      go_wp2_with fail
      go_ret
      have how2 : Own 9 1 w w' v' (m + 1) ((out ++ [s.extract p s.size]).map Value.string) := by rw [List.map_append]; exact how'
      rw [hfin] at how2
      obtain ⟨A', c', rfl, hrs⟩ := own_sstr how2.row
      have hlm : m + 1 = (cutW b (bs s)).length := by have := hrs.1; rw [List.length_map] at this; exact this.symm
      rw [hlm] at hrs ⊢
      exact ⟨_, _, rfl, hrs, how2.below⟩
end Go.Proofs.YthdfefgianokgaaDoor

/- The reference's StepFrom. -/
namespace Go.Proofs.YthdfefgianokgaaDoor
open Go.RowKit

theorem bs_pos {s : Str} (h : 0 < s.size) : (bs s).getLast? = some (s[s.size - 1]'(by omega)) := by
  have hl : (bs s).length = s.size := bs_len s
  rw [List.getLast?_eq_getElem?, List.getElem?_eq_getElem (by omega)]
  have e : (bs s)[(bs s).length - 1]'(by omega) = (bs s)[s.size - 1]'(by omega) := by simp only [hl]
  rw [e]
  rfl
theorem rest_yes {s : Str} (h : (bs s).getLast? = some 33) : 0 < s.size ∧ s.extract 0 (s.size - 1) = ofBs (restL s) ∧ undoL s = false := by
  have hl : (bs s).length = s.size := bs_len s
  have hne : bs s ≠ [] := by intro e; rw [e] at h; cases h
  have h0 : 0 < s.size := by rw [← hl]; exact List.length_pos_iff.2 hne
  refine ⟨h0, ?_, by unfold undoL; rw [decide_eq_true h]; rfl⟩
  rw [bs_extract]
  unfold restL
  rw [if_pos ⟨hne, h⟩, List.drop_zero, Nat.sub_zero, List.dropLast_eq_take, hl]
theorem rest_no {s : Str} (h : (bs s).getLast? ≠ some 33) : s = ofBs (restL s) ∧ undoL s = true := by
  refine ⟨?_, by unfold undoL; rw [decide_eq_false h]; rfl⟩
  unfold restL
  rw [if_neg (fun e => h e.2), of_bs]
theorem Own2.cells {w : World} {base : Nat} {A : Option Addr} {a b : Str} (h : SStr w base A 2 [a, b]) : ∃ k cs, A = some ⟨k, 0, none⟩ ∧ base ≤ k ∧ w.heap[k]? = some (.cells cs 9 (0, 0)) ∧ cs[0]? = some (.string a) ∧ cs[1]? = some (.string b) := by
  obtain ⟨k, cs, e, h1, h2, h3⟩ := h.2 (by omega)
  exact ⟨k, cs, e, h1, h2, h3 0 (by omega), h3 1 (by omega)⟩
theorem cutW_two {b : UInt8} {q x y : Bytes} (h : cutW b q = [x, y]) : q.length = x.length + y.length + 1 := by
  rcases first_split b q with h1 | ⟨a, r, rfl, h1⟩
  · rw [cutW_none h1] at h; cases h
  · rw [cutW_hit r h1] at h
    obtain ⟨rfl, h2⟩ := List.cons.inj h
    rcases first_split b r with h3 | ⟨a', r', rfl, h3⟩
    · rw [cutW_none h3] at h2
      obtain ⟨rfl, _⟩ := List.cons.inj h2
      simp; omega
    · rw [cutW_hit r' h3] at h2
      exact absurd (List.cons.inj h2).2 (cutW_ne b r')

set_option maxRecDepth 100000 in
set_option maxHeartbeats 2000000 in
theorem stepFromS_any (s : Str) (w : World) (hs : s.size ≤ 1048576) :
    Calls Tryd.prog 15 #[.string s] w fun e w' => ∃ A n c, e = .returned (.tuple #[.agg #[.string (fromT s).name, .slice A n c, .bool (fromT s).undo], .bool (fromB s)]) ∧ SStr w' w.heap.size A n (fromT s).after ∧ Below w.heap.size w w' := by
  have hrl := restL_len s
  have hX0 := heap_old (o := .cells #[.string ⟨#[]⟩, .slice none 0 0, .bool true] 25) (heap_new (w := w) (o := .cells #[.string ⟨#[]⟩, .slice none 0 0, .bool false] 25) rfl)
  have hY0 := heap_new (w := w.alloc (.cells #[.string ⟨#[]⟩, .slice none 0 0, .bool false] 25)) (b := w.heap.size + 1) (o := .cells #[.string ⟨#[]⟩, .slice none 0 0, .bool true] 25) (by simp)
  have hB0 := ((Below.refl w.heap.size w).alloc (Nat.le_refl _) (.cells #[.string ⟨#[]⟩, .slice none 0 0, .bool false] 25)).alloc (by simp) (.cells #[.string ⟨#[]⟩, .slice none 0 0, .bool true] 25)
  have HX0 := Lib.hid hX0; clear hX0
  have HY0 := Lib.hid hY0; clear hY0
  have HB0 := Lib.hid hB0; clear hB0
  go_enter Tryd.func15, Tryd.ntmps15
  by_cases hL : (bs s).getLast? = some 33
  · obtain ⟨h0, hext, hU⟩ := rest_yes hL
    have HEXT := Lib.hid hext; clear hext
    have HU := Lib.hid hU; clear hU
    have hi0 : decide ((0 : Int) < (s.size : Int)) = true := by simp; omega
    obtain ⟨x, hx⟩ : ∃ x, s[s.size - 1]'(by omega) = x := ⟨_, rfl⟩
    have hq : ((x.toNat : Int) == 33) = true := by
      rw [bs_pos h0, hx] at hL
      rw [Option.some.inj hL]; rfl
    clear hL
    have y2a := (blk_cl (k := 2) HY0.out rfl).1
    have y2b := (blk_cl (k := 2) HY0.out rfl).2
    go_wp2_with (go_at_call 36; rw [HEXT.out])
    clear hi0 hq hx
    have HX1 := Lib.hid (heap_old (o := .cells #[.string ⟨#[]⟩, .slice none 0 0, .bool false] 25) (heap_new (w := w) (o := .cells #[.string ⟨#[]⟩, .slice none 0 0, .bool false] 25) rfl))
    have HY1 := Lib.hid (heap_new (w := w.alloc (.cells #[.string ⟨#[]⟩, .slice none 0 0, .bool false] 25)) (b := w.heap.size + 1) (o := .cells #[.string ⟨#[]⟩, .slice none 0 0, .bool false] 25) (by simp))
    have HB1 := Lib.hid (((Below.refl w.heap.size w).alloc (Nat.le_refl _) (.cells #[.string ⟨#[]⟩, .slice none 0 0, .bool false] 25)).alloc (by simp) (.cells #[.string ⟨#[]⟩, .slice none 0 0, .bool false] 25))
    have hsz1 : ((w.alloc (.cells #[.string ⟨#[]⟩, .slice none 0 0, .bool false] 25)).alloc (.cells #[.string ⟨#[]⟩, .slice none 0 0, .bool false] 25)).heap.size = w.heap.size + 2 := by simp
    generalize (w.alloc (.cells #[.string ⟨#[]⟩, .slice none 0 0, .bool false] 25)).alloc (.cells #[.string ⟨#[]⟩, .slice none 0 0, .bool false] 25) = w1 at *
    refine (l41Cut_any (ofBs (restL s)) 58 w1 (by rw [ofBs_size]; omega)).mono ?_
    rintro e w2 ⟨A2, c2, rfl, hs2, hb2⟩
    rw [bs_of] at *
    clear y2a y2b
    have hx2 := (hb2.block _ (heap_lt HX1.out)).trans HX1.out
    have hy2 := (hb2.block _ (heap_lt HY1.out)).trans HY1.out
    have HB2 := Lib.hid (HB1.out.trans (hb2.mono HB1.out.size))
    clear hb2 HX1 HY1 HB1
    have HX2 := Lib.hid hx2
    have HY2 := Lib.hid hy2
    clear hx2 hy2
    by_cases h2 : (cutW 58 (restL s)).length = 2
    · obtain ⟨a, b, hab⟩ := two_of h2
      have hs3 : SStr w2 w1.heap.size A2 2 [ofBs a, ofBs b] := by rw [hab] at hs2; exact hs2
      rw [h2]
      have hal : (ofBs a).size ≤ s.size ∧ (ofBs b).size ≤ s.size := by
        have m1 := cutW_mem 58 (restL s) a (by rw [hab]; simp)
        have m2 := cutW_mem 58 (restL s) b (by rw [hab]; simp)
        rw [ofBs_size, ofBs_size]
        omega
      have hbl : b.length + 1 ≤ s.size := by have := cutW_two hab; omega
      have HNO := Lib.hid (fun hn => fromS_no hab (hn : ¬ (stepB (readS s a b) = true ∧ stepS (readS s a b) = s)))
      have HRA := Lib.hid (show (readS s a b).after = if b = [45] then [] else (cutW 44 b).map ofBs from rfl)
      clear hs2 h2 hab
      obtain ⟨k, cs, rfl, hk1, hkb, hc0, hc1⟩ := Own2.cells hs3
      clear hs3
      have hkne : k ≠ w.heap.size + 1 := by omega
      have hkn0 : k ≠ w.heap.size := by omega
      have c0 := (blk_cl (k := 0) hkb hc0).1
      have y0a := (blk_cl (k := 0) HY2.out rfl).1
      have y0b := (blk_cl (k := 0) HY2.out rfl).2
      have hya := heap_old (o := .cells #[] 9) (set_at (o := 0) (u := .string (ofBs a)) HY2.out)
      have hxa := heap_old (o := .cells #[] 9) ((Below.heap_setCell w2 ⟨w.heap.size + 1, 0, none⟩ (.string (ofBs a)) w.heap.size (by intro e; simp at e)).trans HX2.out)
      have hka := heap_old (o := .cells #[] 9) ((Below.heap_setCell w2 ⟨w.heap.size + 1, 0, none⟩ (.string (ofBs a)) k (by intro e; simp at e; omega)).trans hkb)
      have hba := (HB2.out.setCell (p := ⟨w.heap.size + 1, 0, none⟩) (Nat.le_succ _) (.string (ofBs a))).alloc (by simpa using HB2.out.size) (.cells #[] 9)
      have hsa : w2.heap.size < ((w2.setCell ⟨w.heap.size + 1, 0, none⟩ (.string (ofBs a))).alloc (.cells #[] 9)).heap.size := by simp
      have ya1a := (blk_cl (k := 1) hya rfl).1
      have ya1b := (blk_cl (k := 1) hya rfl).2
      have hyb := set31 (u := .slice (some ⟨w2.heap.size, 0, none⟩) 0 0) hya
      have hxb := (Below.heap_setCell _ ⟨w.heap.size + 1, 1, none⟩ (.slice (some ⟨w2.heap.size, 0, none⟩) 0 0) w.heap.size (by intro e; simp at e)).trans hxa
      have hkbb := (Below.heap_setCell _ ⟨w.heap.size + 1, 1, none⟩ (.slice (some ⟨w2.heap.size, 0, none⟩) 0 0) k (by intro e; simp at e; omega)).trans hka
      have hbb := hba.setCell (p := ⟨w.heap.size + 1, 1, none⟩) (Nat.le_succ _) (.slice (some ⟨w2.heap.size, 0, none⟩) 0 0)
      have hsb : w.heap.size + 2 < (((w2.setCell ⟨w.heap.size + 1, 0, none⟩ (.string (ofBs a))).alloc (.cells #[] 9)).setCell ⟨w.heap.size + 1, 1, none⟩ (.slice (some ⟨w2.heap.size, 0, none⟩) 0 0)).heap.size := by
        have := heap_lt hkbb
        omega
      have HYB := Lib.hid hyb
      have HXB := Lib.hid hxb
      have HBB := Lib.hid hbb
      have HSB := Lib.hid hsb
      have c1 := (blk_cl (k := 1) hkbb hc1).1
      have yb0 := (blk_cl (k := 0) hyb rfl).1
      have yb1 := (blk_cl (k := 1) hyb rfl).1
      have yb1b := (blk_cl (k := 1) hyb rfl).2
      have yb2 := (blk_cl (k := 2) hyb rfl).1
      clear hya hxa hka hba hsa hyb hxb hkbb hbb hsb hkb hc0 hc1
      have ht1 : (readS s a b).name = ofBs a := rfl
      have ht3 : (readS s a b).undo = false := HU.out
      generalize readS s a b = t at *
      have HT1 := Lib.hid ht1
      have HT3 := Lib.hid ht3
      clear ht1 ht3
      by_cases hb : b = [45]
      · have hq : ((ofBs b).toList == [45]) = true := by rw [toList_bs, bs_of, beq_iff_eq]; exact hb
        have HA0 := Lib.hid (show t.after = [] by rw [HRA.out, if_pos hb])
        have HOKT : Hid (okStep t) := Lib.hid ⟨by rw [HT1.out]; unfold maxLen; omega, by rw [HA0.out]; exact ⟨Nat.zero_le _, fun j hj => absurd hj (Nat.not_lt_zero j)⟩⟩
        clear hb
        go_wp2_with fail
        generalize eW : ((w2.setCell ⟨w.heap.size + 1, 0, none⟩ (.string (ofBs a))).alloc (.cells #[] 9)).setCell ⟨w.heap.size + 1, 1, none⟩ (.slice (some ⟨w2.heap.size, 0, none⟩) 0 0) = wv at *
        have HSV : Hid (SStr wv (w.heap.size + 2) (some ⟨w2.heap.size, 0, none⟩) 0 t.after) := Lib.hid (by rw [HA0.out]; exact ⟨rfl, fun h => absurd h (by omega)⟩)
        clear hq yb0 yb1 yb1b yb2 c0 c1 y0a y0b ya1a ya1b eW
        have hv1 := stepS_any (some ⟨w2.heap.size, 0, none⟩) 0 0 t _ wv HSV.out.hat HOKT.out
        rw [HT1.out, HT3.out] at hv1
        refine hv1.mono ?_
        clear hv1
        rintro e w4 ⟨rfl, hb4⟩
        have HX4 := Lib.hid ((hb4.block _ (heap_lt HXB.out)).trans HXB.out)
        have HY4 := Lib.hid ((hb4.block _ (heap_lt HYB.out)).trans HYB.out)
        have HB4 := Lib.hid (HBB.out.trans (hb4.mono HBB.out.size))
        have HS4 := Lib.hid (HSV.out.below hb4)
        clear hb4 HXB HYB HBB HSV
        have x0a := (blk_cl (k := 0) HX4.out rfl).1
        have x0b := (blk_cl (k := 0) HX4.out rfl).2
        have x1a := (blk_cl (k := 1) HX4.out rfl).1
        have x1b := (blk_cl (k := 1) HX4.out rfl).2
        have x2a := (blk_cl (k := 2) HX4.out rfl).1
        have x2b := (blk_cl (k := 2) HX4.out rfl).2
        have z0a := (blk_cl (k := 0) HY4.out rfl).1
        have z1a := (blk_cl (k := 1) HY4.out rfl).1
        have z2a := (blk_cl (k := 2) HY4.out rfl).1
        cases hv : stepB t
        · have HF := Lib.hid (HNO.out (fun h => by rw [hv] at h; exact absurd h.1 (by decide)))
          clear hv
          go_wp2_with fail
          have hres := set3 (u0 := .string ⟨#[]⟩) (u1 := .slice none 0 0) (u2 := .bool false) HX4.out
          have e0 := (blk_cl (k := 0) hres rfl).1
          have e1 := (blk_cl (k := 1) hres rfl).1
          have e2 := (blk_cl (k := 2) hres rfl).1
          refine bodyPost_ret (v := .tuple #[.agg #[.string ⟨#[]⟩, .slice none 0 0, .bool false], .bool false]) (by simp [results, Tryd.results15, go_sem, e0, e1, e2]) rfl ⟨none, 0, 0, ?_, ?_, ?_⟩
          · rw [from_not HF.out, HF.out]; rfl
          · rw [from_not HF.out]; exact sstr_none _ _
          · exact ((HB4.out.setCell (p := ⟨w.heap.size, 0, none⟩) (Nat.le_refl _) _).setCell (p := ⟨w.heap.size, 1, none⟩) (Nat.le_refl _) _).setCell (p := ⟨w.heap.size, 2, none⟩) (Nat.le_refl _) _
        · have HV := Lib.hid hv
          clear hv x0a x0b x1a x1b x2a x2b
          go_wp2_with fail
          have hv2 := l41Step_any (some ⟨w2.heap.size, 0, none⟩) 0 0 t _ w4 HS4.out.hat HV.out
          rw [HT1.out, HT3.out] at hv2
          refine hv2.mono ?_
          clear hv2
          rintro e w5 ⟨rfl, hb5⟩
          have HX5 := Lib.hid ((hb5.block _ (heap_lt HX4.out)).trans HX4.out)
          have HY5 := Lib.hid ((hb5.block _ (heap_lt HY4.out)).trans HY4.out)
          have HB5 := Lib.hid (HB4.out.trans (hb5.mono HB4.out.size))
          have HS5 := Lib.hid (HS4.out.below hb5)
          clear hb5 HX4 HY4 HB4 HS4 z0a z1a z2a
          have x0a := (blk_cl (k := 0) HX5.out rfl).1
          have x0b := (blk_cl (k := 0) HX5.out rfl).2
          have x1a := (blk_cl (k := 1) HX5.out rfl).1
          have x1b := (blk_cl (k := 1) HX5.out rfl).2
          have x2a := (blk_cl (k := 2) HX5.out rfl).1
          have x2b := (blk_cl (k := 2) HX5.out rfl).2
          have z0a := (blk_cl (k := 0) HY5.out rfl).1
          have z1a := (blk_cl (k := 1) HY5.out rfl).1
          have z2a := (blk_cl (k := 2) HY5.out rfl).1
          generalize eT : stepS t = T
          by_cases hT : T = s
          · have HT := Lib.hid (from_yes HV.out (eT.trans hT))
            have q0 : (T.toList == s.toList) = true := by rw [hT]; simp
            clear hT eT
            go_wp2_with fail
            have hres := set3 (u0 := .string (ofBs a)) (u1 := .slice (some ⟨w2.heap.size, 0, none⟩) 0 0) (u2 := .bool false) HX5.out
            have e0 := (blk_cl (k := 0) hres rfl).1
            have e1 := (blk_cl (k := 1) hres rfl).1
            have e2 := (blk_cl (k := 2) hres rfl).1
            refine bodyPost_ret (v := .tuple #[.agg #[.string (ofBs a), .slice (some ⟨w2.heap.size, 0, none⟩) 0 0, .bool false], .bool true]) (by simp [results, Tryd.results15, go_sem, e0, e1, e2]) rfl ⟨(some ⟨w2.heap.size, 0, none⟩), 0, 0, ?_, ?_, ?_⟩
            · rw [HT.out.1, HT.out.2, HT1.out, HT3.out]
            · rw [HT.out.2]; exact (((HS5.out.set (by omega)).set (by omega)).set (by omega)).mono (by omega)
            · exact ((HB5.out.setCell (p := ⟨w.heap.size, 0, none⟩) (Nat.le_refl _) _).setCell (p := ⟨w.heap.size, 1, none⟩) (Nat.le_refl _) _).setCell (p := ⟨w.heap.size, 2, none⟩) (Nat.le_refl _) _
          · have HF := Lib.hid (HNO.out (fun h => hT (eT.symm.trans h.2)))
            have q0 : (T.toList == s.toList) = false := by
              rw [beq_eq_false_iff_ne]
              intro e
              rw [toList_bs, toList_bs] at e
              exact hT (by have := congrArg ofBs e; rwa [of_bs, of_bs] at this)
            clear hT eT
            go_wp2_with fail
            have hres := set3 (u0 := .string ⟨#[]⟩) (u1 := .slice none 0 0) (u2 := .bool false) HX5.out
            have e0 := (blk_cl (k := 0) hres rfl).1
            have e1 := (blk_cl (k := 1) hres rfl).1
            have e2 := (blk_cl (k := 2) hres rfl).1
            refine bodyPost_ret (v := .tuple #[.agg #[.string ⟨#[]⟩, .slice none 0 0, .bool false], .bool false]) (by simp [results, Tryd.results15, go_sem, e0, e1, e2]) rfl ⟨none, 0, 0, ?_, ?_, ?_⟩
            · rw [from_not HF.out, HF.out]; rfl
            · rw [from_not HF.out]; exact sstr_none _ _
            · exact ((HB5.out.setCell (p := ⟨w.heap.size, 0, none⟩) (Nat.le_refl _) _).setCell (p := ⟨w.heap.size, 1, none⟩) (Nat.le_refl _) _).setCell (p := ⟨w.heap.size, 2, none⟩) (Nat.le_refl _) _
      · have hq : ((ofBs b).toList == [45]) = false := by rw [toList_bs, bs_of, beq_eq_false_iff_ne]; exact hb
        have HA1 := Lib.hid (show t.after = (cutW 44 b).map ofBs by rw [HRA.out, if_neg hb])
        have HOKT : Hid (okStep t) := Lib.hid (by
          have hm : 1048576 ≤ maxLen := by unfold maxLen; omega
          refine ⟨by rw [HT1.out]; omega, ?_, ?_⟩
          · rw [HA1.out, List.length_map]
            have := cutW_len 44 b
            omega
          · intro j hj
            rw [HA1.out, List.length_map] at hj
            rw [HA1.out, nth_map_ofBs _ j hj, ofBs_size]
            have := cutW_mem 44 b _ (List.getElem_mem hj)
            omega)
        clear hb
        go_wp2_with fail
        generalize eW : ((w2.setCell ⟨w.heap.size + 1, 0, none⟩ (.string (ofBs a))).alloc (.cells #[] 9)).setCell ⟨w.heap.size + 1, 1, none⟩ (.slice (some ⟨w2.heap.size, 0, none⟩) 0 0) = wb at *
        clear hq yb0 yb1 yb1b yb2 c0 c1 y0a y0b ya1a ya1b eW
        refine (l41Cut_any (ofBs b) 44 wb (by omega)).mono ?_
        rintro e w3 ⟨A3, c3, rfl, hs3, hb3⟩
        rw [bs_of] at *
        rw [← HA1.out] at hs3
        generalize (cutW 44 b).length = n3 at *
        have hsb := HSB.out
        have hy3 := (hb3.block _ (heap_lt HYB.out)).trans HYB.out
        have hx3 := (hb3.block _ (heap_lt HXB.out)).trans HXB.out
        have hbb3 := HBB.out.trans (hb3.mono HBB.out.size)
        have y1a := (blk_cl (k := 1) hy3 rfl).1
        have y1b := (blk_cl (k := 1) hy3 rfl).2
        have hyv := set31 (u := .slice A3 n3 c3) hy3
        have hxv := (Below.heap_setCell w3 ⟨w.heap.size + 1, 1, none⟩ (.slice A3 n3 c3) w.heap.size (by intro e; simp at e)).trans hx3
        have hbv := hbb3.setCell (p := ⟨w.heap.size + 1, 1, none⟩) (Nat.le_succ _) (.slice A3 n3 c3)
        have hsv := hs3.set (o := 1) (u := .slice A3 n3 c3) (show w.heap.size + 1 < wb.heap.size by omega)
        clear HXB HYB HBB hb3 hx3 hbb3 hs3
        have HXB := Lib.hid hxv
        have HYB := Lib.hid hyv
        have HBB := Lib.hid hbv
        have HSV := Lib.hid hsv
        have v0a := (blk_cl (k := 0) hyv rfl).1
        have v1a := (blk_cl (k := 1) hyv rfl).1
        have v2a := (blk_cl (k := 2) hyv rfl).1
        clear hxv hyv hbv hsv hy3
        go_wp2_with fail
        generalize eV : w3.setCell ⟨w.heap.size + 1, 1, none⟩ (.slice A3 n3 c3) = wv at *
        clear y1a y1b v0a v1a v2a eV
        have hv1 := stepS_any A3 n3 c3 t _ wv HSV.out.hat HOKT.out
        rw [HT1.out, HT3.out] at hv1
        refine hv1.mono ?_
        clear hv1
        rintro e w4 ⟨rfl, hb4⟩
        have HX4 := Lib.hid ((hb4.block _ (heap_lt HXB.out)).trans HXB.out)
        have HY4 := Lib.hid ((hb4.block _ (heap_lt HYB.out)).trans HYB.out)
        have HB4 := Lib.hid (HBB.out.trans (hb4.mono HBB.out.size))
        have HS4 := Lib.hid (HSV.out.below hb4)
        clear hb4 HXB HYB HBB HSV
        have x0a := (blk_cl (k := 0) HX4.out rfl).1
        have x0b := (blk_cl (k := 0) HX4.out rfl).2
        have x1a := (blk_cl (k := 1) HX4.out rfl).1
        have x1b := (blk_cl (k := 1) HX4.out rfl).2
        have x2a := (blk_cl (k := 2) HX4.out rfl).1
        have x2b := (blk_cl (k := 2) HX4.out rfl).2
        have z0a := (blk_cl (k := 0) HY4.out rfl).1
        have z1a := (blk_cl (k := 1) HY4.out rfl).1
        have z2a := (blk_cl (k := 2) HY4.out rfl).1
        cases hv : stepB t
        · have HF := Lib.hid (HNO.out (fun h => by rw [hv] at h; exact absurd h.1 (by decide)))
          clear hv
          go_wp2_with fail
          have hres := set3 (u0 := .string ⟨#[]⟩) (u1 := .slice none 0 0) (u2 := .bool false) HX4.out
          have e0 := (blk_cl (k := 0) hres rfl).1
          have e1 := (blk_cl (k := 1) hres rfl).1
          have e2 := (blk_cl (k := 2) hres rfl).1
          refine bodyPost_ret (v := .tuple #[.agg #[.string ⟨#[]⟩, .slice none 0 0, .bool false], .bool false]) (by simp [results, Tryd.results15, go_sem, e0, e1, e2]) rfl ⟨none, 0, 0, ?_, ?_, ?_⟩
          · rw [from_not HF.out, HF.out]; rfl
          · rw [from_not HF.out]; exact sstr_none _ _
          · exact ((HB4.out.setCell (p := ⟨w.heap.size, 0, none⟩) (Nat.le_refl _) _).setCell (p := ⟨w.heap.size, 1, none⟩) (Nat.le_refl _) _).setCell (p := ⟨w.heap.size, 2, none⟩) (Nat.le_refl _) _
        · have HV := Lib.hid hv
          clear hv x0a x0b x1a x1b x2a x2b
          go_wp2_with fail
          have hv2 := l41Step_any A3 n3 c3 t _ w4 HS4.out.hat HV.out
          rw [HT1.out, HT3.out] at hv2
          refine hv2.mono ?_
          clear hv2
          rintro e w5 ⟨rfl, hb5⟩
          have HX5 := Lib.hid ((hb5.block _ (heap_lt HX4.out)).trans HX4.out)
          have HY5 := Lib.hid ((hb5.block _ (heap_lt HY4.out)).trans HY4.out)
          have HB5 := Lib.hid (HB4.out.trans (hb5.mono HB4.out.size))
          have HS5 := Lib.hid (HS4.out.below hb5)
          clear hb5 HX4 HY4 HB4 HS4 z0a z1a z2a
          have x0a := (blk_cl (k := 0) HX5.out rfl).1
          have x0b := (blk_cl (k := 0) HX5.out rfl).2
          have x1a := (blk_cl (k := 1) HX5.out rfl).1
          have x1b := (blk_cl (k := 1) HX5.out rfl).2
          have x2a := (blk_cl (k := 2) HX5.out rfl).1
          have x2b := (blk_cl (k := 2) HX5.out rfl).2
          have z0a := (blk_cl (k := 0) HY5.out rfl).1
          have z1a := (blk_cl (k := 1) HY5.out rfl).1
          have z2a := (blk_cl (k := 2) HY5.out rfl).1
          generalize eT : stepS t = T
          by_cases hT : T = s
          · have HT := Lib.hid (from_yes HV.out (eT.trans hT))
            have q0 : (T.toList == s.toList) = true := by rw [hT]; simp
            clear hT eT
            go_wp2_with fail
            have hres := set3 (u0 := .string (ofBs a)) (u1 := .slice A3 n3 c3) (u2 := .bool false) HX5.out
            have e0 := (blk_cl (k := 0) hres rfl).1
            have e1 := (blk_cl (k := 1) hres rfl).1
            have e2 := (blk_cl (k := 2) hres rfl).1
            refine bodyPost_ret (v := .tuple #[.agg #[.string (ofBs a), .slice A3 n3 c3, .bool false], .bool true]) (by simp [results, Tryd.results15, go_sem, e0, e1, e2]) rfl ⟨A3, n3, c3, ?_, ?_, ?_⟩
            · rw [HT.out.1, HT.out.2, HT1.out, HT3.out]
            · rw [HT.out.2]; exact (((HS5.out.set (by omega)).set (by omega)).set (by omega)).mono (by omega)
            · exact ((HB5.out.setCell (p := ⟨w.heap.size, 0, none⟩) (Nat.le_refl _) _).setCell (p := ⟨w.heap.size, 1, none⟩) (Nat.le_refl _) _).setCell (p := ⟨w.heap.size, 2, none⟩) (Nat.le_refl _) _
          · have HF := Lib.hid (HNO.out (fun h => hT (eT.symm.trans h.2)))
            have q0 : (T.toList == s.toList) = false := by
              rw [beq_eq_false_iff_ne]
              intro e
              rw [toList_bs, toList_bs] at e
              exact hT (by have := congrArg ofBs e; rwa [of_bs, of_bs] at this)
            clear hT eT
            go_wp2_with fail
            have hres := set3 (u0 := .string ⟨#[]⟩) (u1 := .slice none 0 0) (u2 := .bool false) HX5.out
            have e0 := (blk_cl (k := 0) hres rfl).1
            have e1 := (blk_cl (k := 1) hres rfl).1
            have e2 := (blk_cl (k := 2) hres rfl).1
            refine bodyPost_ret (v := .tuple #[.agg #[.string ⟨#[]⟩, .slice none 0 0, .bool false], .bool false]) (by simp [results, Tryd.results15, go_sem, e0, e1, e2]) rfl ⟨none, 0, 0, ?_, ?_, ?_⟩
            · rw [from_not HF.out, HF.out]; rfl
            · rw [from_not HF.out]; exact sstr_none _ _
            · exact ((HB5.out.setCell (p := ⟨w.heap.size, 0, none⟩) (Nat.le_refl _) _).setCell (p := ⟨w.heap.size, 1, none⟩) (Nat.le_refl _) _).setCell (p := ⟨w.heap.size, 2, none⟩) (Nat.le_refl _) _
    · have HF := Lib.hid (fromS_len h2)
      have hq : (((cutW 58 (restL s)).length : Int) == 2) = false := by rw [beq_eq_false_iff_ne]; omega
      clear h2 hs2
      have r0a := (blk_cl (k := 0) HX2.out rfl).1
      have r0b := (blk_cl (k := 0) HX2.out rfl).2
      have r1a := (blk_cl (k := 1) HX2.out rfl).1
      have r1b := (blk_cl (k := 1) HX2.out rfl).2
      have r2a := (blk_cl (k := 2) HX2.out rfl).1
      have r2b := (blk_cl (k := 2) HX2.out rfl).2
      go_wp2_with fail
      have hres := set3 (u0 := .string ⟨#[]⟩) (u1 := .slice none 0 0) (u2 := .bool false) HX2.out
      have e0 := (blk_cl (k := 0) hres rfl).1
      have e1 := (blk_cl (k := 1) hres rfl).1
      have e2 := (blk_cl (k := 2) hres rfl).1
      refine bodyPost_ret (v := .tuple #[.agg #[.string ⟨#[]⟩, .slice none 0 0, .bool false], .bool false]) (by simp [results, Tryd.results15, go_sem, e0, e1, e2]) rfl ⟨none, 0, 0, ?_, ?_, ?_⟩
      · rw [from_not HF.out, HF.out]; rfl
      · rw [from_not HF.out]; exact sstr_none _ _
      · exact ((HB2.out.setCell (p := ⟨w.heap.size, 0, none⟩) (Nat.le_refl _) _).setCell (p := ⟨w.heap.size, 1, none⟩) (Nat.le_refl _) _).setCell (p := ⟨w.heap.size, 2, none⟩) (Nat.le_refl _) _
  · obtain ⟨hR, hU⟩ := rest_no hL
    have hbs : bs s = restL s := by unfold restL; rw [if_neg (fun e => hL e.2)]
    have HU := Lib.hid hU; clear hU hR
    by_cases h0 : 0 < s.size
    · have hi0 : decide ((0 : Int) < (s.size : Int)) = true := by simp; omega
      obtain ⟨x, hx⟩ : ∃ x, s[s.size - 1]'(by omega) = x := ⟨_, rfl⟩
      have hq : ((x.toNat : Int) == 33) = false := by
        rw [beq_eq_false_iff_ne]
        intro e
        rw [bs_pos h0, hx] at hL
        exact hL (by rw [show x = 33 from UInt8.toNat_inj.1 (by show x.toNat = 33; omega)])
      clear hL
      go_wp2_with fail
      clear hi0 hq hx
      have HX1 := Lib.hid (heap_old (o := .cells #[.string ⟨#[]⟩, .slice none 0 0, .bool true] 25) (heap_new (w := w) (o := .cells #[.string ⟨#[]⟩, .slice none 0 0, .bool false] 25) rfl))
      have HY1 := Lib.hid (heap_new (w := w.alloc (.cells #[.string ⟨#[]⟩, .slice none 0 0, .bool false] 25)) (b := w.heap.size + 1) (o := .cells #[.string ⟨#[]⟩, .slice none 0 0, .bool true] 25) (by simp))
      have HB1 := Lib.hid (((Below.refl w.heap.size w).alloc (Nat.le_refl _) (.cells #[.string ⟨#[]⟩, .slice none 0 0, .bool false] 25)).alloc (by simp) (.cells #[.string ⟨#[]⟩, .slice none 0 0, .bool true] 25))
      have hsz1 : ((w.alloc (.cells #[.string ⟨#[]⟩, .slice none 0 0, .bool false] 25)).alloc (.cells #[.string ⟨#[]⟩, .slice none 0 0, .bool true] 25)).heap.size = w.heap.size + 2 := by simp
      generalize (w.alloc (.cells #[.string ⟨#[]⟩, .slice none 0 0, .bool false] 25)).alloc (.cells #[.string ⟨#[]⟩, .slice none 0 0, .bool true] 25) = w1 at *
      refine (l41Cut_any s 58 w1 hs).mono ?_
      rintro e w2 ⟨A2, c2, rfl, hs2, hb2⟩
      rw [hbs] at hs2 ⊢
      have hx2 := (hb2.block _ (heap_lt HX1.out)).trans HX1.out
      have hy2 := (hb2.block _ (heap_lt HY1.out)).trans HY1.out
      have HB2 := Lib.hid (HB1.out.trans (hb2.mono HB1.out.size))
      clear hb2 HX1 HY1 HB1
      have HX2 := Lib.hid hx2
      have HY2 := Lib.hid hy2
      clear hx2 hy2
      by_cases h2 : (cutW 58 (restL s)).length = 2
      · obtain ⟨a, b, hab⟩ := two_of h2
        have hs3 : SStr w2 w1.heap.size A2 2 [ofBs a, ofBs b] := by rw [hab] at hs2; exact hs2
        rw [h2]
        have hal : (ofBs a).size ≤ s.size ∧ (ofBs b).size ≤ s.size := by
          have m1 := cutW_mem 58 (restL s) a (by rw [hab]; simp)
          have m2 := cutW_mem 58 (restL s) b (by rw [hab]; simp)
          rw [ofBs_size, ofBs_size]
          omega
        have hbl : b.length + 1 ≤ s.size := by have := cutW_two hab; omega
        have HNO := Lib.hid (fun hn => fromS_no hab (hn : ¬ (stepB (readS s a b) = true ∧ stepS (readS s a b) = s)))
        have HRA := Lib.hid (show (readS s a b).after = if b = [45] then [] else (cutW 44 b).map ofBs from rfl)
        clear hs2 h2 hab
        obtain ⟨k, cs, rfl, hk1, hkb, hc0, hc1⟩ := Own2.cells hs3
        clear hs3
        have hkne : k ≠ w.heap.size + 1 := by omega
        have hkn0 : k ≠ w.heap.size := by omega
        have c0 := (blk_cl (k := 0) hkb hc0).1
        have y0a := (blk_cl (k := 0) HY2.out rfl).1
        have y0b := (blk_cl (k := 0) HY2.out rfl).2
        have hya := heap_old (o := .cells #[] 9) (set_at (o := 0) (u := .string (ofBs a)) HY2.out)
        have hxa := heap_old (o := .cells #[] 9) ((Below.heap_setCell w2 ⟨w.heap.size + 1, 0, none⟩ (.string (ofBs a)) w.heap.size (by intro e; simp at e)).trans HX2.out)
        have hka := heap_old (o := .cells #[] 9) ((Below.heap_setCell w2 ⟨w.heap.size + 1, 0, none⟩ (.string (ofBs a)) k (by intro e; simp at e; omega)).trans hkb)
        have hba := (HB2.out.setCell (p := ⟨w.heap.size + 1, 0, none⟩) (Nat.le_succ _) (.string (ofBs a))).alloc (by simpa using HB2.out.size) (.cells #[] 9)
        have hsa : w2.heap.size < ((w2.setCell ⟨w.heap.size + 1, 0, none⟩ (.string (ofBs a))).alloc (.cells #[] 9)).heap.size := by simp
        have ya1a := (blk_cl (k := 1) hya rfl).1
        have ya1b := (blk_cl (k := 1) hya rfl).2
        have hyb := set31 (u := .slice (some ⟨w2.heap.size, 0, none⟩) 0 0) hya
        have hxb := (Below.heap_setCell _ ⟨w.heap.size + 1, 1, none⟩ (.slice (some ⟨w2.heap.size, 0, none⟩) 0 0) w.heap.size (by intro e; simp at e)).trans hxa
        have hkbb := (Below.heap_setCell _ ⟨w.heap.size + 1, 1, none⟩ (.slice (some ⟨w2.heap.size, 0, none⟩) 0 0) k (by intro e; simp at e; omega)).trans hka
        have hbb := hba.setCell (p := ⟨w.heap.size + 1, 1, none⟩) (Nat.le_succ _) (.slice (some ⟨w2.heap.size, 0, none⟩) 0 0)
        have hsb : w.heap.size + 2 < (((w2.setCell ⟨w.heap.size + 1, 0, none⟩ (.string (ofBs a))).alloc (.cells #[] 9)).setCell ⟨w.heap.size + 1, 1, none⟩ (.slice (some ⟨w2.heap.size, 0, none⟩) 0 0)).heap.size := by
          have := heap_lt hkbb
          omega
        have HYB := Lib.hid hyb
        have HXB := Lib.hid hxb
        have HBB := Lib.hid hbb
        have HSB := Lib.hid hsb
        have c1 := (blk_cl (k := 1) hkbb hc1).1
        have yb0 := (blk_cl (k := 0) hyb rfl).1
        have yb1 := (blk_cl (k := 1) hyb rfl).1
        have yb1b := (blk_cl (k := 1) hyb rfl).2
        have yb2 := (blk_cl (k := 2) hyb rfl).1
        clear hya hxa hka hba hsa hyb hxb hkbb hbb hsb hkb hc0 hc1
        have ht1 : (readS s a b).name = ofBs a := rfl
        have ht3 : (readS s a b).undo = true := HU.out
        generalize readS s a b = t at *
        have HT1 := Lib.hid ht1
        have HT3 := Lib.hid ht3
        clear ht1 ht3
        by_cases hb : b = [45]
        · have hq : ((ofBs b).toList == [45]) = true := by rw [toList_bs, bs_of, beq_iff_eq]; exact hb
          have HA0 := Lib.hid (show t.after = [] by rw [HRA.out, if_pos hb])
          have HOKT : Hid (okStep t) := Lib.hid ⟨by rw [HT1.out]; unfold maxLen; omega, by rw [HA0.out]; exact ⟨Nat.zero_le _, fun j hj => absurd hj (Nat.not_lt_zero j)⟩⟩
          clear hb
          go_wp2_with fail
          generalize eW : ((w2.setCell ⟨w.heap.size + 1, 0, none⟩ (.string (ofBs a))).alloc (.cells #[] 9)).setCell ⟨w.heap.size + 1, 1, none⟩ (.slice (some ⟨w2.heap.size, 0, none⟩) 0 0) = wv at *
          have HSV : Hid (SStr wv (w.heap.size + 2) (some ⟨w2.heap.size, 0, none⟩) 0 t.after) := Lib.hid (by rw [HA0.out]; exact ⟨rfl, fun h => absurd h (by omega)⟩)
          clear hq yb0 yb1 yb1b yb2 c0 c1 y0a y0b ya1a ya1b eW
          have hv1 := stepS_any (some ⟨w2.heap.size, 0, none⟩) 0 0 t _ wv HSV.out.hat HOKT.out
          rw [HT1.out, HT3.out] at hv1
          refine hv1.mono ?_
          clear hv1
          rintro e w4 ⟨rfl, hb4⟩
          have HX4 := Lib.hid ((hb4.block _ (heap_lt HXB.out)).trans HXB.out)
          have HY4 := Lib.hid ((hb4.block _ (heap_lt HYB.out)).trans HYB.out)
          have HB4 := Lib.hid (HBB.out.trans (hb4.mono HBB.out.size))
          have HS4 := Lib.hid (HSV.out.below hb4)
          clear hb4 HXB HYB HBB HSV
          have x0a := (blk_cl (k := 0) HX4.out rfl).1
          have x0b := (blk_cl (k := 0) HX4.out rfl).2
          have x1a := (blk_cl (k := 1) HX4.out rfl).1
          have x1b := (blk_cl (k := 1) HX4.out rfl).2
          have x2a := (blk_cl (k := 2) HX4.out rfl).1
          have x2b := (blk_cl (k := 2) HX4.out rfl).2
          have z0a := (blk_cl (k := 0) HY4.out rfl).1
          have z1a := (blk_cl (k := 1) HY4.out rfl).1
          have z2a := (blk_cl (k := 2) HY4.out rfl).1
          cases hv : stepB t
          · have HF := Lib.hid (HNO.out (fun h => by rw [hv] at h; exact absurd h.1 (by decide)))
            clear hv
            go_wp2_with fail
            have hres := set3 (u0 := .string ⟨#[]⟩) (u1 := .slice none 0 0) (u2 := .bool false) HX4.out
            have e0 := (blk_cl (k := 0) hres rfl).1
            have e1 := (blk_cl (k := 1) hres rfl).1
            have e2 := (blk_cl (k := 2) hres rfl).1
            refine bodyPost_ret (v := .tuple #[.agg #[.string ⟨#[]⟩, .slice none 0 0, .bool false], .bool false]) (by simp [results, Tryd.results15, go_sem, e0, e1, e2]) rfl ⟨none, 0, 0, ?_, ?_, ?_⟩
            · rw [from_not HF.out, HF.out]; rfl
            · rw [from_not HF.out]; exact sstr_none _ _
            · exact ((HB4.out.setCell (p := ⟨w.heap.size, 0, none⟩) (Nat.le_refl _) _).setCell (p := ⟨w.heap.size, 1, none⟩) (Nat.le_refl _) _).setCell (p := ⟨w.heap.size, 2, none⟩) (Nat.le_refl _) _
          · have HV := Lib.hid hv
            clear hv x0a x0b x1a x1b x2a x2b
            go_wp2_with fail
            have hv2 := l41Step_any (some ⟨w2.heap.size, 0, none⟩) 0 0 t _ w4 HS4.out.hat HV.out
            rw [HT1.out, HT3.out] at hv2
            refine hv2.mono ?_
            clear hv2
            rintro e w5 ⟨rfl, hb5⟩
            have HX5 := Lib.hid ((hb5.block _ (heap_lt HX4.out)).trans HX4.out)
            have HY5 := Lib.hid ((hb5.block _ (heap_lt HY4.out)).trans HY4.out)
            have HB5 := Lib.hid (HB4.out.trans (hb5.mono HB4.out.size))
            have HS5 := Lib.hid (HS4.out.below hb5)
            clear hb5 HX4 HY4 HB4 HS4 z0a z1a z2a
            have x0a := (blk_cl (k := 0) HX5.out rfl).1
            have x0b := (blk_cl (k := 0) HX5.out rfl).2
            have x1a := (blk_cl (k := 1) HX5.out rfl).1
            have x1b := (blk_cl (k := 1) HX5.out rfl).2
            have x2a := (blk_cl (k := 2) HX5.out rfl).1
            have x2b := (blk_cl (k := 2) HX5.out rfl).2
            have z0a := (blk_cl (k := 0) HY5.out rfl).1
            have z1a := (blk_cl (k := 1) HY5.out rfl).1
            have z2a := (blk_cl (k := 2) HY5.out rfl).1
            generalize eT : stepS t = T
            by_cases hT : T = s
            · have HT := Lib.hid (from_yes HV.out (eT.trans hT))
              have q0 : (T.toList == s.toList) = true := by rw [hT]; simp
              clear hT eT
              go_wp2_with fail
              have hres := set3 (u0 := .string (ofBs a)) (u1 := .slice (some ⟨w2.heap.size, 0, none⟩) 0 0) (u2 := .bool true) HX5.out
              have e0 := (blk_cl (k := 0) hres rfl).1
              have e1 := (blk_cl (k := 1) hres rfl).1
              have e2 := (blk_cl (k := 2) hres rfl).1
              refine bodyPost_ret (v := .tuple #[.agg #[.string (ofBs a), .slice (some ⟨w2.heap.size, 0, none⟩) 0 0, .bool true], .bool true]) (by simp [results, Tryd.results15, go_sem, e0, e1, e2]) rfl ⟨(some ⟨w2.heap.size, 0, none⟩), 0, 0, ?_, ?_, ?_⟩
              · rw [HT.out.1, HT.out.2, HT1.out, HT3.out]
              · rw [HT.out.2]; exact (((HS5.out.set (by omega)).set (by omega)).set (by omega)).mono (by omega)
              · exact ((HB5.out.setCell (p := ⟨w.heap.size, 0, none⟩) (Nat.le_refl _) _).setCell (p := ⟨w.heap.size, 1, none⟩) (Nat.le_refl _) _).setCell (p := ⟨w.heap.size, 2, none⟩) (Nat.le_refl _) _
            · have HF := Lib.hid (HNO.out (fun h => hT (eT.symm.trans h.2)))
              have q0 : (T.toList == s.toList) = false := by
                rw [beq_eq_false_iff_ne]
                intro e
                rw [toList_bs, toList_bs] at e
                exact hT (by have := congrArg ofBs e; rwa [of_bs, of_bs] at this)
              clear hT eT
              go_wp2_with fail
              have hres := set3 (u0 := .string ⟨#[]⟩) (u1 := .slice none 0 0) (u2 := .bool false) HX5.out
              have e0 := (blk_cl (k := 0) hres rfl).1
              have e1 := (blk_cl (k := 1) hres rfl).1
              have e2 := (blk_cl (k := 2) hres rfl).1
              refine bodyPost_ret (v := .tuple #[.agg #[.string ⟨#[]⟩, .slice none 0 0, .bool false], .bool false]) (by simp [results, Tryd.results15, go_sem, e0, e1, e2]) rfl ⟨none, 0, 0, ?_, ?_, ?_⟩
              · rw [from_not HF.out, HF.out]; rfl
              · rw [from_not HF.out]; exact sstr_none _ _
              · exact ((HB5.out.setCell (p := ⟨w.heap.size, 0, none⟩) (Nat.le_refl _) _).setCell (p := ⟨w.heap.size, 1, none⟩) (Nat.le_refl _) _).setCell (p := ⟨w.heap.size, 2, none⟩) (Nat.le_refl _) _
        · have hq : ((ofBs b).toList == [45]) = false := by rw [toList_bs, bs_of, beq_eq_false_iff_ne]; exact hb
          have HA1 := Lib.hid (show t.after = (cutW 44 b).map ofBs by rw [HRA.out, if_neg hb])
          have HOKT : Hid (okStep t) := Lib.hid (by
            have hm : 1048576 ≤ maxLen := by unfold maxLen; omega
            refine ⟨by rw [HT1.out]; omega, ?_, ?_⟩
            · rw [HA1.out, List.length_map]
              have := cutW_len 44 b
              omega
            · intro j hj
              rw [HA1.out, List.length_map] at hj
              rw [HA1.out, nth_map_ofBs _ j hj, ofBs_size]
              have := cutW_mem 44 b _ (List.getElem_mem hj)
              omega)
          clear hb
          go_wp2_with fail
          generalize eW : ((w2.setCell ⟨w.heap.size + 1, 0, none⟩ (.string (ofBs a))).alloc (.cells #[] 9)).setCell ⟨w.heap.size + 1, 1, none⟩ (.slice (some ⟨w2.heap.size, 0, none⟩) 0 0) = wb at *
          clear hq yb0 yb1 yb1b yb2 c0 c1 y0a y0b ya1a ya1b eW
          refine (l41Cut_any (ofBs b) 44 wb (by omega)).mono ?_
          rintro e w3 ⟨A3, c3, rfl, hs3, hb3⟩
          rw [bs_of] at *
          rw [← HA1.out] at hs3
          generalize (cutW 44 b).length = n3 at *
          have hsb := HSB.out
          have hy3 := (hb3.block _ (heap_lt HYB.out)).trans HYB.out
          have hx3 := (hb3.block _ (heap_lt HXB.out)).trans HXB.out
          have hbb3 := HBB.out.trans (hb3.mono HBB.out.size)
          have y1a := (blk_cl (k := 1) hy3 rfl).1
          have y1b := (blk_cl (k := 1) hy3 rfl).2
          have hyv := set31 (u := .slice A3 n3 c3) hy3
          have hxv := (Below.heap_setCell w3 ⟨w.heap.size + 1, 1, none⟩ (.slice A3 n3 c3) w.heap.size (by intro e; simp at e)).trans hx3
          have hbv := hbb3.setCell (p := ⟨w.heap.size + 1, 1, none⟩) (Nat.le_succ _) (.slice A3 n3 c3)
          have hsv := hs3.set (o := 1) (u := .slice A3 n3 c3) (show w.heap.size + 1 < wb.heap.size by omega)
          clear HXB HYB HBB hb3 hx3 hbb3 hs3
          have HXB := Lib.hid hxv
          have HYB := Lib.hid hyv
          have HBB := Lib.hid hbv
          have HSV := Lib.hid hsv
          have v0a := (blk_cl (k := 0) hyv rfl).1
          have v1a := (blk_cl (k := 1) hyv rfl).1
          have v2a := (blk_cl (k := 2) hyv rfl).1
          clear hxv hyv hbv hsv hy3
          go_wp2_with fail
          generalize eV : w3.setCell ⟨w.heap.size + 1, 1, none⟩ (.slice A3 n3 c3) = wv at *
          clear y1a y1b v0a v1a v2a eV
          have hv1 := stepS_any A3 n3 c3 t _ wv HSV.out.hat HOKT.out
          rw [HT1.out, HT3.out] at hv1
          refine hv1.mono ?_
          clear hv1
          rintro e w4 ⟨rfl, hb4⟩
          have HX4 := Lib.hid ((hb4.block _ (heap_lt HXB.out)).trans HXB.out)
          have HY4 := Lib.hid ((hb4.block _ (heap_lt HYB.out)).trans HYB.out)
          have HB4 := Lib.hid (HBB.out.trans (hb4.mono HBB.out.size))
          have HS4 := Lib.hid (HSV.out.below hb4)
          clear hb4 HXB HYB HBB HSV
          have x0a := (blk_cl (k := 0) HX4.out rfl).1
          have x0b := (blk_cl (k := 0) HX4.out rfl).2
          have x1a := (blk_cl (k := 1) HX4.out rfl).1
          have x1b := (blk_cl (k := 1) HX4.out rfl).2
          have x2a := (blk_cl (k := 2) HX4.out rfl).1
          have x2b := (blk_cl (k := 2) HX4.out rfl).2
          have z0a := (blk_cl (k := 0) HY4.out rfl).1
          have z1a := (blk_cl (k := 1) HY4.out rfl).1
          have z2a := (blk_cl (k := 2) HY4.out rfl).1
          cases hv : stepB t
          · have HF := Lib.hid (HNO.out (fun h => by rw [hv] at h; exact absurd h.1 (by decide)))
            clear hv
            go_wp2_with fail
            have hres := set3 (u0 := .string ⟨#[]⟩) (u1 := .slice none 0 0) (u2 := .bool false) HX4.out
            have e0 := (blk_cl (k := 0) hres rfl).1
            have e1 := (blk_cl (k := 1) hres rfl).1
            have e2 := (blk_cl (k := 2) hres rfl).1
            refine bodyPost_ret (v := .tuple #[.agg #[.string ⟨#[]⟩, .slice none 0 0, .bool false], .bool false]) (by simp [results, Tryd.results15, go_sem, e0, e1, e2]) rfl ⟨none, 0, 0, ?_, ?_, ?_⟩
            · rw [from_not HF.out, HF.out]; rfl
            · rw [from_not HF.out]; exact sstr_none _ _
            · exact ((HB4.out.setCell (p := ⟨w.heap.size, 0, none⟩) (Nat.le_refl _) _).setCell (p := ⟨w.heap.size, 1, none⟩) (Nat.le_refl _) _).setCell (p := ⟨w.heap.size, 2, none⟩) (Nat.le_refl _) _
          · have HV := Lib.hid hv
            clear hv x0a x0b x1a x1b x2a x2b
            go_wp2_with fail
            have hv2 := l41Step_any A3 n3 c3 t _ w4 HS4.out.hat HV.out
            rw [HT1.out, HT3.out] at hv2
            refine hv2.mono ?_
            clear hv2
            rintro e w5 ⟨rfl, hb5⟩
            have HX5 := Lib.hid ((hb5.block _ (heap_lt HX4.out)).trans HX4.out)
            have HY5 := Lib.hid ((hb5.block _ (heap_lt HY4.out)).trans HY4.out)
            have HB5 := Lib.hid (HB4.out.trans (hb5.mono HB4.out.size))
            have HS5 := Lib.hid (HS4.out.below hb5)
            clear hb5 HX4 HY4 HB4 HS4 z0a z1a z2a
            have x0a := (blk_cl (k := 0) HX5.out rfl).1
            have x0b := (blk_cl (k := 0) HX5.out rfl).2
            have x1a := (blk_cl (k := 1) HX5.out rfl).1
            have x1b := (blk_cl (k := 1) HX5.out rfl).2
            have x2a := (blk_cl (k := 2) HX5.out rfl).1
            have x2b := (blk_cl (k := 2) HX5.out rfl).2
            have z0a := (blk_cl (k := 0) HY5.out rfl).1
            have z1a := (blk_cl (k := 1) HY5.out rfl).1
            have z2a := (blk_cl (k := 2) HY5.out rfl).1
            generalize eT : stepS t = T
            by_cases hT : T = s
            · have HT := Lib.hid (from_yes HV.out (eT.trans hT))
              have q0 : (T.toList == s.toList) = true := by rw [hT]; simp
              clear hT eT
              go_wp2_with fail
              have hres := set3 (u0 := .string (ofBs a)) (u1 := .slice A3 n3 c3) (u2 := .bool true) HX5.out
              have e0 := (blk_cl (k := 0) hres rfl).1
              have e1 := (blk_cl (k := 1) hres rfl).1
              have e2 := (blk_cl (k := 2) hres rfl).1
              refine bodyPost_ret (v := .tuple #[.agg #[.string (ofBs a), .slice A3 n3 c3, .bool true], .bool true]) (by simp [results, Tryd.results15, go_sem, e0, e1, e2]) rfl ⟨A3, n3, c3, ?_, ?_, ?_⟩
              · rw [HT.out.1, HT.out.2, HT1.out, HT3.out]
              · rw [HT.out.2]; exact (((HS5.out.set (by omega)).set (by omega)).set (by omega)).mono (by omega)
              · exact ((HB5.out.setCell (p := ⟨w.heap.size, 0, none⟩) (Nat.le_refl _) _).setCell (p := ⟨w.heap.size, 1, none⟩) (Nat.le_refl _) _).setCell (p := ⟨w.heap.size, 2, none⟩) (Nat.le_refl _) _
            · have HF := Lib.hid (HNO.out (fun h => hT (eT.symm.trans h.2)))
              have q0 : (T.toList == s.toList) = false := by
                rw [beq_eq_false_iff_ne]
                intro e
                rw [toList_bs, toList_bs] at e
                exact hT (by have := congrArg ofBs e; rwa [of_bs, of_bs] at this)
              clear hT eT
              go_wp2_with fail
              have hres := set3 (u0 := .string ⟨#[]⟩) (u1 := .slice none 0 0) (u2 := .bool false) HX5.out
              have e0 := (blk_cl (k := 0) hres rfl).1
              have e1 := (blk_cl (k := 1) hres rfl).1
              have e2 := (blk_cl (k := 2) hres rfl).1
              refine bodyPost_ret (v := .tuple #[.agg #[.string ⟨#[]⟩, .slice none 0 0, .bool false], .bool false]) (by simp [results, Tryd.results15, go_sem, e0, e1, e2]) rfl ⟨none, 0, 0, ?_, ?_, ?_⟩
              · rw [from_not HF.out, HF.out]; rfl
              · rw [from_not HF.out]; exact sstr_none _ _
              · exact ((HB5.out.setCell (p := ⟨w.heap.size, 0, none⟩) (Nat.le_refl _) _).setCell (p := ⟨w.heap.size, 1, none⟩) (Nat.le_refl _) _).setCell (p := ⟨w.heap.size, 2, none⟩) (Nat.le_refl _) _
      · have HF := Lib.hid (fromS_len h2)
        have hq : (((cutW 58 (restL s)).length : Int) == 2) = false := by rw [beq_eq_false_iff_ne]; omega
        clear h2 hs2
        have r0a := (blk_cl (k := 0) HX2.out rfl).1
        have r0b := (blk_cl (k := 0) HX2.out rfl).2
        have r1a := (blk_cl (k := 1) HX2.out rfl).1
        have r1b := (blk_cl (k := 1) HX2.out rfl).2
        have r2a := (blk_cl (k := 2) HX2.out rfl).1
        have r2b := (blk_cl (k := 2) HX2.out rfl).2
        go_wp2_with fail
        have hres := set3 (u0 := .string ⟨#[]⟩) (u1 := .slice none 0 0) (u2 := .bool false) HX2.out
        have e0 := (blk_cl (k := 0) hres rfl).1
        have e1 := (blk_cl (k := 1) hres rfl).1
        have e2 := (blk_cl (k := 2) hres rfl).1
        refine bodyPost_ret (v := .tuple #[.agg #[.string ⟨#[]⟩, .slice none 0 0, .bool false], .bool false]) (by simp [results, Tryd.results15, go_sem, e0, e1, e2]) rfl ⟨none, 0, 0, ?_, ?_, ?_⟩
        · rw [from_not HF.out, HF.out]; rfl
        · rw [from_not HF.out]; exact sstr_none _ _
        · exact ((HB2.out.setCell (p := ⟨w.heap.size, 0, none⟩) (Nat.le_refl _) _).setCell (p := ⟨w.heap.size, 1, none⟩) (Nat.le_refl _) _).setCell (p := ⟨w.heap.size, 2, none⟩) (Nat.le_refl _) _
    · have hi0 : decide ((0 : Int) < (s.size : Int)) = false := decide_eq_false (by omega)
      clear hL
      go_wp2_with fail
      clear hi0
      have HX1 := Lib.hid (heap_old (o := .cells #[.string ⟨#[]⟩, .slice none 0 0, .bool true] 25) (heap_new (w := w) (o := .cells #[.string ⟨#[]⟩, .slice none 0 0, .bool false] 25) rfl))
      have HY1 := Lib.hid (heap_new (w := w.alloc (.cells #[.string ⟨#[]⟩, .slice none 0 0, .bool false] 25)) (b := w.heap.size + 1) (o := .cells #[.string ⟨#[]⟩, .slice none 0 0, .bool true] 25) (by simp))
      have HB1 := Lib.hid (((Below.refl w.heap.size w).alloc (Nat.le_refl _) (.cells #[.string ⟨#[]⟩, .slice none 0 0, .bool false] 25)).alloc (by simp) (.cells #[.string ⟨#[]⟩, .slice none 0 0, .bool true] 25))
      have hsz1 : ((w.alloc (.cells #[.string ⟨#[]⟩, .slice none 0 0, .bool false] 25)).alloc (.cells #[.string ⟨#[]⟩, .slice none 0 0, .bool true] 25)).heap.size = w.heap.size + 2 := by simp
      generalize (w.alloc (.cells #[.string ⟨#[]⟩, .slice none 0 0, .bool false] 25)).alloc (.cells #[.string ⟨#[]⟩, .slice none 0 0, .bool true] 25) = w1 at *
      refine (l41Cut_any s 58 w1 hs).mono ?_
      rintro e w2 ⟨A2, c2, rfl, hs2, hb2⟩
      rw [hbs] at hs2 ⊢
      have hx2 := (hb2.block _ (heap_lt HX1.out)).trans HX1.out
      have hy2 := (hb2.block _ (heap_lt HY1.out)).trans HY1.out
      have HB2 := Lib.hid (HB1.out.trans (hb2.mono HB1.out.size))
      clear hb2 HX1 HY1 HB1
      have HX2 := Lib.hid hx2
      have HY2 := Lib.hid hy2
      clear hx2 hy2
      by_cases h2 : (cutW 58 (restL s)).length = 2
      · obtain ⟨a, b, hab⟩ := two_of h2
        have hs3 : SStr w2 w1.heap.size A2 2 [ofBs a, ofBs b] := by rw [hab] at hs2; exact hs2
        rw [h2]
        have hal : (ofBs a).size ≤ s.size ∧ (ofBs b).size ≤ s.size := by
          have m1 := cutW_mem 58 (restL s) a (by rw [hab]; simp)
          have m2 := cutW_mem 58 (restL s) b (by rw [hab]; simp)
          rw [ofBs_size, ofBs_size]
          omega
        have hbl : b.length + 1 ≤ s.size := by have := cutW_two hab; omega
        exact absurd hbl (by omega)
      · have HF := Lib.hid (fromS_len h2)
        have hq : (((cutW 58 (restL s)).length : Int) == 2) = false := by rw [beq_eq_false_iff_ne]; omega
        clear h2 hs2
        have r0a := (blk_cl (k := 0) HX2.out rfl).1
        have r0b := (blk_cl (k := 0) HX2.out rfl).2
        have r1a := (blk_cl (k := 1) HX2.out rfl).1
        have r1b := (blk_cl (k := 1) HX2.out rfl).2
        have r2a := (blk_cl (k := 2) HX2.out rfl).1
        have r2b := (blk_cl (k := 2) HX2.out rfl).2
        go_wp2_with fail
        have hres := set3 (u0 := .string ⟨#[]⟩) (u1 := .slice none 0 0) (u2 := .bool false) HX2.out
        have e0 := (blk_cl (k := 0) hres rfl).1
        have e1 := (blk_cl (k := 1) hres rfl).1
        have e2 := (blk_cl (k := 2) hres rfl).1
        refine bodyPost_ret (v := .tuple #[.agg #[.string ⟨#[]⟩, .slice none 0 0, .bool false], .bool false]) (by simp [results, Tryd.results15, go_sem, e0, e1, e2]) rfl ⟨none, 0, 0, ?_, ?_, ?_⟩
        · rw [from_not HF.out, HF.out]; rfl
        · rw [from_not HF.out]; exact sstr_none _ _
        · exact ((HB2.out.setCell (p := ⟨w.heap.size, 0, none⟩) (Nat.le_refl _) _).setCell (p := ⟨w.heap.size, 1, none⟩) (Nat.le_refl _) _).setCell (p := ⟨w.heap.size, 2, none⟩) (Nat.le_refl _) _
end Go.Proofs.YthdfefgianokgaaDoor

/- Drawing a step's text. -/
namespace Go.Proofs.YthdfefgianokgaaDoor
open Go.RowKit

set_option maxRecDepth 100000 in
theorem drawStepFrom_any (A : Option Addr) (n c : Nat) (w : World) (hr : RByte w A n) (hc : n ≤ c) (hn : n ≤ 1048576) :
    Calls Tryd.prog 19 #[.slice A n c] w fun e w' => ∃ s : Str, e = .returned (.string s) ∧ s.size ≤ 100 ∧ Below w.heap.size w w' := by
  go_enter Tryd.func19, Tryd.ntmps19
  go_wp2_with fail
  refine (open_any _ _ _ _ hr hc hn).mono ?_
  rintro e w1 ⟨rfl, hrd, hb1⟩
  have hd0 : Dr 79 w1 w.heap.size 0 w1 := ⟨On.refl _ _, 0, Nat.le_refl _, hrd⟩
  have hl1 := hrd.lt
  have HB1 := Lib.hid hb1
  clear hrd hb1
  go_wp2_with fail
  refine (l91Step_any w1 _ _ _ hd0 (by omega)).mono ?_
  rintro e w2 ⟨s, A2, n2, c2, rfl, hs, hok, _, _, hd2, hon⟩
  have HD2 := Lib.hid hd2
  have HB2 := Lib.hid (HB1.out.trans (hon.low (Nat.le_of_lt hl1)))
  clear hon hd0 hd2
  go_wp2_with fail
  refine (stepTextS_any _ _ _ s _ _ hs hok).mono ?_
  rintro e w3 ⟨rfl, hb3⟩
  have hd3 := HD2.out.below hb3
  have HB3 := Lib.hid (HB2.out.trans (hb3.mono HB2.out.size))
  have hl3 := hd3.lt
  clear HD2 hb3 hs hok
  cases h : stepB s
  · have hy : textS s = ⟨#[]⟩ := by unfold textS; rw [if_neg (by rw [h]; simp)]
    rw [hy]
    clear hy h
    go_wp2_with fail
    refine (of_ w1 w.heap.size _ _ _ _ [⟨#[]⟩, ⟨#[97]⟩, ⟨#[97, 58]⟩, ⟨#[58, 45]⟩, ⟨#[97, 58, 45, 33, 33]⟩, ⟨#[97, 58, 98, 44]⟩, ⟨#[97, 58, 97]⟩, ⟨#[97, 58, 99, 44, 98]⟩, ⟨#[97, 58, 98, 58, 99]⟩, ⟨#[97, 58, 45, 44, 98]⟩, ⟨#[65, 58, 45]⟩] _ _ (hd3.alloc _) (by omega) (lit_str _ 11 rfl rfl) (by omega) (by omega) (by omega)).mono ?_
    rintro e w4 ⟨s4, rfl, hm, hd4, hon4⟩
    have hb4 := HB3.out.trans (((On.refl w.heap.size w3).alloc _).trans hon4 |>.low (Nat.le_of_lt hl3))
    go_wp2_with fail
    go_ret
    refine ⟨s4, rfl, ?_, hb4⟩
    simp at hm
    rcases hm with rfl | rfl | rfl | rfl | rfl | rfl | rfl | rfl | rfl | rfl | rfl <;> decide
  · have hy : textS s = stepS s := by unfold textS; rw [if_pos h]
    obtain ⟨hsm, hs0⟩ := stepS_small h
    rw [hy]
    have q1 := ne_empty hs0
    generalize stepS s = y at *
    clear hy h
    obtain ⟨v, hv0, hv1, _, hp⟩ := pick1 w1 w.heap.size 100 5 w3 hd3 (by omega) (by omega)
    have HP := Lib.hid hp
    by_cases hz : v = 0
    · subst hz
      clear hp
      go_wp2_with (go_at_call 40; refine HP.out.mono ?_; rintro e w4 ⟨rfl, hd4, hon4⟩)
      refine (of_ w1 w.heap.size _ _ _ _ [⟨#[]⟩, ⟨#[97]⟩, ⟨#[97, 58]⟩, ⟨#[58, 45]⟩, ⟨#[97, 58, 45, 33, 33]⟩, ⟨#[97, 58, 98, 44]⟩, ⟨#[97, 58, 97]⟩, ⟨#[97, 58, 99, 44, 98]⟩, ⟨#[97, 58, 98, 58, 99]⟩, ⟨#[97, 58, 45, 44, 98]⟩, ⟨#[65, 58, 45]⟩] _ _ (hd4.alloc _) (by omega) (lit_str _ 11 rfl rfl) (by omega) (by omega) (by have := hd4.lt; omega)).mono ?_
      rintro e w5 ⟨s5, rfl, hm, hd5, hon5⟩
      have hb5 := HB3.out.trans ((hon4.alloc _).trans hon5 |>.low (Nat.le_of_lt hl3))
      go_wp2_with fail
      go_ret
      refine ⟨s5, rfl, ?_, hb5⟩
      simp at hm
      rcases hm with rfl | rfl | rfl | rfl | rfl | rfl | rfl | rfl | rfl | rfl | rfl <;> decide
    · have hz2 : (v == 0) = false := by rw [beq_eq_false_iff_ne]; exact hz
      clear hp
      go_wp2_with (go_at_call 40; refine HP.out.mono ?_; rintro e w4 ⟨rfl, hd4, hon4⟩)
      have hb4 := HB3.out.trans (hon4.low (Nat.le_of_lt hl3))
      go_ret
      exact ⟨y, rfl, hsm, hb4⟩
end Go.Proofs.YthdfefgianokgaaDoor

/- FnStepFrom, FnStepFromNot: the walks. -/
namespace Go.Proofs.YthdfefgianokgaaDoor
open Go.RowKit

theorem ok_of_valid {t : Step} (h : stepB t = true) : okStep t := by
  obtain ⟨h1, h2, h3⟩ := stepB_sizes h
  have hm : 1048576 ≤ maxLen := by unfold maxLen; omega
  exact ⟨by omega, by omega, fun j hj => by have := (nameB_size (h3 j hj)).2; omega⟩

set_option maxRecDepth 100000 in
set_option maxHeartbeats 2000000 in
theorem fnStepFrom_any (A : Option Addr) (n c : Nat) (w : World) (hr : RByte w A n) (hc : n ≤ c) (hm : HasMax w) :
    Calls Tryd.prog 5 #[.slice A n c] w fun e w' => e = .returned (.bool true) ∧ Below w.heap.size w w' := by
  have HR := Lib.hid hr; clear hr
  have HM := Lib.hid hm; clear hm
  by_cases hn : 1048576 < n
  · go_enter Tryd.func5, Tryd.ntmps5
    go_wp2_with fail
    go_ret
    exact ⟨rfl, Below.refl _ _⟩
  go_enter Tryd.func5, Tryd.ntmps5
  go_wp2_with fail
  refine (drawStepFrom_any _ _ _ _ HR.out hc (by omega)).mono ?_
  rintro e w1 ⟨s, rfl, hsz, hb1⟩
  have HB1 := Lib.hid hb1; clear hb1
  go_wp2_with fail
  refine (stepFromI_any s w1 (by omega) (HM.out.below HB1.out rfl)).mono ?_
  rintro e w2 ⟨A2, n2, c2, rfl, hs2, hc2, hb2⟩
  have HX2 := Lib.hid (heap_new (w := w2) (o := .cells #[.string (fromT s).name, .slice A2 n2 c2, .bool (fromT s).undo] 25) rfl)
  have HS2 := Lib.hid (hs2.hat.alloc (.cells #[.string (fromT s).name, .slice A2 n2 c2, .bool (fromT s).undo] 25))
  have HB2' := Lib.hid (HB1.out.trans (hb2.mono HB1.out.size))
  have HB2 := Lib.hid (HB2'.out.alloc HB2'.out.size (.cells #[.string (fromT s).name, .slice A2 n2 c2, .bool (fromT s).undo] 25))
  clear hs2 hb2 HB2'
  go_wp2_with fail
  refine (stepFromS_any s _ (by omega)).mono ?_
  rintro e w3 ⟨A3, n3, c3, rfl, hs3, hb3⟩
  obtain rfl : n3 = n2 := by have := hs3.1; have := HS2.out.1; omega
  have hn3 : n3 ≤ 4 := by
    have e1 := hs3.1
    cases hB : fromB s
    · rw [from_not hB] at e1
      have : n3 = 0 := e1.symm
      omega
    · have := (stepB_sizes (from_ex hB).1).1
      omega
  have HX3 := Lib.hid (heap_old (o := .cells #[.string (fromT s).name, .slice A3 n3 c3, .bool (fromT s).undo] 25) ((hb3.block w2.heap.size (heap_lt HX2.out)).trans HX2.out))
  have HY3 := Lib.hid (heap_new (w := w3) (o := .cells #[.string (fromT s).name, .slice A3 n3 c3, .bool (fromT s).undo] 25) rfl)
  have HS3 := Lib.hid ((HS2.out.below hb3).alloc (.cells #[.string (fromT s).name, .slice A3 n3 c3, .bool (fromT s).undo] 25))
  have HT3 := Lib.hid (hs3.hat.alloc (.cells #[.string (fromT s).name, .slice A3 n3 c3, .bool (fromT s).undo] 25))
  have HB3' := Lib.hid (HB2.out.trans (hb3.mono HB2.out.size))
  have HB3 := Lib.hid (HB3'.out.alloc HB3'.out.size (.cells #[.string (fromT s).name, .slice A3 n3 c3, .bool (fromT s).undo] 25))
  have HF := Lib.hid (fun h : fromB s = true => from_ex h)
  clear hs3 hb3 HX2 HS2 HB2 HB3'
  generalize fromT s = t at *
  have x0 := (blk_cl (k := 0) HX3.out rfl).1
  have x1 := (blk_cl (k := 1) HX3.out rfl).1
  have x2 := (blk_cl (k := 2) HX3.out rfl).1
  have y0 := (blk_cl (k := 0) HY3.out rfl).1
  have y1 := (blk_cl (k := 1) HY3.out rfl).1
  have y2 := (blk_cl (k := 2) HY3.out rfl).1
  generalize fromB s = b at *
  have HSM := Lib.hid (fun (w' : World) (h : Below (w3.alloc (.cells #[.string t.name, .slice A3 n3 c3, .bool t.undo] 25)).heap.size (w3.alloc (.cells #[.string t.name, .slice A3 n3 c3, .bool t.undo] 25)) w') => sameStep_same A2 A3 n3 c2 c3 t _ _ w' (HS3.out.below h) (by omega) (HT3.out.below h))
  have HXY := Lib.hid (fun (w' : World) (h : Below (w3.alloc (.cells #[.string t.name, .slice A3 n3 c3, .bool t.undo] 25)).heap.size (w3.alloc (.cells #[.string t.name, .slice A3 n3 c3, .bool t.undo] 25)) w') => And.intro ((h.block _ (heap_lt HX3.out)).trans HX3.out) ((h.block _ (heap_lt HY3.out)).trans HY3.out))
  clear HX3 HY3
  have hbb : (b != b) = false := by simp
  have hbe : (b == b) = true := by simp
  cases b
  · go_wp2_with (go_at_call 14; refine (HSM.out _ (Below.refl _ _)).mono ?_; rintro e w5 ⟨rfl, hb5⟩; obtain ⟨hx5, hy5⟩ := HXY.out _ hb5; have x05 := (blk_cl (k := 0) hx5 rfl).1; have x15 := (blk_cl (k := 1) hx5 rfl).1; have x25 := (blk_cl (k := 2) hx5 rfl).1; have y05 := (blk_cl (k := 0) hy5 rfl).1; have y15 := (blk_cl (k := 1) hy5 rfl).1; have y25 := (blk_cl (k := 2) hy5 rfl).1)
    go_wp2_with (go_at_call 14; refine (HSM.out _ hb5).mono ?_; rintro e w6 ⟨rfl, hb6⟩)
    go_ret
    exact ⟨rfl, HB3.out.trans ((hb5.trans (hb6.mono hb5.size)).mono HB3.out.size)⟩
  · obtain ⟨hv, hst⟩ := HF.out rfl
    go_wp2_with (go_at_call 14; refine (HSM.out _ (Below.refl _ _)).mono ?_; rintro e w5 ⟨rfl, hb5⟩; obtain ⟨hx5, hy5⟩ := HXY.out _ hb5; have x05 := (blk_cl (k := 0) hx5 rfl).1; have x15 := (blk_cl (k := 1) hx5 rfl).1; have x25 := (blk_cl (k := 2) hx5 rfl).1)
    have hok := ok_of_valid hv
    refine (stepI_any _ _ _ t _ w5 (HS3.out.below hb5) hok).mono ?_
    rintro e w6 ⟨rfl, hb6⟩
    rw [hv]
    have hb56 := hb5.trans (hb6.mono hb5.size)
    obtain ⟨hx6, hy6⟩ := HXY.out _ hb56
    have x06 := (blk_cl (k := 0) hx6 rfl).1
    have x16 := (blk_cl (k := 1) hx6 rfl).1
    have x26 := (blk_cl (k := 2) hx6 rfl).1
    clear x05 x15 x25
    go_wp2_with fail
    refine (stepTextI_any _ _ _ t _ w6 (HS3.out.below hb56) hok hc2).mono ?_
    rintro e w7 ⟨rfl, hb7⟩
    rw [show textS t = s by unfold textS; rw [if_pos hv, hst]]
    go_wp2_with fail
    go_ret
    exact ⟨ret_b (by simp), HB3.out.trans ((hb56.trans (hb7.mono hb56.size)).mono HB3.out.size)⟩
end Go.Proofs.YthdfefgianokgaaDoor
