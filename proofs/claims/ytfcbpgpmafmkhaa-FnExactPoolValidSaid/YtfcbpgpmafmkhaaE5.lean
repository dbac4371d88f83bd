/- What the exact laws need beside the functions: lists of steps, flows. -/
import Derived.Test.YtfcbpgpmafmkhaaE4
import Derived.Test.YtfcbpgpmafmkhaaOpenF
namespace Go.Proofs.Ytfcbpgpmafmkhaa
open Go.RowKit

set_option maxRecDepth 100000 in
theorem szStepS_any (A : Option Addr) (n c : Nat) (ss : List Step) (lo : Nat) (left : Int) (w : World) (hr : RStep w lo A n ss) (hn : n ≤ maxLen) (hs : ∀ j, j < n → stepSz (nth ss j)) (h0 : 0 ≤ left) (h1 : left ≤ 1048576) :
    Calls Try.prog 49 #[.slice A n c, .int .i64 left] w (SzQ left (okSteps ss) w) := by
  have HR := Lib.hid hr; clear hr
  have HS := Lib.hid hs; clear hs
  unfold maxLen at hn
  by_cases hbig : left < (n : Int)
  · go_enter Try.func49, Try.ntmps49
    go_wp2_with fail
    go_ret
    exact ⟨_, rfl, by omega, fun h => absurd h (by omega), Below.refl _ _⟩
  go_enter Try.func49, Try.ntmps49
  go_wp2_with fail
  go_loopw [1, 5] (fun q i wr => ∃ j : Nat, ∃ r : Int, j ≤ n ∧ i = .int .i64 (j : Int) ∧ q = .int .i64 r ∧ 0 ≤ r ∧ r ≤ left ∧ (∀ l, l < j → okStep (nth ss l)) ∧ Below w.heap.size w wr) (fun _ i _ => n - (intOf i).toNat)
  case atStart => exact ⟨0, _, Nat.zero_le _, rfl, rfl, by omega, by omega, fa_zero, Below.refl _ _⟩
  case round =>
    obtain ⟨j, r, hj, rfl, rfl, hr0, hr1, hp, hb⟩ := hrel
    have HP := Lib.hid hp; clear hp
    have HB := Lib.hid hb; clear hb
    by_cases hlt : j < n
    · obtain ⟨b, off, rfl, ⟨hb1, hb2⟩, hc⟩ := RStep.at_ (HR.out.below HB.out) hlt
      obtain ⟨A', n', c', ⟨c1, c2, c3⟩, hra, _⟩ := hc j hlt
      clear hc
      have HRA := Lib.hid hra; clear hra
      have HSZ := Lib.hid (HS.out j hlt)
      have HNL := Lib.hid (show n' ≤ maxLen from by rw [← HRA.out.1]; exact HSZ.out.2.1)
      go_wp2_with fail
      refine (szStep_any _ _ _ (nth ss j) _ r _ HRA.out HNL.out (fun i hi => HSZ.out.2.2 i (by rw [HRA.out.1]; exact hi)) HSZ.out.1 hr0 (by omega)).mono ?_
      rintro e w1 ⟨r1, rfl, hr2, hr3, hbw⟩
      have HBW := Lib.hid hbw; clear hbw
      have HR3 := Lib.hid hr3; clear hr3
      by_cases hneg : r1 < 0
      · go_wp2_with fail
        go_ret
        exact ⟨_, rfl, by omega, fun h => absurd h (by omega), HB.out.trans (HBW.out.mono HB.out.size)⟩
      · have hle := (HR3.out (by omega)).1
        go_wp2_with fail
        go_roundw
        case rel => exact ⟨j + 1, _, by omega, by go_num, rfl, by omega, by omega, fa_succ HP.out (HR3.out (by omega)).2, HB.out.trans (HBW.out.mono HB.out.size)⟩
        case measure => simp [intOf]; omega
    · go_wp2_with fail
      go_ret
      exact ⟨_, rfl, by omega, fun _ => ⟨hr1, by rw [HR.out.1]; omega, fun l hl => HP.out l (by rw [HR.out.1] at hl; omega)⟩, HB.out⟩

set_option maxRecDepth 100000 in
theorem szFlow_any (A : Option Addr) (n c : Nat) (f : Flow) (lo : Nat) (left : Int) (w : World) (hr : RStep w lo A n f.steps) (hn : n ≤ maxLen) (hs : ∀ j, j < n → stepSz (nth f.steps j)) (h0 : 0 ≤ left) (h1 : left ≤ 1048576) :
    Calls Try.prog 15 #[.agg #[.int .i64 f.ver, .slice A n c], .int .i64 left] w (SzQ left (okSteps f.steps) w) := by
  have HR := Lib.hid hr; clear hr
  have HS := Lib.hid hs; clear hs
  have HN := Lib.hid hn; clear hn
  go_enter Try.func15, Try.ntmps15
  go_wp2_with fail
  refine (szStepS_any _ _ _ f.steps _ _ _ (HR.out.alloc _) HN.out HS.out (by omega) (by omega)).mono ?_
  rintro e w1 ⟨r, rfl, hr0, hr1, hb⟩
  have HB := Lib.hid (((Below.refl w.heap.size w).alloc (Nat.le_refl _) (.cells #[.int .i64 f.ver, .slice A n c] 24)).trans (hb.mono (by simp)))
  clear hb
  have HR1 := Lib.hid hr1; clear hr1
  by_cases hneg : r < 0
  · go_wp2_with fail
    go_ret
    exact ⟨_, rfl, by omega, fun h => absurd h (by omega), HB.out⟩
  · go_wp2_with fail
    go_ret
    exact ⟨_, rfl, by omega, HR1.out, HB.out⟩

/-- A row of steps in block b, their lists in blocks behind it. -/
def RRow (w : World) (b n : Nat) (ss : List Step) : Prop :=
  ss.length = n ∧ (0 < n → b < w.heap.size) ∧ ∀ k, k < n → Cl w b (k * 3) (.string (nth ss k).name) ∧ (∃ A m c, Cl w b (k * 3 + 1) (.slice A m c) ∧ RH strE w (b + 1) w.heap.size A m (nth ss k).after) ∧ Cl w b (k * 3 + 2) (.bool (nth ss k).undo)
theorem RRow.hat {w : World} {b n : Nat} {ss : List Step} (h : RRow w b n ss) : RStep w b (some ⟨b, 0, none⟩) n ss :=
  ⟨h.1, fun hn => ⟨b, 0, rfl, Nat.le_refl _, h.2.1 hn, fun k hk => by
    obtain ⟨c1, ⟨A, m, c, c2, c3⟩, c4⟩ := h.2.2 k hk
    have e : 0 + k * stepE.size = k * 3 := by show 0 + k * 3 = k * 3; omega
    rw [e]
    exact ⟨c1, ⟨A, m, c, c2, c3.wide (Nat.le_succ _) (Nat.le_refl _)⟩, c4⟩⟩⟩
theorem RRow.below {w w' : World} {b n : Nat} {ss : List Step} (h : RRow w b n ss) (hb : Below w.heap.size w w') : RRow w' b n ss :=
  ⟨h.1, fun hn => Nat.lt_of_lt_of_le (h.2.1 hn) hb.size, fun k hk => by
    obtain ⟨c1, ⟨A, m, c, c2, c3⟩, c4⟩ := h.2.2 k hk
    have hl := h.2.1 (by omega)
    have hs : Same b w.heap.size w w' := Same.of_below hb
    exact ⟨c1.same hs (Nat.le_refl _) hl, ⟨A, m, c, c2.same hs (Nat.le_refl _) hl, (c3.below hb (Nat.le_refl _)).wide (Nat.le_refl _) hb.size⟩, c4.same hs (Nat.le_refl _) hl⟩⟩
theorem RRow.set {w : World} {b n j m d : Nat} {B : Option Addr} {ss : List Step} {s : Step} (h : RRow w b n ss) (hj : j < n) (hs : RH strE w (b + 1) w.heap.size B m s.after) :
    RRow (((w.setCell ⟨b, j * 3, none⟩ (.string s.name)).setCell ⟨b, j * 3 + 1, none⟩ (.slice B m d)).setCell ⟨b, j * 3 + 2, none⟩ (.bool s.undo)) b n (ss.set j s) := by
  have hsz : (((w.setCell ⟨b, j * 3, none⟩ (.string s.name)).setCell ⟨b, j * 3 + 1, none⟩ (.slice B m d)).setCell ⟨b, j * 3 + 2, none⟩ (.bool s.undo)).heap.size = w.heap.size := by simp
  have hk : ∀ {A : Option Addr} {m : Nat} {xs : List Str}, RH strE w (b + 1) w.heap.size A m xs →
      RH strE (((w.setCell ⟨b, j * 3, none⟩ (.string s.name)).setCell ⟨b, j * 3 + 1, none⟩ (.slice B m d)).setCell ⟨b, j * 3 + 2, none⟩ (.bool s.undo)) (b + 1) w.heap.size A m xs := fun h =>
    h.same ⟨fun i h1 _ => ((Below.heap_setCell _ _ _ i (by show i ≠ b; omega)).trans (Below.heap_setCell _ _ _ i (by show i ≠ b; omega))).trans (Below.heap_setCell _ _ _ i (by show i ≠ b; omega))⟩
  refine ⟨by rw [List.length_set]; exact h.1, fun hn => by rw [hsz]; exact h.2.1 hn, fun k hkn => ?_⟩
  obtain ⟨c1, ⟨A, m', c, c2, c3⟩, c4⟩ := h.2.2 k hkn
  rw [nth_set (by rw [h.1]; exact hj), hsz]
  have hk2 : ∀ {A : Option Addr} {m' : Nat} {xs : List Str}, RH strE w (b + 1) w.heap.size A m' xs →
      RH strE (((w.setCell ⟨b, j * 3, none⟩ (.string s.name)).setCell ⟨b, j * 3 + 1, none⟩ (.slice B m d)).setCell ⟨b, j * 3 + 2, none⟩ (.bool s.undo)) (b + 1) w.heap.size A m' xs := fun h =>
    h.same ⟨fun i h1 _ => ((Below.heap_setCell _ _ _ i (by show i ≠ b; omega)).trans (Below.heap_setCell _ _ _ i (by show i ≠ b; omega))).trans (Below.heap_setCell _ _ _ i (by show i ≠ b; omega))⟩
  by_cases hkj : k = j
  · subst hkj
    rw [if_pos rfl]
    exact ⟨(c1.set_same.set_other (.inr (by omega))).set_other (.inr (by omega)), ⟨B, m, d, ((c2.set_other (.inr (by omega))).set_same).set_other (.inr (by omega)), hk2 hs⟩, ((c4.set_other (.inr (by omega))).set_other (.inr (by omega))).set_same⟩
  · rw [if_neg hkj]
    exact ⟨((c1.set_other (.inr (by omega))).set_other (.inr (by omega))).set_other (.inr (by omega)), ⟨A, m', c, ((c2.set_other (.inr (by omega))).set_other (.inr (by omega))).set_other (.inr (by omega)), hk2 c3⟩, ((c4.set_other (.inr (by omega))).set_other (.inr (by omega))).set_other (.inr (by omega))⟩
theorem own_fresh_step {w : World} {base : Nat} {e : TypeId} {v : Value} {n : Nat} (h : w.ownsRow base e 3 v n (madeCells #[.string ⟨#[]⟩, .slice none 0 0, .bool false] (n * 3)).toList) :
    ∃ A c, v = .slice A n c ∧ (0 < n → ∃ b, A = some ⟨b, 0, none⟩ ∧ base ≤ b) ∧ ∀ b, A = some ⟨b, 0, none⟩ → RRow w b n (List.replicate n ⟨⟨#[]⟩, [], false⟩) := by
  obtain ⟨A, c, hv, hf⟩ := own_made (m := 3) (z := #[.string ⟨#[]⟩, .slice none 0 0, .bool false]) rfl h
  refine ⟨A, c, hv, fun hn => ?_, fun b hb => ⟨by simp, fun hn => ?_, fun k hk => ?_⟩⟩
  · obtain ⟨b, e1, h1, _⟩ := hf hn
    exact ⟨b, e1, h1⟩
  · obtain ⟨b', e1, _, h2, _⟩ := hf hn
    rw [hb] at e1
    injection e1 with e1; injection e1 with e2
    subst e2; exact h2
  · obtain ⟨b', e1, h1, h2, hc⟩ := hf (by omega)
    rw [hb] at e1
    injection e1 with e1; injection e1 with e2
    subst e2
    rw [nth_rep hk]
    exact ⟨hc k hk 0 _ (by omega) rfl, ⟨none, 0, 0, hc k hk 1 _ (by omega) rfl, RH.nil⟩, hc k hk 2 _ (by omega) rfl⟩

set_option maxRecDepth 100000 in
theorem toStepS_any (A : Option Addr) (n c : Nat) (xs : List Step) (lo : Nat) (w : World) (hr : RStep w lo A n xs) (hok : okSteps xs) :
    Calls Try.prog 52 #[.slice A n c] w fun e w' => ∃ A' c', e = .returned (.slice A' n c') ∧ RStep w' w.heap.size A' n xs ∧ Below w.heap.size w w' := by
  have hn : n ≤ 1048576 := by have := hok.1; rw [hr.1] at this; exact this
  have HO := Lib.hid hok; clear hok
  have HR := Lib.hid hr; clear hr
  obtain ⟨i0, hi0, hz0, hz1, hz2⟩ := info_parts info_step
  go_enter Try.func52, Try.ntmps52
  go_wp2_with (at_make; refine wpList_make_full _ rfl _ _ 27 rfl w.heap.size 50 i0 _ 3 Try.underlying27 hi0 hz0 hz1 _ _ _ _ n rfl rfl rfl rfl ?c1 ?c2 (Nat.le_refl _) ?_)
  case c1 => rw [hz2]; omega
  case c2 => unfold maxLen; omega
  intro w1 hown hgr
  have hbw : Below w.heap.size w w1 := (Below.refl _ _).grown hgr (Nat.le_refl _) (by simp)
  obtain ⟨A1, c1, hv1, _, hr1⟩ := own_fresh_step hown
  injection hv1 with hA1 hn1 hc1
  subst hA1
  have HR1 := Lib.hid (hr1 w.heap.size rfl)
  clear hn1 hc1 hown hgr hr1
  have HB1 := Lib.hid hbw; clear hbw
  go_wp2_with fail
  go_loopw [4] (fun i wr => ∃ j : Nat, ∃ ys : List Step, j ≤ n ∧ i = .int .i64 (j : Int) ∧ RRow wr w.heap.size n ys ∧ (∀ l, l < j → nth ys l = nth xs l) ∧ Below w.heap.size w wr) (fun i _ => n - (intOf i).toNat)
  case atStart => exact ⟨0, _, Nat.zero_le _, rfl, HR1.out, fa_zero, HB1.out⟩
  case round =>
    obtain ⟨j, ys, hj, rfl, hys, hp, hb⟩ := hrel
    have HP := Lib.hid hp; clear hp
    have HB := Lib.hid hb; clear hb
    have HY := Lib.hid hys; clear hys
    by_cases hlt : j < n
    · obtain ⟨b, off, rfl, ⟨hb1, hb2⟩, hc⟩ := RStep.at_ (HR.out.below HB.out) hlt
      obtain ⟨A', n', c', ⟨d1, d2, d3⟩, hra, _⟩ := hc j hlt
      clear hc
      have HRA := Lib.hid hra; clear hra
      have hlb := HY.out.2.1 (by omega)
      have hn' : n' ≤ 1048576 := by
        have h1 := (HO.out.2 j (by rw [HR.out.1]; exact hlt)).2.1
        have h2 := HRA.out.1
        omega
      go_wp2_with fail
      refine (toStep_any _ _ _ (nth xs j) _ _ HRA.out hn').mono ?_
      rintro e w2 ⟨A2, c2, rfl, hr2, hbw⟩
      have HBW := Lib.hid hbw; clear hbw
      have HR2 := Lib.hid (hr2.lower (show w.heap.size + 1 ≤ wr.heap.size by omega)); clear hr2
      have HY2 := Lib.hid (HY.out.below HBW.out)
      have HB2 := Lib.hid (HB.out.trans (HBW.out.mono HB.out.size))
      obtain ⟨⟨f1, g1⟩, ⟨_, _, _, ⟨f2, g2⟩, _⟩, f3, g3⟩ := HY2.out.2.2 j hlt
      go_wp2_with fail
      go_roundw
      case rel =>
        refine ⟨j + 1, ys.set j (nth xs j), by omega, by go_num, HY2.out.set hlt HR2.out.low, ?_, ((HB2.out.setCell (Nat.le_refl _) _).setCell (Nat.le_refl _) _).setCell (Nat.le_refl _) _⟩
        intro l hl
        rw [nth_set (by rw [HY.out.1]; exact hlt)]
        by_cases e : l = j
        · rw [if_pos e, e]
        · rw [if_neg e]; exact HP.out l (by omega)
      case measure => simp [intOf]; omega
    · go_wp2_with fail
      go_ret
      refine ⟨_, _, rfl, ?_, HB.out⟩
      have e : ys = xs := list_ext (by rw [HY.out.1, HR.out.1]) (fun l hl => HP.out l (by rw [HY.out.1] at hl; omega))
      rw [← e]; exact HY.out.hat

set_option maxRecDepth 100000 in
theorem toFlow_any (A : Option Addr) (n c : Nat) (f : Flow) (lo : Nat) (w : World) (hr : RStep w lo A n f.steps) (hok : okSteps f.steps) :
    Calls Try.prog 17 #[.agg #[.int .i64 f.ver, .slice A n c]] w fun e w' => ∃ A' c', e = .returned (.agg #[.int .i64 f.ver, .slice A' n c']) ∧ RStep w' w.heap.size A' n f.steps ∧ Below w.heap.size w w' := by
  have HR := Lib.hid hr; clear hr
  have HO := Lib.hid hok; clear hok
  go_enter Try.func17, Try.ntmps17
  go_wp2_with fail
  refine (toStepS_any _ _ _ f.steps _ _ (((HR.out.alloc _).alloc _).alloc _) HO.out).mono ?_
  rintro e w1 ⟨A2, c2, rfl, hr2, hb⟩
  have hsz : (((w.alloc (.cells #[.int .i64 f.ver, .slice A n c] 24)).alloc (.cells #[.int .i64 0, .slice none 0 0] 29)).alloc (.cells #[.int .i64 f.ver, .slice none 0 0] 29)).heap.size = w.heap.size + 1 + 1 + 1 := by simp
  rw [hsz] at hr2 hb
  have H1 := Lib.hid ((hb.block (w.heap.size + 1) (by omega)).trans (heap_old (o := .cells #[.int .i64 f.ver, .slice none 0 0] 29) (heap_new (b := w.heap.size + 1) (o := .cells #[.int .i64 0, .slice none 0 0] 29) (by simp))))
  have H2 := Lib.hid ((hb.block (w.heap.size + 1 + 1) (by omega)).trans (heap_new (b := w.heap.size + 1 + 1) (o := .cells #[.int .i64 f.ver, .slice none 0 0] 29) (by simp)))
  have HB := Lib.hid (((((Below.refl w.heap.size w).alloc (Nat.le_refl _) (.cells #[.int .i64 f.ver, .slice A n c] 24)).alloc (by simp) (.cells #[.int .i64 0, .slice none 0 0] 29)).alloc (by simp; omega) (.cells #[.int .i64 f.ver, .slice none 0 0] 29)).trans (hb.mono (by omega)))
  have HR2 := Lib.hid hr2
  clear hr2 hb hsz
  have H3 := Lib.hid (set21 (u := .slice A2 n c2) H2.out)
  have H5 := Lib.hid (set_ne (b := w.heap.size + 1 + 1) (o := 1) (u := .slice A2 n c2) H1.out (by omega))
  have c1 := (blk_cl (k := 1) H2.out rfl).1
  have d1 := (blk_cl (k := 1) H2.out rfl).2
  have e0 := (blk_cl (k := 0) H3.out rfl).1
  have e1 := (blk_cl (k := 1) H3.out rfl).1
  have g0 := (blk_cl (k := 0) H5.out rfl).1
  have g0' := (blk_cl (k := 0) H5.out rfl).2
  have g1 := (blk_cl (k := 1) H5.out rfl).1
  have g1' := (blk_cl (k := 1) H5.out rfl).2
  go_wp2_with fail
  have hres := set21 (u := .slice A2 n c2) (set20 (u := .int .i64 f.ver) H5.out)
  have p0 := (blk_cl (k := 0) hres rfl).1
  have p1 := (blk_cl (k := 1) hres rfl).1
  have l1 : w.heap.size + 1 < w.heap.size + 1 + 1 + 1 := by omega
  have l2 : w.heap.size + 1 + 1 < w.heap.size + 1 + 1 + 1 := by omega
  have q1 : w.heap.size ≤ w.heap.size + 1 := by omega
  have q2 : w.heap.size ≤ w.heap.size + 1 + 1 := by omega
  exact bodyPost_ret (v := .agg #[.int .i64 f.ver, .slice A2 n c2]) (by simp [results, Try.results17, go_sem, p0, p1]) rfl
    ⟨_, _, rfl, (((HR2.out.setLow l2).setLow l1).setLow l1).lower (by omega),
      ((HB.out.setCell (p := ⟨w.heap.size + 1 + 1, 1, none⟩) q2 _).setCell (p := ⟨w.heap.size + 1, 0, none⟩) q1 _).setCell (p := ⟨w.heap.size + 1, 1, none⟩) q1 _⟩

set_option maxRecDepth 100000 in
theorem eqStepS_same (A B : Option Addr) (n c d : Nat) (xs : List Step) (lo lo' : Nat) (w : World) (hr : RStep w lo A n xs) (hok : okSteps xs) (hr' : RStep w lo' B n xs) :
    Calls Try.prog 55 #[.slice A n c, .slice B n d] w fun e w' => e = .returned (.bool true) ∧ Below w.heap.size w w' := by
  have hn : n ≤ 1048576 := by have := hok.1; rw [hr.1] at this; exact this
  have HO := Lib.hid hok; clear hok
  have HX := Lib.hid hr; clear hr
  have HY := Lib.hid hr'; clear hr'
  go_enter Try.func55, Try.ntmps55
  go_wp2_with fail
  go_loopw [5] (fun i wr => ∃ k : Nat, k ≤ n ∧ i = .int .i64 k ∧ Below w.heap.size w wr) (fun i _ => n - (intOf i).toNat)
  case atStart => exact ⟨0, Nat.zero_le _, rfl, Below.refl _ _⟩
  case round =>
    obtain ⟨k, hk, rfl, hb⟩ := hrel
    have HB := Lib.hid hb; clear hb
    by_cases hlt : k < n
    · obtain ⟨b, off, rfl, ⟨_, hb2⟩, hc⟩ := RStep.at_ (HX.out.below HB.out) hlt
      obtain ⟨A1, n1, k1, ⟨c1, c2, c3⟩, hra, _⟩ := hc k hlt
      clear hc
      obtain ⟨b', off', rfl, ⟨_, hb4⟩, hc⟩ := RStep.at_ (HY.out.below HB.out) hlt
      obtain ⟨A2, n2, k2, ⟨d1, d2, d3⟩, hrb, _⟩ := hc k hlt
      clear hc
      have e12 : n2 = n1 := by rw [← hra.1, ← hrb.1]
      subst e12
      have hn1 : n2 ≤ 1048576 := by
        have h1 := (HO.out.2 k (by rw [HX.out.1]; exact hlt)).2.1
        have h2 := hra.1
        omega
      have HEQ := Lib.hid (fun w' (hb : Below wr.heap.size wr w') => eqStep_same _ _ _ k1 k2 (nth xs k) _ _ w' (hra.below hb) hn1 (hrb.below hb))
      clear hra hrb
      go_wp2_with fail
      go_region_held3 (fun w' => (w'.cell? ⟨b, off + k * 3, none⟩ = some (.string (nth xs k).name) ∧ w'.cell? ⟨b, off + k * 3 + 1, none⟩ = some (.slice A1 n2 k1) ∧ w'.cell? ⟨b, off + k * 3 + 2, none⟩ = some (.bool (nth xs k).undo)) ∧
          w'.cell? ⟨b', off' + k * 3, none⟩ = some (.string (nth xs k).name) ∧ w'.cell? ⟨b', off' + k * 3 + 1, none⟩ = some (.slice A2 n2 k2) ∧ w'.cell? ⟨b', off' + k * 3 + 2, none⟩ = some (.bool (nth xs k).undo))
        (first | exact ⟨⟨(hbw.cell (p := ⟨b, _, none⟩) hb2).trans c1, (hbw.cell (p := ⟨b, _, none⟩) hb2).trans c2, (hbw.cell (p := ⟨b, _, none⟩) hb2).trans c3⟩, (hbw.cell (p := ⟨b', _, none⟩) hb4).trans d1, (hbw.cell (p := ⟨b', _, none⟩) hb4).trans d2, (hbw.cell (p := ⟨b', _, none⟩) hb4).trans d3⟩ | exact ⟨⟨c1, c2, c3⟩, d1, d2, d3⟩ | go_keep | fail "keep")
        (first | (go_at_call 93; refine (HEQ.out _ (Below.refl _ _).drew).mono ?_; rintro e w1 ⟨rfl, hbw⟩) | fail "no arm")
      go_wp2_with fail
      go_roundw
      case rel => exact ⟨k + 1, by omega, by go_num, HB.out.drew.trans (hbw.mono HB.out.size)⟩
      case measure => simp [intOf]; omega
    · go_wp2_with fail
      go_ret
      exact ⟨rfl, HB.out⟩

set_option maxRecDepth 100000 in
theorem eqFlow_same (A B : Option Addr) (n c d : Nat) (f : Flow) (lo lo' : Nat) (w : World) (hr : RStep w lo A n f.steps) (hok : okSteps f.steps) (hr' : RStep w lo' B n f.steps) :
    Calls Try.prog 19 #[.agg #[.int .i64 f.ver, .slice A n c], .agg #[.int .i64 f.ver, .slice B n d]] w fun e w' => e = .returned (.bool true) ∧ Below w.heap.size w w' := by
  have HO := Lib.hid hok; clear hok
  have HX := Lib.hid hr; clear hr
  have HY := Lib.hid hr'; clear hr'
  go_enter Try.func19, Try.ntmps19
  go_wp2_with fail
  refine (eqStepS_same _ _ _ _ _ f.steps _ _ _ ((HX.out.alloc _).alloc _) HO.out ((HY.out.alloc _).alloc _)).mono ?_
  rintro e w1 ⟨rfl, hb⟩
  go_wp2_with fail
  go_ret
  exact ⟨rfl, (((Below.refl _ _).alloc (Nat.le_refl _) _).alloc (by simp) _).trans (hb.mono (by simp; omega))⟩
end Go.Proofs.Ytfcbpgpmafmkhaa
