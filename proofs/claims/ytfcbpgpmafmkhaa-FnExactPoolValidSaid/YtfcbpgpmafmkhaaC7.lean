/- Pools: turning a list of cases. -/
import Derived.Test.YtfcbpgpmafmkhaaC5
namespace Go.Proofs.Ytfcbpgpmafmkhaa
open Go.RowKit

theorem info_case : (Try.prog.info? 46).map (fun i => (i.zero, i.size, i.bytes)) = some (some (.agg #[.string ⟨#[]⟩, .int .i64 0, .slice none 0 0]), 3, 48) := by kernel_rfl

/-- A list of cases that is being filled. -/
def CRow (w : World) (b n : Nat) (ss : List Case) : Prop :=
  ss.length = n ∧ (0 < n → b < w.heap.size) ∧ ∀ k, k < n → Cl w b (k * 3) (.string (nth ss k).name) ∧ Cl w b (k * 3 + 1) (.int .i64 (nth ss k).st) ∧ (∃ A m c, Cl w b (k * 3 + 2) (.slice A m c) ∧ RH strE w (b + 1) w.heap.size A m (nth ss k).done ∧ m ≤ c)
theorem CRow.hat {w : World} {b n : Nat} {ss : List Case} (h : CRow w b n ss) : RCase w b (some ⟨b, 0, none⟩) n ss :=
  ⟨h.1, fun hn => ⟨b, 0, rfl, Nat.le_refl _, h.2.1 hn, fun k hk => by
    obtain ⟨c1, c4, ⟨A, m, c, c2, c3, c5⟩⟩ := h.2.2 k hk
    have e : 0 + k * caseE.size = k * 3 := by show 0 + k * 3 = k * 3; omega
    rw [e]
    exact ⟨c1, c4, ⟨A, m, c, c2, c3.wide (Nat.le_succ _) (Nat.le_refl _), c5⟩⟩⟩⟩
theorem CRow.below {w w' : World} {b n : Nat} {ss : List Case} (h : CRow w b n ss) (hb : Below w.heap.size w w') : CRow w' b n ss :=
  ⟨h.1, fun hn => Nat.lt_of_lt_of_le (h.2.1 hn) hb.size, fun k hk => by
    obtain ⟨c1, c4, ⟨A, m, c, c2, c3, c5⟩⟩ := h.2.2 k hk
    have hl := h.2.1 (by omega)
    have hs : Same b w.heap.size w w' := Same.of_below hb
    exact ⟨c1.same hs (Nat.le_refl _) hl, c4.same hs (Nat.le_refl _) hl, ⟨A, m, c, c2.same hs (Nat.le_refl _) hl, (c3.below hb (Nat.le_refl _)).wide (Nat.le_refl _) hb.size, c5⟩⟩⟩
theorem CRow.set {w : World} {b n j m d : Nat} {B : Option Addr} {ss : List Case} {s : Case} (h : CRow w b n ss) (hj : j < n) (hs : RH strE w (b + 1) w.heap.size B m s.done) (hmd : m ≤ d) :
    CRow (((w.setCell ⟨b, j * 3, none⟩ (.string s.name)).setCell ⟨b, j * 3 + 1, none⟩ (.int .i64 s.st)).setCell ⟨b, j * 3 + 2, none⟩ (.slice B m d)) b n (ss.set j s) := by
  have hsz : (((w.setCell ⟨b, j * 3, none⟩ (.string s.name)).setCell ⟨b, j * 3 + 1, none⟩ (.int .i64 s.st)).setCell ⟨b, j * 3 + 2, none⟩ (.slice B m d)).heap.size = w.heap.size := by simp
  have hk2 : ∀ {A : Option Addr} {m' : Nat} {xs : List Str}, RH strE w (b + 1) w.heap.size A m' xs → RH strE (((w.setCell ⟨b, j * 3, none⟩ (.string s.name)).setCell ⟨b, j * 3 + 1, none⟩ (.int .i64 s.st)).setCell ⟨b, j * 3 + 2, none⟩ (.slice B m d)) (b + 1) w.heap.size A m' xs := fun h =>
    h.same ⟨fun i h1 _ => ((Below.heap_setCell _ _ _ i (by show i ≠ b; omega)).trans (Below.heap_setCell _ _ _ i (by show i ≠ b; omega))).trans (Below.heap_setCell _ _ _ i (by show i ≠ b; omega))⟩
  refine ⟨by rw [List.length_set]; exact h.1, fun hn => by rw [hsz]; exact h.2.1 hn, fun k hkn => ?_⟩
  obtain ⟨c1, c4, ⟨A, m', c, c2, c3, c5⟩⟩ := h.2.2 k hkn
  rw [nth_set (by rw [h.1]; exact hj), hsz]
  by_cases hkj : k = j
  · subst hkj
    rw [if_pos rfl]
    exact ⟨(c1.set_same.set_other (.inr (by omega))).set_other (.inr (by omega)), ((c4.set_other (.inr (by omega))).set_same).set_other (.inr (by omega)), ⟨B, m, d, ((c2.set_other (.inr (by omega))).set_other (.inr (by omega))).set_same, hk2 hs, hmd⟩⟩
  · rw [if_neg hkj]
    exact ⟨((c1.set_other (.inr (by omega))).set_other (.inr (by omega))).set_other (.inr (by omega)), ((c4.set_other (.inr (by omega))).set_other (.inr (by omega))).set_other (.inr (by omega)), ⟨A, m', c, ((c2.set_other (.inr (by omega))).set_other (.inr (by omega))).set_other (.inr (by omega)), hk2 c3, c5⟩⟩
theorem own_fresh_case {w : World} {base : Nat} {e : TypeId} {v : Value} {n : Nat} (h : w.ownsRow base e 3 v n (madeCells #[.string ⟨#[]⟩, .int .i64 0, .slice none 0 0] (n * 3)).toList) :
    ∃ A c, v = .slice A n c ∧ (0 < n → ∃ b, A = some ⟨b, 0, none⟩ ∧ base ≤ b) ∧ ∀ b, A = some ⟨b, 0, none⟩ → CRow w b n (List.replicate n ⟨⟨#[]⟩, 0, []⟩) := by
  obtain ⟨A, c, hv, hf⟩ := own_made (m := 3) (z := #[.string ⟨#[]⟩, .int .i64 0, .slice none 0 0]) rfl h
  refine ⟨A, c, hv, fun hn => ?_, fun b hb => ⟨by simp, fun hn => ?_, fun k hk => ?_⟩⟩
  · obtain ⟨b, e1, h1, _⟩ := hf hn
    exact ⟨b, e1, h1⟩
  · obtain ⟨b', e1, _, h2, _⟩ := hf hn
    rw [hb] at e1
    injection e1 with e1; injection e1 with e2
    subst e2; exact h2
  · obtain ⟨b', e1, h1, h2, hc⟩ := hf (by omega)
    rw [hb] at e1
    injection e1 with e1; injection e1 with e2
    subst e2
    rw [nth_rep hk]
    exact ⟨hc k hk 0 _ (by omega) rfl, hc k hk 1 _ (by omega) rfl, ⟨none, 0, 0, hc k hk 2 _ (by omega) rfl, RH.nil, Nat.le_refl _⟩⟩

set_option maxRecDepth 100000 in
theorem toCaseS_any (A : Option Addr) (n c : Nat) (xs : List Case) (lo : Nat) (w : World) (hr : RCase w lo A n xs) (hok : okCases xs) :
    Calls Try.prog 37 #[.slice A n c] w fun e w' => ∃ A' c', e = .returned (.slice A' n c') ∧ RCase w' w.heap.size A' n xs ∧ Below w.heap.size w w' := by
  have hn : n ≤ 1048576 := by have := hok.1; rw [hr.1] at this; exact this
  have HO := Lib.hid hok; clear hok
  have HR := Lib.hid hr; clear hr
  obtain ⟨i0, hi0, hz0, hz1, hz2⟩ := info_parts info_case
  go_enter Try.func37, Try.ntmps37
  go_wp2_with (at_make; refine wpList_make_full _ rfl _ _ 34 rfl w.heap.size 46 i0 _ 3 Try.underlying34 hi0 hz0 hz1 _ _ _ _ n rfl rfl rfl rfl ?c1 ?c2 (Nat.le_refl _) ?_)
  case c1 => rw [hz2]; omega
  case c2 => unfold maxLen; omega
  intro w1 hown hgr
  have hbw : Below w.heap.size w w1 := (Below.refl _ _).grown hgr (Nat.le_refl _) (by simp)
  obtain ⟨A1, c1, hv1, _, hr1⟩ := own_fresh_case hown
  injection hv1 with hA1 hn1 hc1
  subst hA1
  have HR1 := Lib.hid (hr1 w.heap.size rfl)
  clear hn1 hc1 hown hgr hr1
  have HB1 := Lib.hid hbw; clear hbw
  go_wp2_with fail
  go_loopw [4] (fun i wr => ∃ j : Nat, ∃ ys : List Case, j ≤ n ∧ i = .int .i64 (j : Int) ∧ CRow wr w.heap.size n ys ∧ (∀ l, l < j → nth ys l = nth xs l) ∧ Below w.heap.size w wr) (fun i _ => n - (intOf i).toNat)
  case atStart => exact ⟨0, _, Nat.zero_le _, rfl, HR1.out, fa_zero, HB1.out⟩
  case round =>
    obtain ⟨j, ys, hj, rfl, hys, hp, hb⟩ := hrel
    have HP := Lib.hid hp; clear hp
    have HB := Lib.hid hb; clear hb
    have HY := Lib.hid hys; clear hys
    by_cases hlt : j < n
    · obtain ⟨b, off, rfl, ⟨hb1, hb2⟩, hc⟩ := RCase.at_ (HR.out.below HB.out) hlt
      obtain ⟨A', n', c', ⟨d1, d2, d3⟩, hra, _⟩ := hc j hlt
      clear hc
      have HRA := Lib.hid hra; clear hra
      have hlb := HY.out.2.1 (by omega)
      have hn' : n' ≤ 1048576 := by
        have h1 := (HO.out.2 j (by rw [HR.out.1]; exact hlt)).2
        have h2 := HRA.out.1
        omega
      go_wp2_with fail
      refine (toCase_any _ _ _ (nth xs j) _ _ HRA.out hn').mono ?_
      rintro e w2 ⟨A2, c2, rfl, hr2, hbw, hle⟩
      have HBW := Lib.hid hbw; clear hbw
      have HR2 := Lib.hid (hr2.lower (show w.heap.size + 1 ≤ wr.heap.size by omega)); clear hr2
      have HY2 := Lib.hid (HY.out.below HBW.out)
      have HB2 := Lib.hid (HB.out.trans (HBW.out.mono HB.out.size))
      obtain ⟨⟨f1, g1⟩, ⟨f2, g2⟩, ⟨_, _, _, ⟨f3, g3⟩, _⟩⟩ := HY2.out.2.2 j hlt
      go_wp2_with fail
      go_roundw
      case rel =>
        refine ⟨j + 1, ys.set j (nth xs j), by omega, by go_num, HY2.out.set hlt HR2.out.low hle, ?_, ((HB2.out.setCell (Nat.le_refl _) _).setCell (Nat.le_refl _) _).setCell (Nat.le_refl _) _⟩
        intro l hl
        rw [nth_set (by rw [HY.out.1]; exact hlt)]
        by_cases e : l = j
        · rw [if_pos e, e]
        · rw [if_neg e]; exact HP.out l (by omega)
      case measure => simp [intOf]; omega
    · go_wp2_with fail
      go_ret
      refine ⟨_, _, rfl, ?_, HB.out⟩
      have e : ys = xs := list_ext (by rw [HY.out.1, HR.out.1]) (fun l hl => HP.out l (by rw [HY.out.1] at hl; omega))
      rw [← e]; exact HY.out.hat
end Go.Proofs.Ytfcbpgpmafmkhaa
