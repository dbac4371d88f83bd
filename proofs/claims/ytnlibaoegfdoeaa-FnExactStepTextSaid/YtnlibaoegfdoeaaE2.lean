/- What the exact laws need beside the functions: guards. -/
import Derived.Test.YtnlibaoegfdoeaaE1
namespace Go.Proofs.Ytnlibaoegfdoeaa
open Go.RowKit

def szI (sz left : Int) : Int := if sz ≤ left then left - sz else -1
theorem szI_yes {sz left : Int} (h : sz ≤ left) : szI sz left = left - sz := by unfold szI; rw [if_pos h]
theorem szI_no {sz left : Int} (h : ¬ sz ≤ left) : szI sz left = -1 := by unfold szI; rw [if_neg h]

set_option maxRecDepth 100000 in
theorem szGuard_any (s : Str) (v l : Int) (left : Int) (w : World) (hs : s.size ≤ maxLen) (h0 : 0 ≤ left) (h1 : left ≤ 1048576) :
    Calls Try.prog 56 #[.agg #[.string s, .int .i64 v, .int .i64 l], .int .i64 left] w fun e w' =>
      e = .returned (.int .i64 (szI s.size left)) ∧ Below w.heap.size w w' := by
  unfold maxLen at hs
  by_cases h : (s.size : Int) ≤ left
  · go_enter Try.func56, Try.ntmps56
    go_wp2_with fail
    go_ret
    exact ⟨ret_i (szI_yes h).symm, (Below.refl _ _).alloc (Nat.le_refl _) _⟩
  · go_enter Try.func56, Try.ntmps56
    go_wp2_with fail
    go_ret
    exact ⟨ret_i (szI_no (by omega)).symm, (Below.refl _ _).alloc (Nat.le_refl _) _⟩

def SzQ (left : Int) (ok : Prop) (w : World) (e : Ending) (w' : World) : Prop := ∃ r : Int, e = .returned (.int .i64 r) ∧ -1 ≤ r ∧ (0 ≤ r → r ≤ left ∧ ok) ∧ Below w.heap.size w w'

set_option maxRecDepth 100000 in
theorem szGuardS_any (A : Option Addr) (n c : Nat) (xs : List Guard) (lo : Nat) (left : Int) (w : World) (hr : RGuard w lo A n xs) (hn : n ≤ maxLen) (hs : ∀ j, j < n → (nth xs j).name.size ≤ maxLen) (h0 : 0 ≤ left) (h1 : left ≤ 1048576) :
    Calls Try.prog 22 #[.slice A n c, .int .i64 left] w (SzQ left (n ≤ 1048576 ∧ okG xs) w) := by
  have HR := Lib.hid hr; clear hr
  have HS := Lib.hid hs; clear hs
  unfold maxLen at hn
  by_cases hbig : left < (n : Int)
  · go_enter Try.func22, Try.ntmps22
    go_wp2_with fail
    go_ret
    exact ⟨_, rfl, by omega, fun h => absurd h (by omega), Below.refl _ _⟩
  go_enter Try.func22, Try.ntmps22
  go_wp2_with fail
  go_loopw [1, 5] (fun q i wr => ∃ j : Nat, ∃ r : Int, j ≤ n ∧ i = .int .i64 (j : Int) ∧ q = .int .i64 r ∧ 0 ≤ r ∧ r ≤ left ∧ (∀ l, l < j → (nth xs l).name.size ≤ 1048576) ∧ Below w.heap.size w wr) (fun _ i _ => n - (intOf i).toNat)
  case atStart => exact ⟨0, _, Nat.zero_le _, rfl, rfl, by omega, by omega, fa_zero, Below.refl _ _⟩
  case round =>
    obtain ⟨j, r, hj, rfl, rfl, hr0, hr1, hp, hb⟩ := hrel
    have HP := Lib.hid hp; clear hp
    have HB := Lib.hid hb; clear hb
    by_cases hlt : j < n
    · obtain ⟨b, off, rfl, ⟨hb1, hb2⟩, hc⟩ := RGuard.at_ (HR.out.below HB.out) hlt
      obtain ⟨⟨c1, c2, c3⟩, _⟩ := hc j hlt
      clear hc
      have hsz := HS.out j hlt
      by_cases hfit : ((nth xs j).name.size : Int) ≤ r
      · go_wp2_with fail
        refine (szGuard_any _ _ _ r _ hsz hr0 (by omega)).mono ?_
        rintro e w1 ⟨rfl, hbw⟩
        rw [szI_yes hfit]
        have HBW := Lib.hid hbw; clear hbw
        unfold maxLen at hsz
        go_wp2_with fail
        go_roundw
        case rel => exact ⟨j + 1, _, by omega, by go_num, rfl, by omega, by omega, fa_succ HP.out (by omega), HB.out.trans (HBW.out.mono HB.out.size)⟩
        case measure => simp [intOf]; omega
      · go_wp2_with fail
        refine (szGuard_any _ _ _ r _ hsz hr0 (by omega)).mono ?_
        rintro e w1 ⟨rfl, hbw⟩
        rw [szI_no (by omega)]
        have HBW := Lib.hid hbw; clear hbw
        go_wp2_with fail
        go_ret
        exact ⟨_, rfl, by omega, fun h => absurd h (by omega), HB.out.trans (HBW.out.mono HB.out.size)⟩
    · go_wp2_with fail
      go_ret
      exact ⟨_, rfl, by omega, fun _ => ⟨hr1, by omega, by rw [HR.out.1]; omega, fun l hl => Nat.le_trans (HP.out l (by rw [HR.out.1] at hl; omega)) (by unfold maxLen; omega)⟩, HB.out⟩

set_option maxRecDepth 100000 in
theorem toGuard_any (s : Str) (v l : Int) (w : World) :
    Calls Try.prog 57 #[.agg #[.string s, .int .i64 v, .int .i64 l]] w fun e w' => e = .returned (.agg #[.string s, .int .i64 v, .int .i64 l]) ∧ Below w.heap.size w w' := by
  go_enter Try.func57, Try.ntmps57
  go_wp2_with fail
  exact bodyPost_ret (v := .agg #[.string s, .int .i64 v, .int .i64 l]) (by simp [results, Try.results57, go_sem]) rfl ⟨rfl, (((Below.refl _ _).alloc (Nat.le_refl _) _).alloc (by simp) _).alloc (by simp; omega) _⟩

theorem RGuard.hset {w : World} {lo hi b off n j : Nat} {gs : List Guard} (h : RH guardE w lo hi (some ⟨b, off, none⟩) n gs) (hj : j < n) (x : Guard) :
    RH guardE (((w.setCell ⟨b, off + j * 3, none⟩ (.string x.name)).setCell ⟨b, off + j * 3 + 1, none⟩ (.int .i64 x.var)).setCell ⟨b, off + j * 3 + 2, none⟩ (.int .i64 x.least)) lo hi (some ⟨b, off, none⟩) n (gs.set j x) := by
  refine ⟨by rw [List.length_set]; exact h.1, fun hn => ?_⟩
  obtain ⟨b', off', e, h1, h2, hc⟩ := h.2 hn
  injection e with e; injection e with e1 e2
  subst e1; subst e2
  refine ⟨b, off, rfl, h1, h2, fun k hk => ?_⟩
  obtain ⟨c1, c2, c3⟩ := hc k hk
  rw [nth_set (by rw [h.1]; exact hj)]
  by_cases hkj : k = j
  · subst hkj
    rw [if_pos rfl]
    exact ⟨(c1.set_same.set_other (.inr (by show off + k * 3 ≠ _; omega))).set_other (.inr (by show off + k * 3 ≠ _; omega)),
      ((c2.set_other (.inr (by show off + k * 3 + 1 ≠ _; omega))).set_same).set_other (.inr (by show off + k * 3 + 1 ≠ _; omega)),
      ((c3.set_other (.inr (by show off + k * 3 + 2 ≠ _; omega))).set_other (.inr (by show off + k * 3 + 2 ≠ _; omega))).set_same⟩
  · rw [if_neg hkj]
    exact ⟨((c1.set_other (.inr (by show off + k * 3 ≠ _; omega))).set_other (.inr (by show off + k * 3 ≠ _; omega))).set_other (.inr (by show off + k * 3 ≠ _; omega)),
      ((c2.set_other (.inr (by show off + k * 3 + 1 ≠ _; omega))).set_other (.inr (by show off + k * 3 + 1 ≠ _; omega))).set_other (.inr (by show off + k * 3 + 1 ≠ _; omega)),
      ((c3.set_other (.inr (by show off + k * 3 + 2 ≠ _; omega))).set_other (.inr (by show off + k * 3 + 2 ≠ _; omega))).set_other (.inr (by show off + k * 3 + 2 ≠ _; omega))⟩

theorem RGuard.set_ {w : World} {lo b off n j : Nat} {gs : List Guard} (h : RGuard w lo (some ⟨b, off, none⟩) n gs) (hj : j < n) (x : Guard) :
    RGuard (((w.setCell ⟨b, off + j * 3, none⟩ (.string x.name)).setCell ⟨b, off + j * 3 + 1, none⟩ (.int .i64 x.var)).setCell ⟨b, off + j * 3 + 2, none⟩ (.int .i64 x.least)) lo (some ⟨b, off, none⟩) n (gs.set j x) := (RGuard.hset h.low hj x).up (by simp)

set_option maxRecDepth 100000 in
theorem toGuardS_any (A : Option Addr) (n c : Nat) (xs : List Guard) (lo : Nat) (w : World) (hr : RGuard w lo A n xs) (hn : n ≤ 1048576) :
    Calls Try.prog 23 #[.slice A n c] w fun e w' => ∃ A' c', e = .returned (.slice A' n c') ∧ RGuard w' w.heap.size A' n xs ∧ Below w.heap.size w w' := by
  have HR := Lib.hid hr; clear hr
  obtain ⟨i0, hi0, hz0, hz1, hz2⟩ := info_parts info_guard
  go_enter Try.func23, Try.ntmps23
  go_wp2_with (at_make; refine wpList_make_full _ rfl _ _ 23 rfl w.heap.size 33 i0 _ 3 Try.underlying23 hi0 hz0 hz1 _ _ _ _ n rfl rfl rfl rfl ?c1 ?c2 (Nat.le_refl _) ?_)
  case c1 => rw [hz2]; omega
  case c2 => unfold maxLen; omega
  intro w1 hown hgr
  have hbw : Below w.heap.size w w1 := (Below.refl _ _).grown hgr (Nat.le_refl _) (by simp)
  obtain ⟨A1, c1, hv1, hr1⟩ := own_fresh_guard hown
  injection hv1 with hA1 hn1 hc1
  subst hA1
  clear hn1 hc1 hown hgr
  have HR1 := Lib.hid hr1; clear hr1
  have HB1 := Lib.hid hbw; clear hbw
  go_wp2_with fail
  go_loopw [4] (fun i wr => ∃ j : Nat, ∃ ys : List Guard, j ≤ n ∧ i = .int .i64 (j : Int) ∧ RGuard wr w.heap.size (some ⟨w.heap.size, 0, none⟩) n ys ∧ (∀ l, l < j → nth ys l = nth xs l) ∧ Below w.heap.size w wr) (fun i _ => n - (intOf i).toNat)
  case atStart => exact ⟨0, _, Nat.zero_le _, rfl, HR1.out, fa_zero, HB1.out⟩
  case round =>
    obtain ⟨j, ys, hj, rfl, hys, hp, hb⟩ := hrel
    have HP := Lib.hid hp; clear hp
    have HB := Lib.hid hb; clear hb
    have HY := Lib.hid hys; clear hys
    by_cases hlt : j < n
    · obtain ⟨b, off, rfl, ⟨hb1, hb2⟩, hc⟩ := RGuard.at_ (HR.out.below HB.out) hlt
      obtain ⟨⟨d1, d2, d3⟩, _⟩ := hc j hlt
      clear hc
      go_wp2_with fail
      refine (toGuard_any _ _ _ _).mono ?_
      rintro e w2 ⟨rfl, hbw⟩
      have HBW := Lib.hid hbw; clear hbw
      have HY2 := Lib.hid (HY.out.below HBW.out)
      have HB2 := Lib.hid (HB.out.trans (HBW.out.mono HB.out.size))
      obtain ⟨b', off', e', ⟨_, hb4⟩, hc⟩ := RGuard.at_ HY2.out hlt
      injection e' with e'; injection e' with e1 e2
      have HE := Lib.hid e1; clear e1
      subst e2
      obtain ⟨⟨f1, f2, f3⟩, g1, g2, g3⟩ := hc j hlt
      rw [← HE.out, Nat.zero_add] at f1 f2 f3 g1 g2 g3
      clear hc
      go_wp2_with fail
      go_roundw
      case rel =>
        refine ⟨j + 1, ys.set j (nth xs j), by omega, by go_num, ?_, ?_, ((HB2.out.setCell (Nat.le_refl _) _).setCell (Nat.le_refl _) _).setCell (Nat.le_refl _) _⟩
        · have := RGuard.set_ HY2.out hlt (nth xs j)
          rwa [Nat.zero_add] at this
        · intro l hl
          rw [nth_set (by rw [HY.out.1]; exact hlt)]
          by_cases e : l = j
          · rw [if_pos e, e]
          · rw [if_neg e]; exact HP.out l (by omega)
      case measure => simp [intOf]; omega
    · go_wp2_with fail
      go_ret
      refine ⟨_, _, rfl, ?_, HB.out⟩
      have e : ys = xs := list_ext (by rw [HY.out.1, HR.out.1]) (fun l hl => HP.out l (by rw [HY.out.1] at hl; omega))
      rw [← e]; exact HY.out

set_option maxRecDepth 100000 in
theorem eqGuard_same (s : Str) (v l : Int) (w : World) :
    Calls Try.prog 58 #[.agg #[.string s, .int .i64 v, .int .i64 l], .agg #[.string s, .int .i64 v, .int .i64 l]] w fun e w' => e = .returned (.bool true) ∧ Below w.heap.size w w' := by
  go_enter Try.func58, Try.ntmps58
  go_wp2_with fail
  go_ret
  exact ⟨rfl, ((Below.refl _ _).alloc (Nat.le_refl _) _).alloc (by simp) _⟩

set_option maxRecDepth 100000 in
theorem eqGuardS_same (A B : Option Addr) (n c d : Nat) (xs : List Guard) (lo lo' : Nat) (w : World) (hr : RGuard w lo A n xs) (hn : n ≤ 1048576) (hr' : RGuard w lo' B n xs) :
    Calls Try.prog 26 #[.slice A n c, .slice B n d] w fun e w' => e = .returned (.bool true) ∧ Below w.heap.size w w' := by
  have HX := Lib.hid hr; clear hr
  have HY := Lib.hid hr'; clear hr'
  go_enter Try.func26, Try.ntmps26
  go_wp2_with fail
  go_loopw [5] (fun i wr => ∃ k : Nat, k ≤ n ∧ i = .int .i64 k ∧ Below w.heap.size w wr) (fun i _ => n - (intOf i).toNat)
  case atStart => exact ⟨0, Nat.zero_le _, rfl, Below.refl _ _⟩
  case round =>
    obtain ⟨k, hk, rfl, hb⟩ := hrel
    have HB := Lib.hid hb; clear hb
    by_cases hlt : k < n
    · obtain ⟨b, off, rfl, ⟨_, hb2⟩, hc⟩ := RGuard.at_ (HX.out.below HB.out) hlt
      obtain ⟨⟨c1, c2, c3⟩, _⟩ := hc k hlt
      clear hc
      obtain ⟨b', off', rfl, ⟨_, hb4⟩, hc⟩ := RGuard.at_ (HY.out.below HB.out) hlt
      obtain ⟨⟨d1, d2, d3⟩, _⟩ := hc k hlt
      clear hc
      go_wp2_with fail
      go_region_held3 (fun w' => (w'.cell? ⟨b, off + k * 3, none⟩ = some (.string (nth xs k).name) ∧ w'.cell? ⟨b, off + k * 3 + 1, none⟩ = some (.int .i64 (nth xs k).var) ∧ w'.cell? ⟨b, off + k * 3 + 2, none⟩ = some (.int .i64 (nth xs k).least)) ∧
          w'.cell? ⟨b', off' + k * 3, none⟩ = some (.string (nth xs k).name) ∧ w'.cell? ⟨b', off' + k * 3 + 1, none⟩ = some (.int .i64 (nth xs k).var) ∧ w'.cell? ⟨b', off' + k * 3 + 2, none⟩ = some (.int .i64 (nth xs k).least))
        (first | go_keep | exact ⟨⟨(hbw.cell (p := ⟨b, _, none⟩) hb2).trans c1, (hbw.cell (p := ⟨b, _, none⟩) hb2).trans c2, (hbw.cell (p := ⟨b, _, none⟩) hb2).trans c3⟩, (hbw.cell (p := ⟨b', _, none⟩) hb4).trans d1, (hbw.cell (p := ⟨b', _, none⟩) hb4).trans d2, (hbw.cell (p := ⟨b', _, none⟩) hb4).trans d3⟩)
        (first | (go_at_call 58; refine (eqGuard_same _ _ _ _).mono ?_; rintro e w1 ⟨rfl, hbw⟩))
      go_wp2_with fail
      go_roundw
      case rel => exact ⟨k + 1, by omega, by go_num, HB.out.drew.trans (hbw.mono HB.out.size)⟩
      case measure => simp [intOf]; omega
    · go_wp2_with fail
      go_ret
      exact ⟨rfl, HB.out⟩

set_option maxRecDepth 100000 in
theorem markGuardS_any (A : Option Addr) (n c k : Nat) (xs : List Guard) (lo hi : Nat) (w : World) (hr : RH guardE w lo hi A n xs) (hn : n ≤ 1048576) (h1 : 1 ≤ k) (h2 : k ≤ 549755813888) (hhi : hi ≤ w.heap.size) :
    Calls Try.prog 28 #[.slice A n c, .int .i64 (k : Int)] w fun e w' => e = .returned (.int .i64 ((k + 3 * n : Nat) : Int)) ∧ Out lo hi w w' := by
  have HR := Lib.hid hr; clear hr
  go_enter Try.func28, Try.ntmps28
  go_wp2_with fail
  go_loopw [1, 5] (fun q i wr => ∃ j m : Nat, ∃ ys : List Guard, j ≤ n ∧ i = .int .i64 (j : Int) ∧ q = .int .i64 (m : Int) ∧ m = k + 3 * j ∧ RH guardE wr lo hi A n ys ∧ Out lo hi w wr) (fun _ i _ => n - (intOf i).toNat)
  case atStart => exact ⟨0, k, xs, Nat.zero_le _, rfl, rfl, rfl, HR.out, Out.refl⟩
  case round =>
    obtain ⟨j, m, ys, hj, rfl, rfl, hm, hys, hb⟩ := hrel
    have HM := Lib.hid hm
    have HB := Lib.hid hb; clear hb
    have HY := Lib.hid hys; clear hys
    have hm1 : 1 ≤ m := by omega
    have hm2 : m ≤ 1099511627776 := by omega
    have hm3 : (m : Int) ≤ 1099511627776 := by omega
    clear hm
    by_cases hlt : j < n
    · obtain ⟨b, off, rfl, ⟨hb1, hb2⟩, hc⟩ := RGuard.hat HY.out hlt
      have hwr : hi ≤ wr.heap.size := Nat.le_trans hhi HB.out.size
      clear hc
      go_wp2_with fail
      refine (markText_any m _ hm1 hm2).mono ?_
      rintro e w1 ⟨rfl, hbw⟩
      have HBW := Lib.hid hbw; clear hbw
      have HY2 := Lib.hid (HY.out.below HBW.out hwr)
      obtain ⟨b', off', e', _, hc⟩ := RGuard.hat HY2.out hlt
      injection e' with e'; injection e' with e1 e2
      subst e1; subst e2
      obtain ⟨⟨f1, f2, f3⟩, g1, g2, g3⟩ := hc j hlt
      clear hc
      go_wp2_with fail
      go_roundw
      case rel =>
        exact ⟨j + 1, m + 3, ys.set j ⟨markS m, (m : Int) + 1, (m : Int) + 2⟩, by omega, by go_num, by go_num, by rw [HM.out]; omega, RGuard.hset HY2.out hlt ⟨markS m, (m : Int) + 1, (m : Int) + 2⟩, (((HB.out.trans (Out.of_below HBW.out)).set_ hb1 hb2 _ _).set_ hb1 hb2 _ _).set_ hb1 hb2 _ _⟩
      case measure => simp [intOf]; omega
    · go_wp2_with fail
      go_ret
      exact ⟨ret_i (by rw [HM.out, show j = n by omega]), HB.out⟩
end Go.Proofs.Ytnlibaoegfdoeaa
