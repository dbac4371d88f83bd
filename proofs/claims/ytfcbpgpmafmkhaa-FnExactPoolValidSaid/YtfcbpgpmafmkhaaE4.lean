/- What the exact laws need beside the functions: lists of names, steps. -/
import Derived.Test.YtfcbpgpmafmkhaaE3
import Derived.Test.YtfcbpgpmafmkhaaS1
namespace Go.Proofs.Ytfcbpgpmafmkhaa
open Go.RowKit

set_option maxRecDepth 100000 in
theorem szStringS_any (A : Option Addr) (n c : Nat) (xs : List Str) (lo : Nat) (left : Int) (w : World) (hr : RStr w lo A n xs) (hn : n ≤ maxLen) (hs : ∀ j, j < n → (nth xs j).size ≤ maxLen) (h0 : 0 ≤ left) (h1 : left ≤ 1048576) :
    Calls Try.prog 107 #[.slice A n c, .int .i64 left] w (SzQ left (n ≤ 1048576 ∧ okS xs) w) := by
  have HR := Lib.hid hr; clear hr
  have HS := Lib.hid hs; clear hs
  unfold maxLen at hn
  by_cases hbig : left < (n : Int)
  · go_enter Try.func107, Try.ntmps107
    go_wp2_with fail
    go_ret
    exact ⟨_, rfl, by omega, fun h => absurd h (by omega), Below.refl _ _⟩
  go_enter Try.func107, Try.ntmps107
  go_wp2_with fail
  go_loop [1, 5] (fun q i => ∃ j : Nat, ∃ r : Int, j ≤ n ∧ i = .int .i64 (j : Int) ∧ q = .int .i64 r ∧ 0 ≤ r ∧ r ≤ left ∧ (∀ l, l < j → (nth xs l).size ≤ 1048576)) (fun _ i => n - (intOf i).toNat)
  case atStart => exact ⟨0, _, Nat.zero_le _, rfl, rfl, by omega, by omega, fa_zero⟩
  case round =>
    obtain ⟨j, r, hj, rfl, rfl, hr0, hr1, hp⟩ := hrel
    have HP := Lib.hid hp; clear hp
    by_cases hlt : j < n
    · obtain ⟨b, off, rfl, _, hc⟩ := RStr.at_ HR.out hlt
      obtain ⟨c1, _⟩ := hc j hlt
      clear hc
      have hsz := HS.out j hlt
      unfold maxLen at hsz
      by_cases hfit : ((nth xs j).size : Int) ≤ r
      · go_wp2_with fail
        go_round
        case rel => exact ⟨j + 1, _, by omega, by go_num, rfl, by omega, by omega, fa_succ HP.out (by omega)⟩
        case measure => simp [intOf]; omega
      · go_wp2_with fail
        go_ret
        exact ⟨_, rfl, by omega, fun h => absurd h (by omega), Below.refl _ _⟩
    · go_wp2_with fail
      go_ret
      exact ⟨_, rfl, by omega, fun _ => ⟨hr1, by omega, by rw [HR.out.1]; omega, fun l hl => Nat.le_trans (HP.out l (by rw [HR.out.1] at hl; omega)) (by unfold maxLen; omega)⟩, Below.refl _ _⟩

set_option maxRecDepth 100000 in
theorem szStep_any (A : Option Addr) (n c : Nat) (s : Step) (lo : Nat) (left : Int) (w : World) (hr : RStr w lo A n s.after) (hn : n ≤ maxLen) (hs : ∀ j, j < n → (nth s.after j).size ≤ maxLen) (hz : s.name.size ≤ maxLen) (h0 : 0 ≤ left) (h1 : left ≤ 1048576) :
    Calls Try.prog 80 #[.agg #[.string s.name, .slice A n c, .bool s.undo], .int .i64 left] w (SzQ left (okStep s) w) := by
  have HR := Lib.hid hr; clear hr
  have HS := Lib.hid hs; clear hs
  have HN := Lib.hid hn; clear hn
  have HZ := Lib.hid hz
  unfold maxLen at hz
  by_cases h : (s.name.size : Int) ≤ left
  · go_enter Try.func80, Try.ntmps80
    go_wp2_with fail
    refine (szStringS_any _ _ _ s.after _ _ _ (HR.out.alloc _) HN.out HS.out (by omega) (by omega)).mono ?_
    rintro e w1 ⟨r, rfl, hr0, hr1, hb⟩
    have HB := Lib.hid (((Below.refl w.heap.size w).alloc (Nat.le_refl _) (.cells #[.string s.name, .slice A n c, .bool s.undo] 96)).trans (hb.mono (by simp)))
    clear hb
    have HR1 := Lib.hid hr1; clear hr1
    by_cases hneg : r < 0
    · go_wp2_with fail
      go_ret
      exact ⟨_, rfl, by omega, fun h => absurd h (by omega), HB.out⟩
    · go_wp2_with fail
      go_ret
      exact ⟨_, rfl, by omega, fun hp => ⟨by have := (HR1.out hp).1; omega, HZ.out, (HR1.out hp).2.2⟩, HB.out⟩
  · go_enter Try.func80, Try.ntmps80
    go_wp2_with fail
    go_ret
    exact ⟨_, rfl, by omega, fun hp => absurd hp (by omega), (Below.refl _ _).alloc (Nat.le_refl _) _⟩

theorem own_cap {w : World} {base : Nat} {e : TypeId} {size n : Nat} {A : Option Addr} {c : Nat} {xs : List Value} (h : w.ownsRow base e size (.slice A n c) n xs) : n ≤ c := by
  rcases h.2 with ⟨h1, rfl⟩ | ⟨g, cap, cur, e, _, _, h1, _⟩
  · exact Nat.zero_le _
  · injection e with _ _ e
    subst e; exact h1

set_option maxRecDepth 100000 in
theorem toStringSc_any (A : Option Addr) (n c : Nat) (xs : List Str) (lo : Nat) (w : World) (hr : RStr w lo A n xs) (hn : n ≤ 1048576) :
    Calls Try.prog 109 #[.slice A n c] w fun e w' => ∃ A' c', e = .returned (.slice A' n c') ∧ RStr w' w.heap.size A' n xs ∧ Below w.heap.size w w' ∧ n ≤ c' := by
  have HR := Lib.hid hr; clear hr
  obtain ⟨i0, hi0, hz0, hz1, hz2⟩ := info_parts info_str
  go_enter Try.func109, Try.ntmps109
  go_wp2_with (at_make; refine wpList_make_full _ rfl _ _ 42 rfl w.heap.size 9 i0 _ 1 Try.underlying42 hi0 hz0 hz1 _ _ _ _ n rfl rfl rfl rfl ?c1 ?c2 (Nat.le_refl _) ?_)
  case c1 => rw [hz2]; omega
  case c2 => unfold maxLen; omega
  intro w1 hown hgr
  have hbw : Below w.heap.size w w1 := (Below.refl _ _).grown hgr (Nat.le_refl _) (by simp)
  obtain ⟨A1, c1, hv1, hr1⟩ := own_fresh_str hown
  have hle := own_cap hown
  injection hv1 with hA1 hn1 hc1
  subst hA1
  clear hn1 hc1 hown hgr
  have HR1 := Lib.hid hr1; clear hr1
  have HB1 := Lib.hid hbw; clear hbw
  go_wp2_with fail
  go_loopw [4] (fun i wr => ∃ j : Nat, ∃ ys : List Str, j ≤ n ∧ i = .int .i64 (j : Int) ∧ RStr wr w.heap.size (some ⟨w.heap.size, 0, none⟩) n ys ∧ (∀ l, l < j → nth ys l = nth xs l) ∧ Below w.heap.size w wr) (fun i _ => n - (intOf i).toNat)
  case atStart => exact ⟨0, _, Nat.zero_le _, rfl, HR1.out, fa_zero, HB1.out⟩
  case round =>
    obtain ⟨j, ys, hj, rfl, hys, hp, hb⟩ := hrel
    have HP := Lib.hid hp; clear hp
    have HB := Lib.hid hb; clear hb
    have HY := Lib.hid hys; clear hys
    by_cases hlt : j < n
    · obtain ⟨b, off, rfl, ⟨hb1, hb2⟩, hc⟩ := RStr.at_ (HR.out.below HB.out) hlt
      obtain ⟨d1, _⟩ := hc j hlt
      clear hc
      obtain ⟨b', off', e', _, hc⟩ := RStr.at_ HY.out hlt
      injection e' with e'; injection e' with e1 e2
      have HE := Lib.hid e1; clear e1
      subst e2
      obtain ⟨f1, f2⟩ := hc j hlt
      rw [← HE.out, Nat.zero_add] at f1 f2
      clear hc
      go_wp2_with fail
      go_roundw
      case rel =>
        refine ⟨j + 1, ys.set j (nth xs j), by omega, by go_num, ?_, ?_, HB.out.setCell (Nat.le_refl _) _⟩
        · have := RStr.set_ HY.out hlt (nth xs j)
          rwa [Nat.zero_add] at this
        · intro l hl
          rw [nth_set (by rw [HY.out.1]; exact hlt)]
          by_cases e : l = j
          · rw [if_pos e, e]
          · rw [if_neg e]; exact HP.out l (by omega)
      case measure => simp [intOf]; omega
    · go_wp2_with fail
      go_ret
      refine ⟨_, _, rfl, ?_, HB.out, hle⟩
      have e : ys = xs := list_ext (by rw [HY.out.1, HR.out.1]) (fun l hl => HP.out l (by rw [HY.out.1] at hl; omega))
      rw [← e]; exact HY.out

theorem toStringS_any (A : Option Addr) (n c : Nat) (xs : List Str) (lo : Nat) (w : World) (hr : RStr w lo A n xs) (hn : n ≤ 1048576) :
    Calls Try.prog 109 #[.slice A n c] w fun e w' => ∃ A' c', e = .returned (.slice A' n c') ∧ RStr w' w.heap.size A' n xs ∧ Below w.heap.size w w' :=
  (toStringSc_any A n c xs lo w hr hn).mono (fun _ _ ⟨A', c', h1, h2, h3, _⟩ => ⟨A', c', h1, h2, h3⟩)

set_option maxRecDepth 100000 in
theorem toStepc_any (A : Option Addr) (n c : Nat) (s : Step) (lo : Nat) (w : World) (hr : RStr w lo A n s.after) (hn : n ≤ 1048576) :
    Calls Try.prog 86 #[.agg #[.string s.name, .slice A n c, .bool s.undo]] w fun e w' => ∃ A' c', e = .returned (.agg #[.string s.name, .slice A' n c', .bool s.undo]) ∧ RStr w' w.heap.size A' n s.after ∧ Below w.heap.size w w' ∧ n ≤ c' := by
  have HR := Lib.hid hr; clear hr
  go_enter Try.func86, Try.ntmps86
  go_wp2_with fail
  refine (toStringSc_any _ _ _ s.after _ _ (((HR.out.alloc _).alloc _).alloc _) hn).mono ?_
  rintro e w1 ⟨A2, c2, rfl, hr2, hb, hle⟩
  have hsz : (((w.alloc (.cells #[.string s.name, .slice A n c, .bool s.undo] 96)).alloc (.cells #[.string ⟨#[]⟩, .slice none 0 0, .bool false] 50)).alloc (.cells #[.string s.name, .slice none 0 0, .bool false] 50)).heap.size = w.heap.size + 1 + 1 + 1 := by simp
  rw [hsz] at hr2 hb
  have H0 := Lib.hid ((hb.block w.heap.size (by omega)).trans (heap_old (o := .cells #[.string s.name, .slice none 0 0, .bool false] 50) (heap_old (o := .cells #[.string ⟨#[]⟩, .slice none 0 0, .bool false] 50) (heap_new (w := w) (o := .cells #[.string s.name, .slice A n c, .bool s.undo] 96) rfl))))
  have H1 := Lib.hid ((hb.block (w.heap.size + 1) (by omega)).trans (heap_old (o := .cells #[.string s.name, .slice none 0 0, .bool false] 50) (heap_new (b := w.heap.size + 1) (o := .cells #[.string ⟨#[]⟩, .slice none 0 0, .bool false] 50) (by simp))))
  have H2 := Lib.hid ((hb.block (w.heap.size + 1 + 1) (by omega)).trans (heap_new (b := w.heap.size + 1 + 1) (o := .cells #[.string s.name, .slice none 0 0, .bool false] 50) (by simp)))
  have HB := Lib.hid (((((Below.refl w.heap.size w).alloc (Nat.le_refl _) (.cells #[.string s.name, .slice A n c, .bool s.undo] 96)).alloc (by simp) (.cells #[.string ⟨#[]⟩, .slice none 0 0, .bool false] 50)).alloc (by simp; omega) (.cells #[.string s.name, .slice none 0 0, .bool false] 50)).trans (hb.mono (by omega)))
  have HR2 := Lib.hid hr2
  clear hr2 hb hsz
  have H3 := Lib.hid (set31 (u := .slice A2 n c2) H2.out)
  have H4 := Lib.hid (show ((w1.setCell ⟨w.heap.size + 1 + 1, 1, none⟩ (.slice A2 n c2)).setCell ⟨w.heap.size + 1 + 1, 2, none⟩ (.bool s.undo)).heap[w.heap.size + 1 + 1]? = some (.cells #[.string s.name, .slice A2 n c2, .bool s.undo] 50 (0, 0)) from set_at H3.out)
  have H5 := Lib.hid (set_ne (b := w.heap.size + 1 + 1) (o := 2) (u := .bool s.undo) (set_ne (b := w.heap.size + 1 + 1) (o := 1) (u := .slice A2 n c2) H1.out (by omega)) (by omega))
  have H6 := Lib.hid (set_ne (b := w.heap.size + 1 + 1) (o := 1) (u := .slice A2 n c2) H0.out (by omega))
  have a2 := (blk_cl (k := 2) H0.out rfl).1
  have a3 := (blk_cl (k := 2) H6.out rfl).1
  have c1 := (blk_cl (k := 1) H2.out rfl).1
  have d1 := (blk_cl (k := 1) H2.out rfl).2
  have c2' := (blk_cl (k := 2) H3.out rfl).1
  have d2' := (blk_cl (k := 2) H3.out rfl).2
  have e0 := (blk_cl (k := 0) H4.out rfl).1
  have e1 := (blk_cl (k := 1) H4.out rfl).1
  have e2 := (blk_cl (k := 2) H4.out rfl).1
  have g0 := (blk_cl (k := 0) H5.out rfl).1
  have g0' := (blk_cl (k := 0) H5.out rfl).2
  have g1 := (blk_cl (k := 1) H5.out rfl).1
  have g1' := (blk_cl (k := 1) H5.out rfl).2
  have g2 := (blk_cl (k := 2) H5.out rfl).1
  have g2' := (blk_cl (k := 2) H5.out rfl).2
  go_wp2_with fail
  have hres := set3 (u0 := .string s.name) (u1 := .slice A2 n c2) (u2 := .bool s.undo) H5.out
  have p0 := (blk_cl (k := 0) hres rfl).1
  have p1 := (blk_cl (k := 1) hres rfl).1
  have p2 := (blk_cl (k := 2) hres rfl).1
  have l1 : w.heap.size + 1 < w.heap.size + 1 + 1 + 1 := by omega
  have l2 : w.heap.size + 1 + 1 < w.heap.size + 1 + 1 + 1 := by omega
  have q1 : w.heap.size ≤ w.heap.size + 1 := by omega
  have q2 : w.heap.size ≤ w.heap.size + 1 + 1 := by omega
  exact bodyPost_ret (v := .agg #[.string s.name, .slice A2 n c2, .bool s.undo]) (by simp [results, Try.results86, go_sem, p0, p1, p2]) rfl
    ⟨_, _, rfl, (((((HR2.out.setLow l2).setLow l2).setLow l1).setLow l1).setLow l1).lower (by omega),
      ((((HB.out.setCell (p := ⟨w.heap.size + 1 + 1, 1, none⟩) q2 _).setCell (p := ⟨w.heap.size + 1 + 1, 2, none⟩) q2 _).setCell (p := ⟨w.heap.size + 1, 0, none⟩) q1 _).setCell (p := ⟨w.heap.size + 1, 1, none⟩) q1 _).setCell (p := ⟨w.heap.size + 1, 2, none⟩) q1 _, hle⟩

theorem toStep_any (A : Option Addr) (n c : Nat) (s : Step) (lo : Nat) (w : World) (hr : RStr w lo A n s.after) (hn : n ≤ 1048576) :
    Calls Try.prog 86 #[.agg #[.string s.name, .slice A n c, .bool s.undo]] w fun e w' => ∃ A' c', e = .returned (.agg #[.string s.name, .slice A' n c', .bool s.undo]) ∧ RStr w' w.heap.size A' n s.after ∧ Below w.heap.size w w' :=
  (toStepc_any A n c s lo w hr hn).mono (fun _ _ ⟨A', c', h1, h2, h3, _⟩ => ⟨A', c', h1, h2, h3⟩)

set_option maxRecDepth 100000 in
theorem eqStep_same (A B : Option Addr) (n c d : Nat) (s : Step) (lo lo' : Nat) (w : World) (hr : RStr w lo A n s.after) (hn : n ≤ 1048576) (hr' : RStr w lo' B n s.after) :
    Calls Try.prog 93 #[.agg #[.string s.name, .slice A n c, .bool s.undo], .agg #[.string s.name, .slice B n d, .bool s.undo]] w fun e w' => e = .returned (.bool true) ∧ Below w.heap.size w w' := by
  have HX := Lib.hid hr; clear hr
  have HY := Lib.hid hr'; clear hr'
  have hq := seq_t (rfl : s.name = s.name)
  go_enter Try.func93, Try.ntmps93
  go_wp2_with fail
  refine (eqStringS_same _ _ _ _ _ _ s.after _ _ _ ((HX.out.alloc _).alloc _) hn ((HY.out.alloc _).alloc _)).mono ?_
  rintro e w1 ⟨rfl, q, rfl⟩
  cases hu : s.undo
  all_goals
    go_wp2_with fail
    go_ret
    exact ⟨rfl, below_drewN (((Below.refl _ _).alloc (Nat.le_refl _) _).alloc (by simp) _) _⟩
end Go.Proofs.Ytfcbpgpmafmkhaa
