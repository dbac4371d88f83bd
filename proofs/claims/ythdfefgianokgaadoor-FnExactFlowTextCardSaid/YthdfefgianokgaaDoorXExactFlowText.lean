/- FnExactFlowText's card: it returns true at every input that its row takes, and leaves its arguments as they were. No condition but the row's. -/
import Derived.Deep.Slices
import Derived.Deep.Fields
import Derived.SliceStrings
import Derived.Test.YthdfefgianokgaaDoorCards
import Derived.Test.YthdfefgianokgaaDoorTie
import Derived.Test.YthdfefgianokgaaDoorZH
import Derived.Test.YthdfefgianokgaaDoorZA
import Derived.Test.YthdfefgianokgaaDoorZC
import Derived.Test.YthdfefgianokgaaDoorZB

/- What the exact laws need beside the functions: guards. -/
namespace Go.Proofs.YthdfefgianokgaaDoor
open Go.RowKit

def szI (sz left : Int) : Int := if sz ≤ left then left - sz else -1
theorem szI_yes {sz left : Int} (h : sz ≤ left) : szI sz left = left - sz := by unfold szI; rw [if_pos h]
theorem szI_no {sz left : Int} (h : ¬ sz ≤ left) : szI sz left = -1 := by unfold szI; rw [if_neg h]

def SzQ (left : Int) (ok : Prop) (w : World) (e : Ending) (w' : World) : Prop := ∃ r : Int, e = .returned (.int .i64 r) ∧ -1 ≤ r ∧ (0 ≤ r → r ≤ left ∧ ok) ∧ Below w.heap.size w w'

theorem RGuard.hset {w : World} {lo hi b off n j : Nat} {gs : List Guard} (h : RH guardE w lo hi (some ⟨b, off, none⟩) n gs) (hj : j < n) (x : Guard) :
    RH guardE (((w.setCell ⟨b, off + j * 3, none⟩ (.string x.name)).setCell ⟨b, off + j * 3 + 1, none⟩ (.int .i64 x.var)).setCell ⟨b, off + j * 3 + 2, none⟩ (.int .i64 x.least)) lo hi (some ⟨b, off, none⟩) n (gs.set j x) := by
  refine ⟨by rw [List.length_set]; exact h.1, fun hn => ?_⟩
  obtain ⟨b', off', e, h1, h2, hc⟩ := h.2 hn
  injection e with e; injection e with e1 e2
  subst e1; subst e2
  refine ⟨b, off, rfl, h1, h2, fun k hk => ?_⟩
  obtain ⟨c1, c2, c3⟩ := hc k hk
  rw [nth_set (by rw [h.1]; exact hj)]
  by_cases hkj : k = j
  · subst hkj
    rw [if_pos rfl]
    exact ⟨(c1.set_same.set_other (.inr (by show off + k * 3 ≠ _; omega))).set_other (.inr (by show off + k * 3 ≠ _; omega)),
      ((c2.set_other (.inr (by show off + k * 3 + 1 ≠ _; omega))).set_same).set_other (.inr (by show off + k * 3 + 1 ≠ _; omega)),
      ((c3.set_other (.inr (by show off + k * 3 + 2 ≠ _; omega))).set_other (.inr (by show off + k * 3 + 2 ≠ _; omega))).set_same⟩
  · rw [if_neg hkj]
    exact ⟨((c1.set_other (.inr (by show off + k * 3 ≠ _; omega))).set_other (.inr (by show off + k * 3 ≠ _; omega))).set_other (.inr (by show off + k * 3 ≠ _; omega)),
      ((c2.set_other (.inr (by show off + k * 3 + 1 ≠ _; omega))).set_other (.inr (by show off + k * 3 + 1 ≠ _; omega))).set_other (.inr (by show off + k * 3 + 1 ≠ _; omega)),
      ((c3.set_other (.inr (by show off + k * 3 + 2 ≠ _; omega))).set_other (.inr (by show off + k * 3 + 2 ≠ _; omega))).set_other (.inr (by show off + k * 3 + 2 ≠ _; omega))⟩

theorem RGuard.set_ {w : World} {lo b off n j : Nat} {gs : List Guard} (h : RGuard w lo (some ⟨b, off, none⟩) n gs) (hj : j < n) (x : Guard) :
    RGuard (((w.setCell ⟨b, off + j * 3, none⟩ (.string x.name)).setCell ⟨b, off + j * 3 + 1, none⟩ (.int .i64 x.var)).setCell ⟨b, off + j * 3 + 2, none⟩ (.int .i64 x.least)) lo (some ⟨b, off, none⟩) n (gs.set j x) := (RGuard.hset h.low hj x).up (by simp)

end Go.Proofs.YthdfefgianokgaaDoor

/- GuardsClosed. -/
namespace Go.Proofs.YthdfefgianokgaaDoor
open Go.RowKit

def closB (vs : List Int) (g : Guard) : Bool := decide (nth vs g.var.toNat < g.least)
def closTo (gs : List Guard) (vs : List Int) (k : Nat) : List Str := ((gs.take k).filter (closB vs)).map (·.name)
def closL (gs : List Guard) (vs : List Int) : List Str := if guardsB gs && varsB vs then closTo gs vs gs.length else []

theorem closTo_yes {gs : List Guard} {vs : List Int} {k : Nat} (hk : k < gs.length) (h : closB vs (nth gs k) = true) : closTo gs vs (k + 1) = closTo gs vs k ++ [(nth gs k).name] := by
  unfold closTo; rw [take_nth hk, List.filter_append, List.map_append]; simp [h]
theorem closTo_no {gs : List Guard} {vs : List Int} {k : Nat} (hk : k < gs.length) (h : closB vs (nth gs k) = false) : closTo gs vs (k + 1) = closTo gs vs k := by
  unfold closTo; rw [take_nth hk, List.filter_append, List.map_append]; simp [h]
theorem closTo_len (gs : List Guard) (vs : List Int) (k : Nat) : (closTo gs vs k).length ≤ k := by
  unfold closTo; rw [List.length_map]
  exact Nat.le_trans (List.length_filter_le _ _) (List.length_take_le _ _)
theorem closL_yes {gs : List Guard} {vs : List Int} (h : guardsB gs = true) (h' : varsB vs = true) : closL gs vs = closTo gs vs gs.length := by unfold closL; rw [h, h']; rfl
theorem closL_no {gs : List Guard} {vs : List Int} (h : guardsB gs = false ∨ varsB vs = false) : closL gs vs = [] := by
  unfold closL; rcases h with h | h <;> rw [h] <;> simp

/-- What valid arguments say of the guard at k. -/
theorem guard_in {gs : List Guard} {vs : List Int} {k : Nat} (h : guardsB gs = true) (h' : varsB vs = true) (hk : k < gs.length) : 0 ≤ (nth gs k).var ∧ (nth gs k).var ≤ 3 ∧ vs.length = 4 ∧ gs.length ≤ 8 := by
  unfold guardsB at h; unfold varsB at h'
  simp only [Bool.and_eq_true, decide_eq_true_eq] at h h'
  have h1 := allN_iff.1 h.1 k hk
  simp only [guardB, inB, Bool.and_eq_true, decide_eq_true_eq] at h1
  omega

end Go.Proofs.YthdfefgianokgaaDoor

/- FnExactGuardsClosed: the walk. -/
namespace Go.Proofs.YthdfefgianokgaaDoor
open Go.RowKit

theorem eqStringS_same (A B : Option Addr) (n m c d : Nat) (xs : List Str) (lo lo' : Nat) (w : World) (hr : RStr w lo A n xs) (hn : n ≤ 1048576) (hr' : RStr w lo' B m xs) :
    Calls Tryd.prog 37 #[.slice A n c, .slice B m d] w fun e w' => e = .returned (.bool true) ∧ ∃ k, w' = w.drewN k := by
  have HX := Lib.hid hr; clear hr
  have HY := Lib.hid hr'; clear hr'
  have hnm : m = n := by rw [← HX.out.1, ← HY.out.1]
  subst hnm
  go_enter Tryd.func37, Tryd.ntmps37
  go_wp2_with fail
  go_loopw [5] (fun i wr => ∃ k q : Nat, k ≤ m ∧ i = .int .i64 k ∧ wr = w.drewN q) (fun i _ => m - (intOf i).toNat)
  case atStart => exact ⟨0, 0, Nat.zero_le _, rfl, rfl⟩
  case round =>
    obtain ⟨k, q, hk, rfl, rfl⟩ := hrel
    by_cases hlt : k < m
    · obtain ⟨b, off, rfl, _, hc⟩ := RStr.at_ HX.out hlt
      obtain ⟨c1, _⟩ := hc k hlt
      clear hc
      obtain ⟨b', off', rfl, _, hc⟩ := RStr.at_ HY.out hlt
      obtain ⟨c2, _⟩ := hc k hlt
      clear hc
      go_wp2_with fail
      go_quiet (fail)
      go_wp2_with fail
      go_roundw
      case rel => exact ⟨k + 1, _, by omega, by go_num, rfl⟩
      case measure => simp [intOf]; omega
    · go_wp2_with fail
      go_ret
      exact ⟨rfl, _, rfl⟩

theorem closL_len (gs : List Guard) (vs : List Int) : (closL gs vs).length ≤ gs.length := by
  unfold closL
  split
  · exact closTo_len _ _ _
  · simp

end Go.Proofs.YthdfefgianokgaaDoor

/- What the exact laws need beside the functions: lists of names, steps. -/
namespace Go.Proofs.YthdfefgianokgaaDoor
open Go.RowKit

set_option maxRecDepth 100000 in
theorem szStringS_any (A : Option Addr) (n c : Nat) (xs : List Str) (lo : Nat) (left : Int) (w : World) (hr : RStr w lo A n xs) (hn : n ≤ maxLen) (hs : ∀ j, j < n → (nth xs j).size ≤ maxLen) (h0 : 0 ≤ left) (h1 : left ≤ 1048576) :
    Calls Tryd.prog 85 #[.slice A n c, .int .i64 left] w (SzQ left (n ≤ 1048576 ∧ okS xs) w) := by
  have HR := Lib.hid hr; clear hr
  have HS := Lib.hid hs; clear hs
  unfold maxLen at hn
  by_cases hbig : left < (n : Int)
  · go_enter Tryd.func85, Tryd.ntmps85
    go_wp2_with fail
    go_ret
    exact ⟨_, rfl, by omega, fun h => absurd h (by omega), Below.refl _ _⟩
  go_enter Tryd.func85, Tryd.ntmps85
  go_wp2_with fail
  go_loop [1, 5] (fun q i => ∃ j : Nat, ∃ r : Int, j ≤ n ∧ i = .int .i64 (j : Int) ∧ q = .int .i64 r ∧ 0 ≤ r ∧ r ≤ left ∧ (∀ l, l < j → (nth xs l).size ≤ 1048576)) (fun _ i => n - (intOf i).toNat)
  case atStart => exact ⟨0, _, Nat.zero_le _, rfl, rfl, by omega, by omega, fa_zero⟩
  case round =>
    obtain ⟨j, r, hj, rfl, rfl, hr0, hr1, hp⟩ := hrel
    have HP := Lib.hid hp; clear hp
    by_cases hlt : j < n
    · obtain ⟨b, off, rfl, _, hc⟩ := RStr.at_ HR.out hlt
      obtain ⟨c1, _⟩ := hc j hlt
      clear hc
      have hsz := HS.out j hlt
      unfold maxLen at hsz
      by_cases hfit : ((nth xs j).size : Int) ≤ r
      · go_wp2_with fail
        go_round
        case rel => exact ⟨j + 1, _, by omega, by go_num, rfl, by omega, by omega, fa_succ HP.out (by omega)⟩
        case measure => simp [intOf]; omega
      · go_wp2_with fail
        go_ret
        exact ⟨_, rfl, by omega, fun h => absurd h (by omega), Below.refl _ _⟩
    · go_wp2_with fail
      go_ret
      exact ⟨_, rfl, by omega, fun _ => ⟨hr1, by omega, by rw [HR.out.1]; omega, fun l hl => Nat.le_trans (HP.out l (by rw [HR.out.1] at hl; omega)) (by unfold maxLen; omega)⟩, Below.refl _ _⟩

set_option maxRecDepth 100000 in
theorem szStep_any (A : Option Addr) (n c : Nat) (s : Step) (lo : Nat) (left : Int) (w : World) (hr : RStr w lo A n s.after) (hn : n ≤ maxLen) (hs : ∀ j, j < n → (nth s.after j).size ≤ maxLen) (hz : s.name.size ≤ maxLen) (h0 : 0 ≤ left) (h1 : left ≤ 1048576) :
    Calls Tryd.prog 73 #[.agg #[.string s.name, .slice A n c, .bool s.undo], .int .i64 left] w (SzQ left (okStep s) w) := by
  have HR := Lib.hid hr; clear hr
  have HS := Lib.hid hs; clear hs
  have HN := Lib.hid hn; clear hn
  have HZ := Lib.hid hz
  unfold maxLen at hz
  by_cases h : (s.name.size : Int) ≤ left
  · go_enter Tryd.func73, Tryd.ntmps73
    go_wp2_with fail
    refine (szStringS_any _ _ _ s.after _ _ _ (HR.out.alloc _) HN.out HS.out (by omega) (by omega)).mono ?_
    rintro e w1 ⟨r, rfl, hr0, hr1, hb⟩
    have HB := Lib.hid (((Below.refl w.heap.size w).alloc (Nat.le_refl _) (.cells #[.string s.name, .slice A n c, .bool s.undo] 90)).trans (hb.mono (by simp)))
    clear hb
    have HR1 := Lib.hid hr1; clear hr1
    by_cases hneg : r < 0
    · go_wp2_with fail
      go_ret
      exact ⟨_, rfl, by omega, fun h => absurd h (by omega), HB.out⟩
    · go_wp2_with fail
      go_ret
      exact ⟨_, rfl, by omega, fun hp => ⟨by have := (HR1.out hp).1; omega, HZ.out, (HR1.out hp).2.2⟩, HB.out⟩
  · go_enter Tryd.func73, Tryd.ntmps73
    go_wp2_with fail
    go_ret
    exact ⟨_, rfl, by omega, fun hp => absurd hp (by omega), (Below.refl _ _).alloc (Nat.le_refl _) _⟩

theorem own_cap {w : World} {base : Nat} {e : TypeId} {size n : Nat} {A : Option Addr} {c : Nat} {xs : List Value} (h : w.ownsRow base e size (.slice A n c) n xs) : n ≤ c := by
  rcases h.2 with ⟨h1, rfl⟩ | ⟨g, cap, cur, e, _, _, h1, _⟩
  · exact Nat.zero_le _
  · injection e with _ _ e
    subst e; exact h1

set_option maxRecDepth 100000 in
theorem toStringSc_any (A : Option Addr) (n c : Nat) (xs : List Str) (lo : Nat) (w : World) (hr : RStr w lo A n xs) (hn : n ≤ 1048576) :
    Calls Tryd.prog 86 #[.slice A n c] w fun e w' => ∃ A' c', e = .returned (.slice A' n c') ∧ RStr w' w.heap.size A' n xs ∧ Below w.heap.size w w' ∧ n ≤ c' := by
  have HR := Lib.hid hr; clear hr
  obtain ⟨i0, hi0, hz0, hz1, hz2⟩ := info_parts info_str
  go_enter Tryd.func86, Tryd.ntmps86
  go_wp2_with (at_make; refine wpList_make_full _ rfl _ _ 23 rfl w.heap.size 9 i0 _ 1 Tryd.underlying23 hi0 hz0 hz1 _ _ _ _ n rfl rfl rfl rfl ?c1 ?c2 (Nat.le_refl _) ?_)
  case c1 => rw [hz2]; omega
  case c2 => unfold maxLen; omega
  intro w1 hown hgr
  have hbw : Below w.heap.size w w1 := (Below.refl _ _).grown hgr (Nat.le_refl _) (by simp)
  obtain ⟨A1, c1, hv1, hr1⟩ := own_fresh_str hown
  have hle := own_cap hown
  injection hv1 with hA1 hn1 hc1
  subst hA1
  clear hn1 hc1 hown hgr
  have HR1 := Lib.hid hr1; clear hr1
  have HB1 := Lib.hid hbw; clear hbw
  go_wp2_with fail
  go_loopw [4] (fun i wr => ∃ j : Nat, ∃ ys : List Str, j ≤ n ∧ i = .int .i64 (j : Int) ∧ RStr wr w.heap.size (some ⟨w.heap.size, 0, none⟩) n ys ∧ (∀ l, l < j → nth ys l = nth xs l) ∧ Below w.heap.size w wr) (fun i _ => n - (intOf i).toNat)
  case atStart => exact ⟨0, _, Nat.zero_le _, rfl, HR1.out, fa_zero, HB1.out⟩
  case round =>
    obtain ⟨j, ys, hj, rfl, hys, hp, hb⟩ := hrel
    have HP := Lib.hid hp; clear hp
    have HB := Lib.hid hb; clear hb
    have HY := Lib.hid hys; clear hys
    by_cases hlt : j < n
    · obtain ⟨b, off, rfl, ⟨hb1, hb2⟩, hc⟩ := RStr.at_ (HR.out.below HB.out) hlt
      obtain ⟨d1, _⟩ := hc j hlt
      clear hc
      obtain ⟨b', off', e', _, hc⟩ := RStr.at_ HY.out hlt
      injection e' with e'; injection e' with e1 e2
      have HE := Lib.hid e1; clear e1
      subst e2
      obtain ⟨f1, f2⟩ := hc j hlt
      rw [← HE.out, Nat.zero_add] at f1 f2
      clear hc
      go_wp2_with fail
      go_roundw
      case rel =>
        refine ⟨j + 1, ys.set j (nth xs j), by omega, by go_num, ?_, ?_, HB.out.setCell (Nat.le_refl _) _⟩
        · have := RStr.set_ HY.out hlt (nth xs j)
          rwa [Nat.zero_add] at this
        · intro l hl
          rw [nth_set (by rw [HY.out.1]; exact hlt)]
          by_cases e : l = j
          · rw [if_pos e, e]
          · rw [if_neg e]; exact HP.out l (by omega)
      case measure => simp [intOf]; omega
    · go_wp2_with fail
      go_ret
      refine ⟨_, _, rfl, ?_, HB.out, hle⟩
      have e : ys = xs := list_ext (by rw [HY.out.1, HR.out.1]) (fun l hl => HP.out l (by rw [HY.out.1] at hl; omega))
      rw [← e]; exact HY.out

theorem toStringS_any (A : Option Addr) (n c : Nat) (xs : List Str) (lo : Nat) (w : World) (hr : RStr w lo A n xs) (hn : n ≤ 1048576) :
    Calls Tryd.prog 86 #[.slice A n c] w fun e w' => ∃ A' c', e = .returned (.slice A' n c') ∧ RStr w' w.heap.size A' n xs ∧ Below w.heap.size w w' :=
  (toStringSc_any A n c xs lo w hr hn).mono (fun _ _ ⟨A', c', h1, h2, h3, _⟩ => ⟨A', c', h1, h2, h3⟩)

set_option maxRecDepth 100000 in
theorem toStepc_any (A : Option Addr) (n c : Nat) (s : Step) (lo : Nat) (w : World) (hr : RStr w lo A n s.after) (hn : n ≤ 1048576) :
    Calls Tryd.prog 74 #[.agg #[.string s.name, .slice A n c, .bool s.undo]] w fun e w' => ∃ A' c', e = .returned (.agg #[.string s.name, .slice A' n c', .bool s.undo]) ∧ RStr w' w.heap.size A' n s.after ∧ Below w.heap.size w w' ∧ n ≤ c' := by
  have HR := Lib.hid hr; clear hr
  go_enter Tryd.func74, Tryd.ntmps74
  go_wp2_with fail
  refine (toStringSc_any _ _ _ s.after _ _ (((HR.out.alloc _).alloc _).alloc _) hn).mono ?_
  rintro e w1 ⟨A2, c2, rfl, hr2, hb, hle⟩
  have hsz : (((w.alloc (.cells #[.string s.name, .slice A n c, .bool s.undo] 90)).alloc (.cells #[.string ⟨#[]⟩, .slice none 0 0, .bool false] 25)).alloc (.cells #[.string s.name, .slice none 0 0, .bool false] 25)).heap.size = w.heap.size + 1 + 1 + 1 := by simp
  rw [hsz] at hr2 hb
  have H0 := Lib.hid ((hb.block w.heap.size (by omega)).trans (heap_old (o := .cells #[.string s.name, .slice none 0 0, .bool false] 25) (heap_old (o := .cells #[.string ⟨#[]⟩, .slice none 0 0, .bool false] 25) (heap_new (w := w) (o := .cells #[.string s.name, .slice A n c, .bool s.undo] 90) rfl))))
  have H1 := Lib.hid ((hb.block (w.heap.size + 1) (by omega)).trans (heap_old (o := .cells #[.string s.name, .slice none 0 0, .bool false] 25) (heap_new (b := w.heap.size + 1) (o := .cells #[.string ⟨#[]⟩, .slice none 0 0, .bool false] 25) (by simp))))
  have H2 := Lib.hid ((hb.block (w.heap.size + 1 + 1) (by omega)).trans (heap_new (b := w.heap.size + 1 + 1) (o := .cells #[.string s.name, .slice none 0 0, .bool false] 25) (by simp)))
  have HB := Lib.hid (((((Below.refl w.heap.size w).alloc (Nat.le_refl _) (.cells #[.string s.name, .slice A n c, .bool s.undo] 90)).alloc (by simp) (.cells #[.string ⟨#[]⟩, .slice none 0 0, .bool false] 25)).alloc (by simp; omega) (.cells #[.string s.name, .slice none 0 0, .bool false] 25)).trans (hb.mono (by omega)))
  have HR2 := Lib.hid hr2
  clear hr2 hb hsz
  have H3 := Lib.hid (set31 (u := .slice A2 n c2) H2.out)
  have H4 := Lib.hid (show ((w1.setCell ⟨w.heap.size + 1 + 1, 1, none⟩ (.slice A2 n c2)).setCell ⟨w.heap.size + 1 + 1, 2, none⟩ (.bool s.undo)).heap[w.heap.size + 1 + 1]? = some (.cells #[.string s.name, .slice A2 n c2, .bool s.undo] 25 (0, 0)) from set_at H3.out)
  have H5 := Lib.hid (set_ne (b := w.heap.size + 1 + 1) (o := 2) (u := .bool s.undo) (set_ne (b := w.heap.size + 1 + 1) (o := 1) (u := .slice A2 n c2) H1.out (by omega)) (by omega))
  have H6 := Lib.hid (set_ne (b := w.heap.size + 1 + 1) (o := 1) (u := .slice A2 n c2) H0.out (by omega))
  have a2 := (blk_cl (k := 2) H0.out rfl).1
  have a3 := (blk_cl (k := 2) H6.out rfl).1
  have c1 := (blk_cl (k := 1) H2.out rfl).1
  have d1 := (blk_cl (k := 1) H2.out rfl).2
  have c2' := (blk_cl (k := 2) H3.out rfl).1
  have d2' := (blk_cl (k := 2) H3.out rfl).2
  have e0 := (blk_cl (k := 0) H4.out rfl).1
  have e1 := (blk_cl (k := 1) H4.out rfl).1
  have e2 := (blk_cl (k := 2) H4.out rfl).1
  have g0 := (blk_cl (k := 0) H5.out rfl).1
  have g0' := (blk_cl (k := 0) H5.out rfl).2
  have g1 := (blk_cl (k := 1) H5.out rfl).1
  have g1' := (blk_cl (k := 1) H5.out rfl).2
  have g2 := (blk_cl (k := 2) H5.out rfl).1
  have g2' := (blk_cl (k := 2) H5.out rfl).2
  go_wp2_with fail
  have hres := set3 (u0 := .string s.name) (u1 := .slice A2 n c2) (u2 := .bool s.undo) H5.out
  have p0 := (blk_cl (k := 0) hres rfl).1
  have p1 := (blk_cl (k := 1) hres rfl).1
  have p2 := (blk_cl (k := 2) hres rfl).1
  have l1 : w.heap.size + 1 < w.heap.size + 1 + 1 + 1 := by omega
  have l2 : w.heap.size + 1 + 1 < w.heap.size + 1 + 1 + 1 := by omega
  have q1 : w.heap.size ≤ w.heap.size + 1 := by omega
  have q2 : w.heap.size ≤ w.heap.size + 1 + 1 := by omega
  exact bodyPost_ret (v := .agg #[.string s.name, .slice A2 n c2, .bool s.undo]) (by simp [results, Tryd.results74, go_sem, p0, p1, p2]) rfl
    ⟨_, _, rfl, (((((HR2.out.setLow l2).setLow l2).setLow l1).setLow l1).setLow l1).lower (by omega),
      ((((HB.out.setCell (p := ⟨w.heap.size + 1 + 1, 1, none⟩) q2 _).setCell (p := ⟨w.heap.size + 1 + 1, 2, none⟩) q2 _).setCell (p := ⟨w.heap.size + 1, 0, none⟩) q1 _).setCell (p := ⟨w.heap.size + 1, 1, none⟩) q1 _).setCell (p := ⟨w.heap.size + 1, 2, none⟩) q1 _, hle⟩

theorem toStep_any (A : Option Addr) (n c : Nat) (s : Step) (lo : Nat) (w : World) (hr : RStr w lo A n s.after) (hn : n ≤ 1048576) :
    Calls Tryd.prog 74 #[.agg #[.string s.name, .slice A n c, .bool s.undo]] w fun e w' => ∃ A' c', e = .returned (.agg #[.string s.name, .slice A' n c', .bool s.undo]) ∧ RStr w' w.heap.size A' n s.after ∧ Below w.heap.size w w' :=
  (toStepc_any A n c s lo w hr hn).mono (fun _ _ ⟨A', c', h1, h2, h3, _⟩ => ⟨A', c', h1, h2, h3⟩)

set_option maxRecDepth 100000 in
theorem eqStep_same (A B : Option Addr) (n c d : Nat) (s : Step) (lo lo' : Nat) (w : World) (hr : RStr w lo A n s.after) (hn : n ≤ 1048576) (hr' : RStr w lo' B n s.after) :
    Calls Tryd.prog 16 #[.agg #[.string s.name, .slice A n c, .bool s.undo], .agg #[.string s.name, .slice B n d, .bool s.undo]] w fun e w' => e = .returned (.bool true) ∧ Below w.heap.size w w' := by
  have HX := Lib.hid hr; clear hr
  have HY := Lib.hid hr'; clear hr'
  have hq := seq_t (rfl : s.name = s.name)
  go_enter Tryd.func16, Tryd.ntmps16
  go_wp2_with fail
  refine (eqStringS_same _ _ _ _ _ _ s.after _ _ _ ((HX.out.alloc _).alloc _) hn ((HY.out.alloc _).alloc _)).mono ?_
  rintro e w1 ⟨rfl, q, rfl⟩
  cases hu : s.undo
  all_goals
    go_wp2_with fail
    go_ret
    exact ⟨rfl, below_drewN (((Below.refl _ _).alloc (Nat.le_refl _) _).alloc (by simp) _) _⟩
end Go.Proofs.YthdfefgianokgaaDoor

/- Arguments opened: lists of integers, lists of guards. -/
namespace Go.Proofs.YthdfefgianokgaaDoor
open Go.ChangeShapes Go.WideShapes Go.ChangeAt Go.RowKit Go.Deep

theorem Tryd.cellsInt : Tryd.prog.cellsOf 3 = 1 := by kernel_rfl
section
variable {H : Type} {enc : TypeId × Value → H} {P : Program} {w : World} {base : Nat} {spare : Nat → Bool} {held : Bool}
theorem open_slice_fields {t e : TypeId} {fs : Array Field} {fuel : Nat} {cs : List Value} {x : DataW H × List MemPlace} (ht : P.underlying t = some (.slice e)) (he : P.underlying e = some (.struct fs))
    (hone : oneCellFields P fs = true) (hC : P.cellsOf e = fs.size) (h : DataW.trod enc P w base spare held fuel t cs = some x) :
    (cs = [.slice none 0 0] ∧ x = (.nil, [])) ∨
    ∃ (a : Addr) (len cap m : Nat) (D : Nat → DataW H) (Pl : Nat → List MemPlace), cs = [.slice (some a) len cap] ∧ base ≤ a.block ∧ len ≤ cap ∧ cap ≤ maxLen ∧ m = (if spare a.block then cap else len) ∧
      x = (.slice ((List.range len).map D) ((List.range (m - len)).map fun j => D (len + j)), MemPlace.row a (m * fs.size) ++ (List.range m).flatMap Pl) ∧
      ∀ i, i < m → ∃ (ys : List (DataW H × List MemPlace)) (n : Nat), D i = .agg (ys.map (·.1)) ∧ Pl i = ys.flatMap (·.2) ∧ ys.length = fs.size ∧
        ∀ (j : Nat) (f : Field), fs[j]? = some f → ∃ (v : Value) (y : DataW H × List MemPlace), w.cell? (a.add (i * fs.size + j)) = some v ∧ ys[j]? = some y ∧ DataW.trod enc P w base spare held n f.type [v] = some y := by
  rcases open_slice ht h with h0 | ⟨a, len, cap, m, n, D, Pl, hcs, hb, hl, hm, hmm, hx, hi⟩
  · exact .inl h0
  · refine .inr ⟨a, len, cap, m, D, Pl, hcs, hb, hl, hm, hmm, by rw [hC] at hx; exact hx, fun i him => ?_⟩
    obtain ⟨cs', hc, ht'⟩ := hi i him
    rw [hC] at hc
    obtain ⟨ys, n', hn', hy, hlen, hyl, hf⟩ := DataW.trod_struct he ht'
    obtain ⟨_, hcl, hat⟩ := World.cells?_some hc
    simp only [Prod.mk.injEq] at hy
    refine ⟨ys, n', hy.1, hy.2, hyl, fun j f hj => ?_⟩
    obtain ⟨ho, hk⟩ := hone_of hone j f hj
    have hjl : j < fs.size := (Array.getElem?_eq_some_iff.1 hj).1
    have hcell := hat j hjl
    have hv : cs'[j]? = some (cs'[j]'(by omega)) := List.getElem?_eq_getElem (by omega)
    have h1 := hf j f hj
    rw [ho, hk] at h1
    have hone' : (cs'.drop j).take 1 = [cs'[j]'(by omega)] := by
      rw [List.drop_eq_getElem_cons (by omega)]
      rfl
    rw [hone'] at h1
    have hys : ys[j]? = some (ys[j]'(by omega)) := List.getElem?_eq_getElem (by omega)
    refine ⟨_, _, ?_, hys, h1.trans hys⟩
    rw [← Go.Deep.add_add, hcell, hv]
end

theorem addr_plain {w : World} {a : Addr} {k : Nat} {v : Value} (h : w.cell? (a.add k) = some v) : k = 0 → a = ⟨a.block, a.off, none⟩ := fun hk => by
  subst hk
  obtain ⟨b, off, spot⟩ := a
  have hspot : spot = none := by simpa [Addr.add] using World.cell?_spot h
  subst hspot; rfl

/-- An '[]int' that came in. -/
theorem open_intS {H : Type} {enc : TypeId × Value → H} {W : World} {a0 : Option Addr} {len cap : Nat} {d : DataW H} {p : List MemPlace} {fuel : Nat}
    (h : DataW.trod enc Tryd.prog W 0 (fun _ => true) true fuel 83 (Value.cells (.slice a0 len cap)).toList = some (d, p)) (hz : W.noneFrozen p) :
    ∃ vs, RInt W 0 a0 len vs ∧ len ≤ maxLen := by
  rcases open_ints Tryd.underlying83 Tryd.underlying3 Tryd.cellsInt h with ⟨hcs, hx⟩ | ⟨a, len', cap', zs, hcs, _, hl, hm, hzl, hx, hcell, hwz⟩
  · simp [Value.cells] at hcs
    obtain ⟨rfl, rfl, rfl⟩ := hcs
    exact ⟨[], RL.nil, by unfold maxLen; omega⟩
  · simp [Value.cells] at hcs
    obtain ⟨rfl, rfl, rfl⟩ := hcs
    simp only [Prod.mk.injEq] at hx
    obtain ⟨_, rfl⟩ := hx
    have hlz : len ≤ zs.length := by rw [hzl]; split <;> omega
    refine ⟨zs.take len, ⟨by rw [List.length_take]; omega, fun h0 => ?_⟩, Nat.le_trans hl hm⟩
    obtain ⟨b, off, spot⟩ := a
    have hspot : spot = none := by simpa [Addr.add] using World.cell?_spot (hcell 0 (by omega))
    subst hspot
    refine ⟨b, off, rfl, Nat.zero_le _, World.block_lt_of_cell? W _ (hcell 0 (by omega)), fun k hk => ?_⟩
    have hc := hcell k (by omega)
    rw [add_plain] at hc
    have hf := hz b (off + k) (MemPlace.mem_row.2 ⟨k, by omega, rfl⟩)
    have e : nth (zs.take len) k = zs.getD k 0 := by
      rw [nth_eq (by rw [List.length_take]; omega), List.getElem_take, List.getD_eq_getElem?_getD, List.getElem?_eq_getElem (by omega)]; rfl
    rw [e]
    have : Cl W b (off + k) (.int .i64 (zs.getD k 0)) := ⟨hc, hf⟩
    simpa [intE] using this

def w3 (W : World) (a : Addr) (i : Nat) (g : Guard) : Prop := W.cell? (a.add (i * 3 + 0)) = some (.string g.name) ∧ W.cell? (a.add (i * 3 + 1)) = some (.int .i64 g.var) ∧ W.cell? (a.add (i * 3 + 2)) = some (.int .i64 g.least)

end Go.Proofs.YthdfefgianokgaaDoor

/- Arguments opened: names, steps, flows. -/
namespace Go.Proofs.YthdfefgianokgaaDoor
open Go.ChangeShapes Go.WideShapes Go.ChangeAt Go.RowKit Go.Deep

theorem Tryd.cellsStr : Tryd.prog.cellsOf 9 = 1 := by kernel_rfl
theorem Tryd.cellsLStep : Tryd.prog.cellsOf 90 = 3 := by kernel_rfl

section
variable {H : Type} {enc : TypeId × Value → H} {P : Program} {w : World} {base : Nat} {spare : Nat → Bool} {held : Bool}
theorem open_struct_fields {t : TypeId} {fs : Array Field} {fuel : Nat} {cs : List Value} {x : DataW H × List MemPlace} (ht : P.underlying t = some (.struct fs)) (hone : oneCellFields P fs = true)
    (h : DataW.trod enc P w base spare held fuel t cs = some x) :
    ∃ (ys : List (DataW H × List MemPlace)) (n : Nat), x = (.agg (ys.map (·.1)), ys.flatMap (·.2)) ∧
      ∀ (j : Nat) (f : Field) (v : Value), fs[j]? = some f → cs[j]? = some v → ∃ y, ys[j]? = some y ∧ DataW.trod enc P w base spare held n f.type [v] = some y := by
  obtain ⟨ys, n, _, hx, _, hyl, hf⟩ := DataW.trod_struct ht h
  refine ⟨ys, n, hx, fun j f v hj hv => ?_⟩
  obtain ⟨ho, hk⟩ := hone_of hone j f hj
  have h1 := hf j f hj
  rw [ho, hk] at h1
  obtain ⟨hjl, hv'⟩ := List.getElem?_eq_some_iff.1 hv
  have h2 : (cs.drop j).take 1 = [v] := by
    rw [List.drop_eq_getElem_cons hjl, hv']
    rfl
  rw [h2] at h1
  have hjy : j < ys.length := by rw [hyl]; exact (Array.getElem?_eq_some_iff.1 hj).1
  exact ⟨ys[j], List.getElem?_eq_getElem hjy, h1.trans (List.getElem?_eq_getElem hjy)⟩
end

/-- A field's list of names. -/
theorem open_strS {H : Type} {enc : TypeId × Value → H} {W : World} {v : Value} {d : DataW H} {p : List MemPlace} {fuel : Nat}
    (h : DataW.trod enc Tryd.prog W 0 (fun _ => true) true fuel 23 [v] = some (d, p)) (hz : W.noneFrozen p) :
    ∃ A n c xs, v = .slice A n c ∧ RStr W 0 A n xs ∧ n ≤ maxLen ∧ ∀ j, j < n → (nth xs j).size ≤ maxLen := by
  rcases open_strings Tryd.underlying23 Tryd.underlying9 Tryd.cellsStr h with ⟨hcs, _⟩ | ⟨a, len, cap, ss, hcs, _, hl, hm, hsl, hx, hcell, hsz⟩
  · have hv : v = .slice none 0 0 := by simpa using hcs
    exact ⟨none, 0, 0, [], hv, RL.nil, by unfold maxLen; omega, fun j hj => absurd hj (by omega)⟩
  · have hv : v = .slice (some a) len cap := by simpa using hcs
    simp only [Prod.mk.injEq] at hx
    obtain ⟨_, rfl⟩ := hx
    have hlz : len ≤ ss.length := by rw [hsl]; split <;> omega
    have hnth : ∀ k, k < len → nth (ss.take len) k = ss.getD k ByteArray.empty := fun k hk => by
      rw [nth_eq (by rw [List.length_take]; omega), List.getElem_take, List.getD_eq_getElem?_getD, List.getElem?_eq_getElem (by omega)]; rfl
    refine ⟨some a, len, cap, ss.take len, hv, ⟨by rw [List.length_take]; omega, fun h0 => ?_⟩, Nat.le_trans hl hm, fun j hj => ?_⟩
    · obtain ⟨b, off, spot⟩ := a
      have hspot : spot = none := by simpa [Addr.add] using World.cell?_spot (hcell 0 (by omega))
      subst hspot
      refine ⟨b, off, rfl, Nat.zero_le _, World.block_lt_of_cell? W _ (hcell 0 (by omega)), fun k hk => ?_⟩
      have hc := hcell k (by omega)
      rw [add_plain] at hc
      have hf := hz b (off + k) (MemPlace.mem_row.2 ⟨k, by omega, rfl⟩)
      rw [hnth k hk]
      have : Cl W b (off + k) (.string (ss.getD k ByteArray.empty)) := ⟨hc, hf⟩
      simpa [strE] using this
    · rw [hnth j hj, List.getD_eq_getElem?_getD, List.getElem?_eq_getElem (by omega)]
      exact hsz _ (List.getElem_mem _)

def stepSz (s : Step) : Prop := s.name.size ≤ maxLen ∧ s.after.length ≤ maxLen ∧ ∀ j, j < s.after.length → (nth s.after j).size ≤ maxLen
def stepW (W : World) (a : Addr) (i : Nat) (s : Step) : Prop := W.cell? (a.add (i * 3 + 0)) = some (.string s.name) ∧ (∃ A n c, W.cell? (a.add (i * 3 + 1)) = some (.slice A n c) ∧ RStr W 0 A n s.after) ∧ W.cell? (a.add (i * 3 + 2)) = some (.bool s.undo)

/-- A list of steps that came in. -/
theorem open_stepS {H : Type} {enc : TypeId × Value → H} {W : World} {v : Value} {d : DataW H} {p : List MemPlace} {fuel : Nat}
    (h : DataW.trod enc Tryd.prog W 0 (fun _ => true) true fuel 41 [v] = some (d, p)) (hz : W.noneFrozen p) :
    ∃ A n c ss, v = .slice A n c ∧ RStep W 0 A n ss ∧ n ≤ maxLen ∧ ∀ j, j < n → stepSz (nth ss j) := by
  rcases open_slice_fields Tryd.underlying41 Tryd.underlying90 (by kernel_rfl) Tryd.cellsLStep h with ⟨hcs, hx⟩ | ⟨a, len, cap, m, D, Pl, hcs, _, hl, hm, hmm, hx, hi⟩
  · have hv : v = .slice none 0 0 := by simpa using hcs
    exact ⟨none, 0, 0, [], hv, RL.nil, by unfold maxLen; omega, fun j hj => absurd hj (by omega)⟩
  · have hv : v = .slice (some a) len cap := by simpa using hcs
    simp only [Prod.mk.injEq] at hx
    obtain ⟨_, rfl⟩ := hx
    have hlm : len ≤ m := by rw [hmm]; split <;> omega
    have each : ∀ i, ∃ s : Step, i < m → (stepW W a i s ∧ stepSz s) := fun i => by
      by_cases him : i < m
      · obtain ⟨ys, n, _, hpl, hyl, hf⟩ := hi i him
        obtain ⟨v0, y0, c0, e0, t0⟩ := hf 0 _ rfl
        obtain ⟨v1, y1, c1, e1, t1⟩ := hf 1 _ rfl
        obtain ⟨v2, y2, c2, e2, t2⟩ := hf 2 _ rfl
        obtain ⟨s, hs1, _, hs3⟩ := DataW.trod_string Tryd.underlying9 t0
        obtain ⟨u, hu1, _⟩ := DataW.trod_bool Tryd.underlying4 t2
        have hz1 : W.noneFrozen y1.2 := fun b off hb => hz b off (List.mem_append_right _ (List.mem_flatMap.2 ⟨i, List.mem_range.2 him, by rw [hpl]; exact List.mem_flatMap.2 ⟨y1, List.mem_of_getElem? e1, hb⟩⟩))
        obtain ⟨A, n1, k1, xs, hv1, hrs, hn1, hsz⟩ := open_strS (d := y1.1) (p := y1.2) t1 hz1
        have g0 : v0 = .string s := by simpa using hs1
        have g2 : v2 = .bool u := by simpa using hu1
        subst g0; subst g2; subst hv1
        exact ⟨⟨s, xs, u⟩, fun _ => ⟨⟨c0, ⟨A, n1, k1, c1, hrs⟩, c2⟩, hs3, by show xs.length ≤ _; rw [hrs.1]; exact hn1, fun j hj => hsz j (by rw [← hrs.1]; exact hj)⟩⟩
      · exact ⟨default, fun h => absurd h him⟩
    obtain ⟨G, hG⟩ : ∃ G : Nat → Step, ∀ i, i < m → (stepW W a i (G i) ∧ stepSz (G i)) := ⟨fun i => Classical.choose (each i), fun i => Classical.choose_spec (each i)⟩
    have hnth : ∀ k, k < len → nth ((List.range len).map G) k = G k := fun k hk => by rw [nth_eq (by simpa using hk)]; simp
    refine ⟨some a, len, cap, (List.range len).map G, hv, ⟨by simp, fun h0 => ?_⟩, Nat.le_trans hl hm, fun j hj => by rw [hnth j hj]; exact (hG j (by omega)).2⟩
    obtain ⟨b, off, spot⟩ := a
    have hspot : spot = none := by simpa [Addr.add] using World.cell?_spot (hG 0 (by omega)).1.1
    subst hspot
    refine ⟨b, off, rfl, Nat.zero_le _, World.block_lt_of_cell? W _ (hG 0 (by omega)).1.1, fun k hk => ?_⟩
    rw [hnth k hk]
    obtain ⟨⟨c0, ⟨A, n1, k1, c1, hrs⟩, c2⟩, _⟩ := hG k (by omega)
    rw [add_plain] at c0 c1 c2
    have hfr : ∀ j, j < 3 → W.frozen? ⟨b, off + (k * 3 + j), none⟩ = false := fun j hj => hz b (off + (k * 3 + j)) (List.mem_append_left _ (MemPlace.mem_row.2 ⟨k * 3 + j, (by
      show k * 3 + j < m * 3
      omega), rfl⟩))
    exact ⟨⟨c0, hfr 0 (by omega)⟩, ⟨A, n1, k1, ⟨c1, hfr 1 (by omega)⟩, hrs⟩, ⟨c2, hfr 2 (by omega)⟩⟩

set_option maxRecDepth 100000 in
/-- A flow that came in. -/
theorem open_flow {H : Type} {enc : TypeId × Value → H} {W : World} {base : Nat} {v : Value} {d : DataW H} {p : List MemPlace} {fuel : Nat} (hw : Value.okWide Tryd.prog W .any base 43 v)
    (h : DataW.trod enc Tryd.prog W 0 (fun _ => true) true fuel 43 (Value.cells v).toList = some (d, p)) (hz : W.noneFrozen p) :
    ∃ ver A n c ss, v = .agg #[.int .i64 ver, .slice A n c] ∧ RStep W 0 A n ss ∧ n ≤ maxLen ∧ ∀ j, j < n → stepSz (nth ss j) := by
  obtain ⟨cs, rfl, hcs⟩ := okWide_struct Tryd.underlying43 hw
  have h2 : cs.size = 2 := hcs.trans (by kernel_rfl)
  obtain ⟨x, y, rfl⟩ : ∃ x y, cs = #[x, y] := by
    obtain ⟨l⟩ := cs
    match l, h2 with
    | [x, y], _ => exact ⟨x, y, rfl⟩
  obtain ⟨ys, n, hx, hf⟩ := open_struct_fields Tryd.underlying43 (by kernel_rfl) h
  simp only [Prod.mk.injEq] at hx
  obtain ⟨_, rfl⟩ := hx
  obtain ⟨y0, e0, t0⟩ := hf 0 _ x rfl rfl
  obtain ⟨y1, e1, t1⟩ := hf 1 _ y rfl rfl
  obtain ⟨ver, hv1, _⟩ := DataW.trod_int Tryd.underlying3 t0
  have g0 : x = .int .i64 ver := by simpa using hv1
  subst g0
  obtain ⟨A, m, c, ss, hv, hr, hn, hsz⟩ := open_stepS (d := y1.1) (p := y1.2) t1 (fun b off hb => hz b off (List.mem_flatMap.2 ⟨y1, List.mem_of_getElem? e1, hb⟩))
  subst hv
  exact ⟨ver, A, m, c, ss, rfl, hr, hn, hsz⟩
end Go.Proofs.YthdfefgianokgaaDoor

/- What the exact laws need beside the functions: lists of steps, flows. -/
namespace Go.Proofs.YthdfefgianokgaaDoor
open Go.RowKit

set_option maxRecDepth 100000 in
theorem szStepS_any (A : Option Addr) (n c : Nat) (ss : List Step) (lo : Nat) (left : Int) (w : World) (hr : RStep w lo A n ss) (hn : n ≤ maxLen) (hs : ∀ j, j < n → stepSz (nth ss j)) (h0 : 0 ≤ left) (h1 : left ≤ 1048576) :
    Calls Tryd.prog 52 #[.slice A n c, .int .i64 left] w (SzQ left (okSteps ss) w) := by
  have HR := Lib.hid hr; clear hr
  have HS := Lib.hid hs; clear hs
  unfold maxLen at hn
  by_cases hbig : left < (n : Int)
  · go_enter Tryd.func52, Tryd.ntmps52
    go_wp2_with fail
    go_ret
    exact ⟨_, rfl, by omega, fun h => absurd h (by omega), Below.refl _ _⟩
  go_enter Tryd.func52, Tryd.ntmps52
  go_wp2_with fail
  go_loopw [1, 5] (fun q i wr => ∃ j : Nat, ∃ r : Int, j ≤ n ∧ i = .int .i64 (j : Int) ∧ q = .int .i64 r ∧ 0 ≤ r ∧ r ≤ left ∧ (∀ l, l < j → okStep (nth ss l)) ∧ Below w.heap.size w wr) (fun _ i _ => n - (intOf i).toNat)
  case atStart => exact ⟨0, _, Nat.zero_le _, rfl, rfl, by omega, by omega, fa_zero, Below.refl _ _⟩
  case round =>
    obtain ⟨j, r, hj, rfl, rfl, hr0, hr1, hp, hb⟩ := hrel
    have HP := Lib.hid hp; clear hp
    have HB := Lib.hid hb; clear hb
    by_cases hlt : j < n
    · obtain ⟨b, off, rfl, ⟨hb1, hb2⟩, hc⟩ := RStep.at_ (HR.out.below HB.out) hlt
      obtain ⟨A', n', c', ⟨c1, c2, c3⟩, hra, _⟩ := hc j hlt
      clear hc
      have HRA := Lib.hid hra; clear hra
      have HSZ := Lib.hid (HS.out j hlt)
      have HNL := Lib.hid (show n' ≤ maxLen from by rw [← HRA.out.1]; exact HSZ.out.2.1)
      go_wp2_with fail
      refine (szStep_any _ _ _ (nth ss j) _ r _ HRA.out HNL.out (fun i hi => HSZ.out.2.2 i (by rw [HRA.out.1]; exact hi)) HSZ.out.1 hr0 (by omega)).mono ?_
      rintro e w1 ⟨r1, rfl, hr2, hr3, hbw⟩
      have HBW := Lib.hid hbw; clear hbw
      have HR3 := Lib.hid hr3; clear hr3
      by_cases hneg : r1 < 0
      · go_wp2_with fail
        go_ret
        exact ⟨_, rfl, by omega, fun h => absurd h (by omega), HB.out.trans (HBW.out.mono HB.out.size)⟩
      · have hle := (HR3.out (by omega)).1
        go_wp2_with fail
        go_roundw
        case rel => exact ⟨j + 1, _, by omega, by go_num, rfl, by omega, by omega, fa_succ HP.out (HR3.out (by omega)).2, HB.out.trans (HBW.out.mono HB.out.size)⟩
        case measure => simp [intOf]; omega
    · go_wp2_with fail
      go_ret
      exact ⟨_, rfl, by omega, fun _ => ⟨hr1, by rw [HR.out.1]; omega, fun l hl => HP.out l (by rw [HR.out.1] at hl; omega)⟩, HB.out⟩

set_option maxRecDepth 100000 in
theorem szFlow_any (A : Option Addr) (n c : Nat) (f : Flow) (lo : Nat) (left : Int) (w : World) (hr : RStep w lo A n f.steps) (hn : n ≤ maxLen) (hs : ∀ j, j < n → stepSz (nth f.steps j)) (h0 : 0 ≤ left) (h1 : left ≤ 1048576) :
    Calls Tryd.prog 24 #[.agg #[.int .i64 f.ver, .slice A n c], .int .i64 left] w (SzQ left (okSteps f.steps) w) := by
  have HR := Lib.hid hr; clear hr
  have HS := Lib.hid hs; clear hs
  have HN := Lib.hid hn; clear hn
  go_enter Tryd.func24, Tryd.ntmps24
  go_wp2_with fail
  refine (szStepS_any _ _ _ f.steps _ _ _ (HR.out.alloc _) HN.out HS.out (by omega) (by omega)).mono ?_
  rintro e w1 ⟨r, rfl, hr0, hr1, hb⟩
  have HB := Lib.hid (((Below.refl w.heap.size w).alloc (Nat.le_refl _) (.cells #[.int .i64 f.ver, .slice A n c] 43)).trans (hb.mono (by simp)))
  clear hb
  have HR1 := Lib.hid hr1; clear hr1
  by_cases hneg : r < 0
  · go_wp2_with fail
    go_ret
    exact ⟨_, rfl, by omega, fun h => absurd h (by omega), HB.out⟩
  · go_wp2_with fail
    go_ret
    exact ⟨_, rfl, by omega, HR1.out, HB.out⟩

/-- A row of steps in block b, their lists in blocks behind it. -/
def RRow (w : World) (b n : Nat) (ss : List Step) : Prop :=
  ss.length = n ∧ (0 < n → b < w.heap.size) ∧ ∀ k, k < n → Cl w b (k * 3) (.string (nth ss k).name) ∧ (∃ A m c, Cl w b (k * 3 + 1) (.slice A m c) ∧ RH strE w (b + 1) w.heap.size A m (nth ss k).after) ∧ Cl w b (k * 3 + 2) (.bool (nth ss k).undo)
theorem RRow.hat {w : World} {b n : Nat} {ss : List Step} (h : RRow w b n ss) : RStep w b (some ⟨b, 0, none⟩) n ss :=
  ⟨h.1, fun hn => ⟨b, 0, rfl, Nat.le_refl _, h.2.1 hn, fun k hk => by
    obtain ⟨c1, ⟨A, m, c, c2, c3⟩, c4⟩ := h.2.2 k hk
    have e : 0 + k * stepE.size = k * 3 := by show 0 + k * 3 = k * 3; omega
    rw [e]
    exact ⟨c1, ⟨A, m, c, c2, c3.wide (Nat.le_succ _) (Nat.le_refl _)⟩, c4⟩⟩⟩
theorem RRow.below {w w' : World} {b n : Nat} {ss : List Step} (h : RRow w b n ss) (hb : Below w.heap.size w w') : RRow w' b n ss :=
  ⟨h.1, fun hn => Nat.lt_of_lt_of_le (h.2.1 hn) hb.size, fun k hk => by
    obtain ⟨c1, ⟨A, m, c, c2, c3⟩, c4⟩ := h.2.2 k hk
    have hl := h.2.1 (by omega)
    have hs : Same b w.heap.size w w' := Same.of_below hb
    exact ⟨c1.same hs (Nat.le_refl _) hl, ⟨A, m, c, c2.same hs (Nat.le_refl _) hl, (c3.below hb (Nat.le_refl _)).wide (Nat.le_refl _) hb.size⟩, c4.same hs (Nat.le_refl _) hl⟩⟩
theorem RRow.set {w : World} {b n j m d : Nat} {B : Option Addr} {ss : List Step} {s : Step} (h : RRow w b n ss) (hj : j < n) (hs : RH strE w (b + 1) w.heap.size B m s.after) :
    RRow (((w.setCell ⟨b, j * 3, none⟩ (.string s.name)).setCell ⟨b, j * 3 + 1, none⟩ (.slice B m d)).setCell ⟨b, j * 3 + 2, none⟩ (.bool s.undo)) b n (ss.set j s) := by
  have hsz : (((w.setCell ⟨b, j * 3, none⟩ (.string s.name)).setCell ⟨b, j * 3 + 1, none⟩ (.slice B m d)).setCell ⟨b, j * 3 + 2, none⟩ (.bool s.undo)).heap.size = w.heap.size := by simp
  have hk : ∀ {A : Option Addr} {m : Nat} {xs : List Str}, RH strE w (b + 1) w.heap.size A m xs →
      RH strE (((w.setCell ⟨b, j * 3, none⟩ (.string s.name)).setCell ⟨b, j * 3 + 1, none⟩ (.slice B m d)).setCell ⟨b, j * 3 + 2, none⟩ (.bool s.undo)) (b + 1) w.heap.size A m xs := fun h =>
    h.same ⟨fun i h1 _ => ((Below.heap_setCell _ _ _ i (by show i ≠ b; omega)).trans (Below.heap_setCell _ _ _ i (by show i ≠ b; omega))).trans (Below.heap_setCell _ _ _ i (by show i ≠ b; omega))⟩
  refine ⟨by rw [List.length_set]; exact h.1, fun hn => by rw [hsz]; exact h.2.1 hn, fun k hkn => ?_⟩
  obtain ⟨c1, ⟨A, m', c, c2, c3⟩, c4⟩ := h.2.2 k hkn
  rw [nth_set (by rw [h.1]; exact hj), hsz]
  have hk2 : ∀ {A : Option Addr} {m' : Nat} {xs : List Str}, RH strE w (b + 1) w.heap.size A m' xs →
      RH strE (((w.setCell ⟨b, j * 3, none⟩ (.string s.name)).setCell ⟨b, j * 3 + 1, none⟩ (.slice B m d)).setCell ⟨b, j * 3 + 2, none⟩ (.bool s.undo)) (b + 1) w.heap.size A m' xs := fun h =>
    h.same ⟨fun i h1 _ => ((Below.heap_setCell _ _ _ i (by show i ≠ b; omega)).trans (Below.heap_setCell _ _ _ i (by show i ≠ b; omega))).trans (Below.heap_setCell _ _ _ i (by show i ≠ b; omega))⟩
  by_cases hkj : k = j
  · subst hkj
    rw [if_pos rfl]
    exact ⟨(c1.set_same.set_other (.inr (by omega))).set_other (.inr (by omega)), ⟨B, m, d, ((c2.set_other (.inr (by omega))).set_same).set_other (.inr (by omega)), hk2 hs⟩, ((c4.set_other (.inr (by omega))).set_other (.inr (by omega))).set_same⟩
  · rw [if_neg hkj]
    exact ⟨((c1.set_other (.inr (by omega))).set_other (.inr (by omega))).set_other (.inr (by omega)), ⟨A, m', c, ((c2.set_other (.inr (by omega))).set_other (.inr (by omega))).set_other (.inr (by omega)), hk2 c3⟩, ((c4.set_other (.inr (by omega))).set_other (.inr (by omega))).set_other (.inr (by omega))⟩
theorem own_fresh_step {w : World} {base : Nat} {e : TypeId} {v : Value} {n : Nat} (h : w.ownsRow base e 3 v n (madeCells #[.string ⟨#[]⟩, .slice none 0 0, .bool false] (n * 3)).toList) :
    ∃ A c, v = .slice A n c ∧ (0 < n → ∃ b, A = some ⟨b, 0, none⟩ ∧ base ≤ b) ∧ ∀ b, A = some ⟨b, 0, none⟩ → RRow w b n (List.replicate n ⟨⟨#[]⟩, [], false⟩) := by
  obtain ⟨A, c, hv, hf⟩ := own_made (m := 3) (z := #[.string ⟨#[]⟩, .slice none 0 0, .bool false]) rfl h
  refine ⟨A, c, hv, fun hn => ?_, fun b hb => ⟨by simp, fun hn => ?_, fun k hk => ?_⟩⟩
  · obtain ⟨b, e1, h1, _⟩ := hf hn
    exact ⟨b, e1, h1⟩
  · obtain ⟨b', e1, _, h2, _⟩ := hf hn
    rw [hb] at e1
    injection e1 with e1; injection e1 with e2
    subst e2; exact h2
  · obtain ⟨b', e1, h1, h2, hc⟩ := hf (by omega)
    rw [hb] at e1
    injection e1 with e1; injection e1 with e2
    subst e2
    rw [nth_rep hk]
    exact ⟨hc k hk 0 _ (by omega) rfl, ⟨none, 0, 0, hc k hk 1 _ (by omega) rfl, RH.nil⟩, hc k hk 2 _ (by omega) rfl⟩

set_option maxRecDepth 100000 in
theorem toStepSC_any (A : Option Addr) (n c : Nat) (xs : List Step) (lo : Nat) (w : World) (hr : RStep w lo A n xs) (hok : okSteps xs) :
    Calls Tryd.prog 53 #[.slice A n c] w fun e w' => ∃ A' c', e = .returned (.slice A' n c') ∧ RStep w' w.heap.size A' n xs ∧ Below w.heap.size w w' ∧ CapS w' A' n := by
  have hn : n ≤ 1048576 := by have := hok.1; rw [hr.1] at this; exact this
  have HO := Lib.hid hok; clear hok
  have HR := Lib.hid hr; clear hr
  obtain ⟨i0, hi0, hz0, hz1, hz2⟩ := info_parts info_step
  go_enter Tryd.func53, Tryd.ntmps53
  go_wp2_with (at_make; refine wpList_make_full _ rfl _ _ 36 rfl w.heap.size 25 i0 _ 3 Tryd.underlying36 hi0 hz0 hz1 _ _ _ _ n rfl rfl rfl rfl ?c1 ?c2 (Nat.le_refl _) ?_)
  case c1 => rw [hz2]; omega
  case c2 => unfold maxLen; omega
  intro w1 hown hgr
  have hbw : Below w.heap.size w w1 := (Below.refl _ _).grown hgr (Nat.le_refl _) (by simp)
  obtain ⟨A1, c1, hv1, _, hr1⟩ := own_fresh_step hown
  injection hv1 with hA1 hn1 hc1
  subst hA1
  have HR1 := Lib.hid (hr1 w.heap.size rfl)
  clear hn1 hc1 hown hgr hr1
  have HB1 := Lib.hid hbw; clear hbw
  go_wp2_with fail
  go_loopw [4] (fun i wr => ∃ j : Nat, ∃ ys : List Step, j ≤ n ∧ i = .int .i64 (j : Int) ∧ RRow wr w.heap.size n ys ∧ (∀ l, l < j → nth ys l = nth xs l) ∧ Below w.heap.size w wr ∧ CapS wr (some ⟨w.heap.size, 0, none⟩) j) (fun i _ => n - (intOf i).toNat)
  case atStart => exact ⟨0, _, Nat.zero_le _, rfl, HR1.out, fa_zero, HB1.out, CapS.zero⟩
  case round =>
    obtain ⟨j, ys, hj, rfl, hys, hp, hb, hcp⟩ := hrel
    have HP := Lib.hid hp; clear hp
    have HB := Lib.hid hb; clear hb
    have HCP := Lib.hid hcp; clear hcp
    have HY := Lib.hid hys; clear hys
    by_cases hlt : j < n
    · obtain ⟨b, off, rfl, ⟨hb1, hb2⟩, hc⟩ := RStep.at_ (HR.out.below HB.out) hlt
      obtain ⟨A', n', c', ⟨d1, d2, d3⟩, hra, _⟩ := hc j hlt
      clear hc
      have HRA := Lib.hid hra; clear hra
      have hlb := HY.out.2.1 (by omega)
      have hn' : n' ≤ 1048576 := by
        have h1 := (HO.out.2 j (by rw [HR.out.1]; exact hlt)).2.1
        have h2 := HRA.out.1
        omega
      go_wp2_with fail
      refine (toStepc_any _ _ _ (nth xs j) _ _ HRA.out hn').mono ?_
      rintro e w2 ⟨A2, c2, rfl, hr2, hbw, hc2⟩
      have HC2 := Lib.hid (HCP.out.below hbw)
      have HLE := Lib.hid hc2; clear hc2
      have HBW := Lib.hid hbw; clear hbw
      have HR2 := Lib.hid (hr2.lower (show w.heap.size + 1 ≤ wr.heap.size by omega)); clear hr2
      have HY2 := Lib.hid (HY.out.below HBW.out)
      have HB2 := Lib.hid (HB.out.trans (HBW.out.mono HB.out.size))
      obtain ⟨⟨f1, g1⟩, ⟨_, _, _, ⟨f2, g2⟩, _⟩, f3, g3⟩ := HY2.out.2.2 j hlt
      go_wp2_with fail
      go_roundw
      case rel =>
        refine ⟨j + 1, ys.set j (nth xs j), by omega, by go_num, HY2.out.set hlt HR2.out.low, ?_, ((HB2.out.setCell (Nat.le_refl _) _).setCell (Nat.le_refl _) _).setCell (Nat.le_refl _) _, HC2.out.put f2 HLE.out⟩
        intro l hl
        rw [nth_set (by rw [HY.out.1]; exact hlt)]
        by_cases e : l = j
        · rw [if_pos e, e]
        · rw [if_neg e]; exact HP.out l (by omega)
      case measure => simp [intOf]; omega
    · go_wp2_with fail
      go_ret
      obtain rfl : j = n := by omega
      refine ⟨_, _, rfl, ?_, HB.out, HCP.out⟩
      have e : ys = xs := list_ext (by rw [HY.out.1, HR.out.1]) (fun l hl => HP.out l (by rw [HY.out.1] at hl; omega))
      rw [← e]; exact HY.out.hat

theorem toStepS_any (A : Option Addr) (n c : Nat) (xs : List Step) (lo : Nat) (w : World) (hr : RStep w lo A n xs) (hok : okSteps xs) :
    Calls Tryd.prog 53 #[.slice A n c] w fun e w' => ∃ A' c', e = .returned (.slice A' n c') ∧ RStep w' w.heap.size A' n xs ∧ Below w.heap.size w w' :=
  (toStepSC_any A n c xs lo w hr hok).mono fun _ _ ⟨A', c', h1, h2, h3, _⟩ => ⟨A', c', h1, h2, h3⟩

set_option maxRecDepth 100000 in
theorem toFlowC_any (A : Option Addr) (n c : Nat) (f : Flow) (lo : Nat) (w : World) (hr : RStep w lo A n f.steps) (hok : okSteps f.steps) :
    Calls Tryd.prog 25 #[.agg #[.int .i64 f.ver, .slice A n c]] w fun e w' => ∃ A' c', e = .returned (.agg #[.int .i64 f.ver, .slice A' n c']) ∧ RStep w' w.heap.size A' n f.steps ∧ Below w.heap.size w w' ∧ CapS w' A' n := by
  have HR := Lib.hid hr; clear hr
  have HO := Lib.hid hok; clear hok
  go_enter Tryd.func25, Tryd.ntmps25
  go_wp2_with fail
  refine (toStepSC_any _ _ _ f.steps _ _ (((HR.out.alloc _).alloc _).alloc _) HO.out).mono ?_
  rintro e w1 ⟨A2, c2, rfl, hr2, hb, hcp⟩
  have HCP := Lib.hid hcp; clear hcp
  have hsz : (((w.alloc (.cells #[.int .i64 f.ver, .slice A n c] 43)).alloc (.cells #[.int .i64 0, .slice none 0 0] 38)).alloc (.cells #[.int .i64 f.ver, .slice none 0 0] 38)).heap.size = w.heap.size + 1 + 1 + 1 := by simp
  rw [hsz] at hr2 hb
  have H1 := Lib.hid ((hb.block (w.heap.size + 1) (by omega)).trans (heap_old (o := .cells #[.int .i64 f.ver, .slice none 0 0] 38) (heap_new (b := w.heap.size + 1) (o := .cells #[.int .i64 0, .slice none 0 0] 38) (by simp))))
  have H2 := Lib.hid ((hb.block (w.heap.size + 1 + 1) (by omega)).trans (heap_new (b := w.heap.size + 1 + 1) (o := .cells #[.int .i64 f.ver, .slice none 0 0] 38) (by simp)))
  have HB := Lib.hid (((((Below.refl w.heap.size w).alloc (Nat.le_refl _) (.cells #[.int .i64 f.ver, .slice A n c] 43)).alloc (by simp) (.cells #[.int .i64 0, .slice none 0 0] 38)).alloc (by simp; omega) (.cells #[.int .i64 f.ver, .slice none 0 0] 38)).trans (hb.mono (by omega)))
  have HR2 := Lib.hid hr2
  clear hr2 hb hsz
  have H3 := Lib.hid (set21 (u := .slice A2 n c2) H2.out)
  have H5 := Lib.hid (set_ne (b := w.heap.size + 1 + 1) (o := 1) (u := .slice A2 n c2) H1.out (by omega))
  have c1 := (blk_cl (k := 1) H2.out rfl).1
  have d1 := (blk_cl (k := 1) H2.out rfl).2
  have e0 := (blk_cl (k := 0) H3.out rfl).1
  have e1 := (blk_cl (k := 1) H3.out rfl).1
  have g0 := (blk_cl (k := 0) H5.out rfl).1
  have g0' := (blk_cl (k := 0) H5.out rfl).2
  have g1 := (blk_cl (k := 1) H5.out rfl).1
  have g1' := (blk_cl (k := 1) H5.out rfl).2
  go_wp2_with fail
  have hres := set21 (u := .slice A2 n c2) (set20 (u := .int .i64 f.ver) H5.out)
  have p0 := (blk_cl (k := 0) hres rfl).1
  have p1 := (blk_cl (k := 1) hres rfl).1
  have l1 : w.heap.size + 1 < w.heap.size + 1 + 1 + 1 := by omega
  have l2 : w.heap.size + 1 + 1 < w.heap.size + 1 + 1 + 1 := by omega
  have q1 : w.heap.size ≤ w.heap.size + 1 := by omega
  have q2 : w.heap.size ≤ w.heap.size + 1 + 1 := by omega
  exact bodyPost_ret (v := .agg #[.int .i64 f.ver, .slice A2 n c2]) (by simp [results, Tryd.results25, go_sem, p0, p1]) rfl
    ⟨_, _, rfl, (((HR2.out.setLow l2).setLow l1).setLow l1).lower (by omega),
      ((HB.out.setCell (p := ⟨w.heap.size + 1 + 1, 1, none⟩) q2 _).setCell (p := ⟨w.heap.size + 1, 0, none⟩) q1 _).setCell (p := ⟨w.heap.size + 1, 1, none⟩) q1 _,
      ((HCP.out.setPlain2 HR2.out l2).setPlain2 ((HR2.out.setLow l2)) l1).setPlain2 ((HR2.out.setLow l2).setLow l1) l1⟩

theorem toFlow_any (A : Option Addr) (n c : Nat) (f : Flow) (lo : Nat) (w : World) (hr : RStep w lo A n f.steps) (hok : okSteps f.steps) :
    Calls Tryd.prog 25 #[.agg #[.int .i64 f.ver, .slice A n c]] w fun e w' => ∃ A' c', e = .returned (.agg #[.int .i64 f.ver, .slice A' n c']) ∧ RStep w' w.heap.size A' n f.steps ∧ Below w.heap.size w w' :=
  (toFlowC_any A n c f lo w hr hok).mono fun _ _ ⟨A', c', h1, h2, h3, _⟩ => ⟨A', c', h1, h2, h3⟩

set_option maxRecDepth 100000 in
theorem eqStepS_same (A B : Option Addr) (n c d : Nat) (xs : List Step) (lo lo' : Nat) (w : World) (hr : RStep w lo A n xs) (hok : okSteps xs) (hr' : RStep w lo' B n xs) :
    Calls Tryd.prog 54 #[.slice A n c, .slice B n d] w fun e w' => e = .returned (.bool true) ∧ Below w.heap.size w w' := by
  have hn : n ≤ 1048576 := by have := hok.1; rw [hr.1] at this; exact this
  have HO := Lib.hid hok; clear hok
  have HX := Lib.hid hr; clear hr
  have HY := Lib.hid hr'; clear hr'
  go_enter Tryd.func54, Tryd.ntmps54
  go_wp2_with fail
  go_loopw [5] (fun i wr => ∃ k : Nat, k ≤ n ∧ i = .int .i64 k ∧ Below w.heap.size w wr) (fun i _ => n - (intOf i).toNat)
  case atStart => exact ⟨0, Nat.zero_le _, rfl, Below.refl _ _⟩
  case round =>
    obtain ⟨k, hk, rfl, hb⟩ := hrel
    have HB := Lib.hid hb; clear hb
    by_cases hlt : k < n
    · obtain ⟨b, off, rfl, ⟨_, hb2⟩, hc⟩ := RStep.at_ (HX.out.below HB.out) hlt
      obtain ⟨A1, n1, k1, ⟨c1, c2, c3⟩, hra, _⟩ := hc k hlt
      clear hc
      obtain ⟨b', off', rfl, ⟨_, hb4⟩, hc⟩ := RStep.at_ (HY.out.below HB.out) hlt
      obtain ⟨A2, n2, k2, ⟨d1, d2, d3⟩, hrb, _⟩ := hc k hlt
      clear hc
      have e12 : n2 = n1 := by rw [← hra.1, ← hrb.1]
      subst e12
      have hn1 : n2 ≤ 1048576 := by
        have h1 := (HO.out.2 k (by rw [HX.out.1]; exact hlt)).2.1
        have h2 := hra.1
        omega
      have HEQ := Lib.hid (fun w' (hb : Below wr.heap.size wr w') => eqStep_same _ _ _ k1 k2 (nth xs k) _ _ w' (hra.below hb) hn1 (hrb.below hb))
      clear hra hrb
      go_wp2_with fail
      go_region_held3 (fun w' => (w'.cell? ⟨b, off + k * 3, none⟩ = some (.string (nth xs k).name) ∧ w'.cell? ⟨b, off + k * 3 + 1, none⟩ = some (.slice A1 n2 k1) ∧ w'.cell? ⟨b, off + k * 3 + 2, none⟩ = some (.bool (nth xs k).undo)) ∧
          w'.cell? ⟨b', off' + k * 3, none⟩ = some (.string (nth xs k).name) ∧ w'.cell? ⟨b', off' + k * 3 + 1, none⟩ = some (.slice A2 n2 k2) ∧ w'.cell? ⟨b', off' + k * 3 + 2, none⟩ = some (.bool (nth xs k).undo))
        (first | exact ⟨⟨(hbw.cell (p := ⟨b, _, none⟩) hb2).trans c1, (hbw.cell (p := ⟨b, _, none⟩) hb2).trans c2, (hbw.cell (p := ⟨b, _, none⟩) hb2).trans c3⟩, (hbw.cell (p := ⟨b', _, none⟩) hb4).trans d1, (hbw.cell (p := ⟨b', _, none⟩) hb4).trans d2, (hbw.cell (p := ⟨b', _, none⟩) hb4).trans d3⟩ | exact ⟨⟨c1, c2, c3⟩, d1, d2, d3⟩ | go_keep | fail "keep")
        (first | (go_at_call 16; refine (HEQ.out _ (Below.refl _ _).drew).mono ?_; rintro e w1 ⟨rfl, hbw⟩) | fail "no arm")
      go_wp2_with fail
      go_roundw
      case rel => exact ⟨k + 1, by omega, by go_num, HB.out.drew.trans (hbw.mono HB.out.size)⟩
      case measure => simp [intOf]; omega
    · go_wp2_with fail
      go_ret
      exact ⟨rfl, HB.out⟩

set_option maxRecDepth 100000 in
theorem eqFlow_same (A B : Option Addr) (n c d : Nat) (f : Flow) (lo lo' : Nat) (w : World) (hr : RStep w lo A n f.steps) (hok : okSteps f.steps) (hr' : RStep w lo' B n f.steps) :
    Calls Tryd.prog 26 #[.agg #[.int .i64 f.ver, .slice A n c], .agg #[.int .i64 f.ver, .slice B n d]] w fun e w' => e = .returned (.bool true) ∧ Below w.heap.size w w' := by
  have HO := Lib.hid hok; clear hok
  have HX := Lib.hid hr; clear hr
  have HY := Lib.hid hr'; clear hr'
  go_enter Tryd.func26, Tryd.ntmps26
  go_wp2_with fail
  refine (eqStepS_same _ _ _ _ _ f.steps _ _ _ ((HX.out.alloc _).alloc _) HO.out ((HY.out.alloc _).alloc _)).mono ?_
  rintro e w1 ⟨rfl, hb⟩
  go_wp2_with fail
  go_ret
  exact ⟨rfl, (((Below.refl _ _).alloc (Nat.le_refl _) _).alloc (by simp) _).trans (hb.mono (by simp; omega))⟩
end Go.Proofs.YthdfefgianokgaaDoor

/- FnExactFlowText: the walk. -/
namespace Go.Proofs.YthdfefgianokgaaDoor
open Go.RowKit

set_option maxRecDepth 100000 in
set_option maxHeartbeats 1000000 in
theorem fnExactFlowText_any (A : Option Addr) (n c : Nat) (f : Flow) (w : World) (hr : RStep w 0 A n f.steps) (hn : n ≤ maxLen) (hs : ∀ j, j < n → stepSz (nth f.steps j)) :
    Calls Tryd.prog 9 #[.agg #[.int .i64 f.ver, .slice A n c]] w fun e w' => e = .returned (.bool true) ∧ Below w.heap.size w w' := by
  have HN := Lib.hid hn; clear hn
  have HS := Lib.hid hs; clear hs
  have HX0 := Lib.hid (heap_new (w := w) (o := .cells #[.int .i64 f.ver, .slice A n c] 43) rfl)
  have HB0 := Lib.hid ((Below.refl w.heap.size w).alloc (Nat.le_refl _) (.cells #[.int .i64 f.ver, .slice A n c] 43))
  have HR0 := Lib.hid (hr.alloc (.cells #[.int .i64 f.ver, .slice A n c] 43)); clear hr
  have HK : Hid (∀ w', Below (w.alloc (.cells #[.int .i64 f.ver, .slice A n c] 43)).heap.size (w.alloc (.cells #[.int .i64 f.ver, .slice A n c] 43)) w' → (w'.cell? ⟨w.heap.size, 0, none⟩ = some (.int .i64 f.ver) ∧ w'.cell? ⟨w.heap.size, 1, none⟩ = some (.slice A n c)) ∧ RStep w' 0 A n f.steps ∧ Below w.heap.size w w') := fun w' h => by
    have e1 := (h.block w.heap.size (by simp)).trans HX0.out
    exact ⟨⟨(blk_cl (k := 0) e1 rfl).1, (blk_cl (k := 1) e1 rfl).1⟩, HR0.out.below h, HB0.out.trans (h.mono HB0.out.size)⟩
  go_enter Tryd.func9, Tryd.ntmps9
  go_wp2_with fail
  refine (szFlow_any _ _ _ f _ _ _ HR0.out HN.out HS.out (by omega) (by omega)).mono ?_
  rintro e w1 ⟨r, rfl, hr0, hr1, hb1⟩
  have HB1 := Lib.hid hb1; clear hb1
  by_cases hneg : r < 0
  · clear hr1
    go_wp2_with fail
    go_ret
    exact ⟨rfl, (HK.out _ HB1.out).2.2⟩
  obtain ⟨_, hok⟩ := hr1 (by omega)
  have HOK := Lib.hid hok; clear hok
  obtain ⟨⟨a0, a1⟩, _⟩ := HK.out _ HB1.out
  go_wp2_with fail
  refine (toFlow_any _ _ _ f _ _ (HK.out _ HB1.out).2.1 HOK.out).mono ?_
  rintro e w2 ⟨A2, c2, rfl, h2, hb2⟩
  have HB2 := Lib.hid (HB1.out.trans (hb2.mono HB1.out.size)); clear hb2 a0 a1
  have H2 := Lib.hid h2; clear h2
  go_wp2_with fail
  refine (flowTextS_any _ _ _ f _ _ H2.out HOK.out).mono ?_
  rintro e w3 ⟨rfl, hb3⟩
  have HB3 := Lib.hid (HB2.out.trans (hb3.mono HB2.out.size)); clear hb3 H2
  obtain ⟨⟨a0, a1⟩, _⟩ := HK.out _ HB3.out
  go_wp2_with fail
  refine (toFlowC_any _ _ _ f _ _ (HK.out _ HB3.out).2.1 HOK.out).mono ?_
  rintro e w5 ⟨A5, c5, rfl, h5, hb5, hcp5⟩
  have HB5a := HB3.out.trans (hb5.mono HB3.out.size)
  have HB5 := Lib.hid (HB5a.alloc HB5a.size (.cells #[.int .i64 f.ver, .slice A5 n c5] 38))
  have H5 := Lib.hid (h5.alloc (.cells #[.int .i64 f.ver, .slice A5 n c5] 38)); clear h5
  have HC5 := Lib.hid (hcp5.alloc (.cells #[.int .i64 f.ver, .slice A5 n c5] 38)); clear hcp5
  have HY5 := Lib.hid (heap_new (w := w5) (o := .cells #[.int .i64 f.ver, .slice A5 n c5] 38) rfl)
  clear a0 a1 HB5a hb5
  go_wp2_with fail
  refine (flowTextI_any _ _ _ f _ _ H5.out HOK.out HC5.out).mono ?_
  rintro e w7 ⟨rfl, hb7⟩
  have HB7 := Lib.hid (HB5.out.trans (hb7.mono HB5.out.size))
  have H7 := Lib.hid (H5.out.below hb7)
  have HY7 := Lib.hid ((hb7.block w5.heap.size (heap_lt HY5.out)).trans HY5.out)
  clear hb7
  have HSB7 : Hid (∀ w', Below w7.heap.size w7 w' → ((w'.cell? ⟨w.heap.size, 0, none⟩ = some (.int .i64 f.ver) ∧ w'.cell? ⟨w.heap.size, 1, none⟩ = some (.slice A n c)) ∧ (w'.cell? ⟨w5.heap.size, 0, none⟩ = some (.int .i64 f.ver) ∧ w'.cell? ⟨w5.heap.size, 1, none⟩ = some (.slice A5 n c5))) ∧ Below w7.heap.size w7 w') := fun w' h => by
    have e1 := (h.block _ (heap_lt HY7.out)).trans HY7.out
    exact ⟨⟨(HK.out _ (HB7.out.trans (h.mono HB7.out.size))).1, (blk_cl (k := 0) e1 rfl).1, (blk_cl (k := 1) e1 rfl).1⟩, h⟩
  have HTF7 : Hid (∀ cur, Below w7.heap.size w7 cur → Calls Tryd.prog 25 #[.agg #[.int .i64 f.ver, .slice A n c]] cur fun e w' => ∃ A' c', e = .returned (.agg #[.int .i64 f.ver, .slice A' n c']) ∧ RStep w' cur.heap.size A' n f.steps ∧ Below w7.heap.size w7 w') := fun cur h =>
    (toFlow_any _ _ _ f _ _ (HK.out _ (HB7.out.trans (h.mono HB7.out.size))).2.1 HOK.out).mono fun e w' ⟨A', c', he, h1, h2⟩ => ⟨A', c', he, h1, h.trans (h2.mono h.size)⟩
  generalize flowTextS f = z at *
  have hq2 : (z.toList != z.toList) = false := by simp
  go_wp2_with fail
  go_region_held3 (fun w' => ((w'.cell? ⟨w.heap.size, 0, none⟩ = some (.int .i64 f.ver) ∧ w'.cell? ⟨w.heap.size, 1, none⟩ = some (.slice A n c)) ∧ (w'.cell? ⟨w5.heap.size, 0, none⟩ = some (.int .i64 f.ver) ∧ w'.cell? ⟨w5.heap.size, 1, none⟩ = some (.slice A5 n c5))) ∧ Below w7.heap.size w7 w')
    ((refine HSB7.out _ ?_; (repeat (first | with_reducible exact hbw | with_reducible exact Below.refl _ _ | apply Below.drew | fail "x")); done))
    (first
      | (go_at_call 25; refine (HTF7.out _ (by (repeat (first | with_reducible exact hbw | with_reducible exact Below.refl _ _ | apply Below.drew | fail "x")); done)).mono ?_; rintro e w8 ⟨A8, c8, rfl, h8, hbw⟩)
      | (go_at_call 26; refine (eqFlow_same _ _ _ _ _ f _ _ _ (H7.out.below hbw) HOK.out h8).mono ?_; rintro e w9 ⟨rfl, hb9⟩; replace hbw := hbw.trans (hb9.mono hbw.size))
      | fail "no arm")
  go_wp2_with fail
  go_ret
  exact ⟨rfl, (HK.out _ (HB7.out.trans (hbw.mono HB7.out.size))).2.2⟩
end Go.Proofs.YthdfefgianokgaaDoor

/- FnExactFlowText's card: it returns true at every input that its row takes, and leaves its arguments as they were. No condition but the row's. -/
namespace Go.Proofs.YthdfefgianokgaaDoor
open Go.ChangeShapes Go.WideShapes Go.ChangeAt Go.RowKit

set_option maxRecDepth 100000 in
theorem fnExactFlowText_lifted (os : Os) (started : os.Started) (H : Type) (enc : TypeId × Value → H) :
    ReturnsInHanded {} Tryd.checked os 9 .any (fun w args => (Rows.fnExactFlowTextSpec.pre enc Tryd.prog Tryd.f9 Rows.fnExactFlowTextRow.domain false w args ∧ laidMetH Tryd.prog Rows.fnExactFlowTextRow.laid w) ∧ sizedMet enc Tryd.prog Tryd.f9 (OpenSpec.ofChange Rows.fnExactFlowTextSpec) false w args)
      (Rows.fnExactFlowTextSpec.post enc Tryd.prog Tryd.f9 false true false false) := by
  refine handed_laid (C := Tryd.checked) (X := fun w _ => laidMetH Tryd.prog Rows.fnExactFlowTextRow.laid w) (fun _ _ _ hh h => h.of_heap hh) Tryd.own started (by kernel_rfl) Tryd.func9
    (ChangeSpec.witness_shaped (enc := enc) (C := Tryd.checked) (os := os) (X := fun w _ => laidMetH Tryd.prog Rows.fnExactFlowTextRow.laid w) false (World.laidAll Tryd.prog os Rows.fnExactFlowTextRow.laid) #[.agg #[.int .i64 0, .slice none 0 0]] 8 (World.laidAll_os _ _ _)
      (World.shaped_of_ZipB (by kernel_rfl) (by kernel_rfl)) (by kernel_rfl) (by kernel_rfl) (by kernel_rfl)
      (by rw [MakeChecks.laidMetH_plain _ _ _ (by kernel_rfl)]; exact laidMet_laidAll _ (by kernel_rfl) (by kernel_rfl))) ?_
  intro W base args ds gs before hval0 hW hsh hL
  have hval : ∀ (j : Nat) t v, Tryd.f9.params[j]? = some t → args[j]? = some v → Value.okWide Tryd.prog W .any base t v := hval0
  have hW' := hW
  obtain ⟨p, q, hA0, hV, rfl, hfz, hnd⟩ := hW
  have hA : DataW.TrodAll enc Tryd.prog W 0 (fun _ => true) true Tryd.f9.params.toList args.toList ds p := hA0
  rw [Tryd.params9] at hA hval
  obtain ⟨v0, d0, rfl, rfl, h0⟩ := trodAll_one hA
  obtain ⟨rfl, rfl⟩ := trodVars_none hV
  have h0k := h0
  obtain ⟨fuel, hf⟩ := h0
  clear hA0 hval0 hA
  simp only [List.append_nil] at hW' hfz
  have hlt : ∀ x ∈ p, x.block < W.heap.size := fun x hx => by simpa using hW'.lt x hx
  obtain ⟨ver, A, n, c, ss, rfl, hr, hn, hs⟩ := open_flow (hval 0 43 v0 rfl rfl) hf hfz
  refine (fnExactFlowText_any A n c ⟨ver, ss⟩ W hr hn hs).mono fun e W' ⟨he, hb⟩ => ?_
  subst he
  exact ⟨_, rfl, post_law hW' rfl (by kernel_rfl) Tryd.underlying4 rfl rfl rfl (trodAll_mk1 (Below.trod Tryd.laidOut (by kernel_rfl) (of_decide_eq_true (by kernel_rfl)) h0k hb hlt)) hb⟩

theorem fnExactFlowText_row : Rows.FnExactFlowTextSaid :=
  OpenClaim.holds_of_wide 9 Tryd.f9 rfl rfl rfl rfl rfl rfl rfl ⟨rfl, rfl, rfl, rfl, rfl⟩ rfl rfl rfl rfl rfl (by kernel_rfl) Tryd.func9 (by kernel_rfl)
    (of_decide_eq_true (by kernel_rfl)) (by unfold Func.isWrapper; rw [if_neg (by decide +kernel)]; exact ⟨rfl, rfl⟩)
    (fun os started H enc _ => fnExactFlowText_lifted os started H enc)

theorem fnExactFlowText_holds : Rows.FnExactFlowTextCardSaid :=
  Claim7.holds_tied_plain_at .later [] Rows.fnExactFlowTextCard.laidKinds true Rows.fnExactFlowTextCard.stood.harness false fnExactFlowText_row (fun _ h => by cases h) (by kernel_rfl) (fun _ h => by cases h) fnExactFlowText_row_tie rfl ⟨rfl, rfl⟩ (by kernel_rfl) rfl
    (fun f fn hf hfn => by
      obtain rfl : f = 9 := Option.some.inj ((show Tryd.prog.funcNamed "loop.example/sagaflows/laws.FnExactFlowText" = some 9 by kernel_rfl).symm.trans hf) |>.symm
      obtain rfl : fn = Tryd.f9 := (Option.some.inj (Tryd.func9.symm.trans hfn)).symm
      exact ⟨by kernel_rfl, fun j t ht => by
        rw [Tryd.params9] at ht
        have hm : t ∈ [43] := by simpa using Array.mem_of_getElem? ht
        have hall : ([43].all fun u => !Tryd.prog.wantsStandIn u) = true := by kernel_rfl
        exact (show Tryd.prog.wantsStandIn t = false by simpa using List.all_eq_true.1 hall t hm)⟩)
    (by kernel_rfl)
end Go.Proofs.YthdfefgianokgaaDoor
