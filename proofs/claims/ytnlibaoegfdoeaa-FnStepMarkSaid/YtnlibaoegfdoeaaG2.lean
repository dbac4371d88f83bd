/- Drawing a flow out of a code. -/
import Derived.Test.YtnlibaoegfdoeaaG1
namespace Go.Proofs.Ytnlibaoegfdoeaa
open Go.RowKit

def FlowD (w : World) (e : Ending) (w' : World) : Prop :=
  ∃ (v : Int) (A : Option Addr) (n c : Nat) (ss : List Step), e = .returned (.agg #[.int .i64 v, .slice A n c]) ∧ RStep w' w.heap.size A n ss ∧ okSteps ss ∧ 1 ≤ n ∧ n ≤ 6 ∧ Below w.heap.size w w'
theorem RByte.below {w w' : World} {A : Option Addr} {n : Nat} (h : RByte w A n) (hb : Below w.heap.size w w') : RByte w' A n := fun h0 => by
  obtain ⟨b, off, e, h1, h2⟩ := h h0
  refine ⟨b, off, e, Nat.lt_of_lt_of_le h1 hb.size, fun k hk => ?_⟩
  obtain ⟨u, hu, hc⟩ := h2 k hk
  exact ⟨u, hu, (hb.cell (p := ⟨b, off + k, none⟩) h1).trans hc⟩
theorem RByte.alloc {w : World} {A : Option Addr} {n : Nat} (h : RByte w A n) (o : Obj) : RByte (w.alloc o) A n := h.below ((Below.refl _ _).alloc (Nat.le_refl _) o)

set_option maxRecDepth 100000 in
theorem drawCountOrders_any (A : Option Addr) (n c : Nat) (w : World) (hr : RByte w A n) (hc : n ≤ c) (hn : n ≤ 1048576) : Calls Try.prog 38 #[.slice A n c] w (FlowD w) := by
  have HR := Lib.hid (hr.alloc (.cells #[.int .i64 0, .slice none 0 0] 57)); clear hr
  go_enter Try.func38, Try.ntmps38
  go_wp2_with fail
  refine (open_any _ _ _ _ HR.out hc hn).mono ?_
  rintro e w1 ⟨rfl, hrd, hb1⟩
  have hsz : (w.alloc (.cells #[.int .i64 0, .slice none 0 0] 57)).heap.size = w.heap.size + 1 := by simp
  rw [hsz] at hrd hb1 ⊢
  have hd0 : Dr 86 w1 (w.heap.size + 1) 0 w1 := ⟨On.refl _ _, 0, Nat.le_refl _, hrd⟩
  have hl1 := hrd.lt
  have HRES := Lib.hid ((hb1.block w.heap.size (Nat.lt_succ_self _)).trans (heap_new (o := .cells #[.int .i64 0, .slice none 0 0] 57) rfl))
  have HB1 := Lib.hid (((Below.refl w.heap.size w).alloc (Nat.le_refl _) (.cells #[.int .i64 0, .slice none 0 0] 57)).trans (hb1.mono (Nat.le_succ _)))
  clear hrd hb1 hsz
  go_wp2_with fail
  refine (l91Flow_any w1 _ _ _ hd0 (by omega)).mono ?_
  rintro e w2 ⟨v, A2, n2, c2, ss, rfl, hs, hok, h1, h6, hd, hon⟩
  have HS := Lib.hid (hs.lower (show w.heap.size + 1 ≤ w1.heap.size by omega)); clear hs
  have HR2 := Lib.hid (hon.blk HRES.out (by omega))
  have HB2 := Lib.hid (HB1.out.trans ((hon.low (Nat.le_of_lt hl1)).mono (Nat.le_succ _)))
  have HOK := Lib.hid hok; clear hok
  clear hon hd hd0
  have r0a := (blk_cl (k := 0) HR2.out rfl).1
  have r0b := (blk_cl (k := 0) HR2.out rfl).2
  have r1a := (blk_cl (k := 1) HR2.out rfl).1
  have r1b := (blk_cl (k := 1) HR2.out rfl).2
  go_wp2_with fail
  have hres := set21 (u := .slice A2 n2 c2) (set20 (u := .int .i64 v) HR2.out)
  have e0 := (blk_cl (k := 0) hres rfl).1
  have e1 := (blk_cl (k := 1) hres rfl).1
  exact bodyPost_ret (v := .agg #[.int .i64 v, .slice A2 n2 c2]) (by simp [results, Try.results38, go_sem, e0, e1]) rfl ⟨_, _, _, _, _, rfl, ((HS.out.setLow (Nat.lt_succ_self _)).setLow (Nat.lt_succ_self _)).lower (Nat.le_succ _), HOK.out, h1, h6, (HB2.out.setCell (p := ⟨w.heap.size, 0, none⟩) (Nat.le_refl _) _).setCell (p := ⟨w.heap.size, 1, none⟩) (Nat.le_refl _) _⟩

set_option maxRecDepth 100000 in
theorem drawCountDepth_any (A : Option Addr) (n c : Nat) (w : World) (hr : RByte w A n) (hc : n ≤ c) (hn : n ≤ 1048576) : Calls Try.prog 41 #[.slice A n c] w (FlowD w) := by
  have HR := Lib.hid (hr.alloc (.cells #[.int .i64 0, .slice none 0 0] 57)); clear hr
  go_enter Try.func41, Try.ntmps41
  go_wp2_with fail
  refine (open_any _ _ _ _ HR.out hc hn).mono ?_
  rintro e w1 ⟨rfl, hrd, hb1⟩
  have hsz : (w.alloc (.cells #[.int .i64 0, .slice none 0 0] 57)).heap.size = w.heap.size + 1 := by simp
  rw [hsz] at hrd hb1 ⊢
  have hd0 : Dr 86 w1 (w.heap.size + 1) 0 w1 := ⟨On.refl _ _, 0, Nat.le_refl _, hrd⟩
  have hl1 := hrd.lt
  have HRES := Lib.hid ((hb1.block w.heap.size (Nat.lt_succ_self _)).trans (heap_new (o := .cells #[.int .i64 0, .slice none 0 0] 57) rfl))
  have HB1 := Lib.hid (((Below.refl w.heap.size w).alloc (Nat.le_refl _) (.cells #[.int .i64 0, .slice none 0 0] 57)).trans (hb1.mono (Nat.le_succ _)))
  clear hrd hb1 hsz
  go_wp2_with fail
  refine (l91Flow_any w1 _ _ _ hd0 (by omega)).mono ?_
  rintro e w2 ⟨v, A2, n2, c2, ss, rfl, hs, hok, h1, h6, hd, hon⟩
  have HS := Lib.hid (hs.lower (show w.heap.size + 1 ≤ w1.heap.size by omega)); clear hs
  have HR2 := Lib.hid (hon.blk HRES.out (by omega))
  have HB2 := Lib.hid (HB1.out.trans ((hon.low (Nat.le_of_lt hl1)).mono (Nat.le_succ _)))
  have HOK := Lib.hid hok; clear hok
  clear hon hd hd0
  have r0a := (blk_cl (k := 0) HR2.out rfl).1
  have r0b := (blk_cl (k := 0) HR2.out rfl).2
  have r1a := (blk_cl (k := 1) HR2.out rfl).1
  have r1b := (blk_cl (k := 1) HR2.out rfl).2
  go_wp2_with fail
  have hres := set21 (u := .slice A2 n2 c2) (set20 (u := .int .i64 v) HR2.out)
  have e0 := (blk_cl (k := 0) hres rfl).1
  have e1 := (blk_cl (k := 1) hres rfl).1
  exact bodyPost_ret (v := .agg #[.int .i64 v, .slice A2 n2 c2]) (by simp [results, Try.results41, go_sem, e0, e1]) rfl ⟨_, _, _, _, _, rfl, ((HS.out.setLow (Nat.lt_succ_self _)).setLow (Nat.lt_succ_self _)).lower (Nat.le_succ _), HOK.out, h1, h6, (HB2.out.setCell (p := ⟨w.heap.size, 0, none⟩) (Nat.le_refl _) _).setCell (p := ⟨w.heap.size, 1, none⟩) (Nat.le_refl _) _⟩

set_option maxRecDepth 100000 in
theorem drawCountWide_any (A : Option Addr) (n c : Nat) (w : World) (hr : RByte w A n) (hc : n ≤ c) (hn : n ≤ 1048576) : Calls Try.prog 45 #[.slice A n c] w (FlowD w) := by
  have HR := Lib.hid (hr.alloc (.cells #[.int .i64 0, .slice none 0 0] 57)); clear hr
  go_enter Try.func45, Try.ntmps45
  go_wp2_with fail
  refine (open_any _ _ _ _ HR.out hc hn).mono ?_
  rintro e w1 ⟨rfl, hrd, hb1⟩
  have hsz : (w.alloc (.cells #[.int .i64 0, .slice none 0 0] 57)).heap.size = w.heap.size + 1 := by simp
  rw [hsz] at hrd hb1 ⊢
  have hd0 : Dr 86 w1 (w.heap.size + 1) 0 w1 := ⟨On.refl _ _, 0, Nat.le_refl _, hrd⟩
  have hl1 := hrd.lt
  have HRES := Lib.hid ((hb1.block w.heap.size (Nat.lt_succ_self _)).trans (heap_new (o := .cells #[.int .i64 0, .slice none 0 0] 57) rfl))
  have HB1 := Lib.hid (((Below.refl w.heap.size w).alloc (Nat.le_refl _) (.cells #[.int .i64 0, .slice none 0 0] 57)).trans (hb1.mono (Nat.le_succ _)))
  clear hrd hb1 hsz
  go_wp2_with fail
  refine (l91Flow_any w1 _ _ _ hd0 (by omega)).mono ?_
  rintro e w2 ⟨v, A2, n2, c2, ss, rfl, hs, hok, h1, h6, hd, hon⟩
  have HS := Lib.hid (hs.lower (show w.heap.size + 1 ≤ w1.heap.size by omega)); clear hs
  have HR2 := Lib.hid (hon.blk HRES.out (by omega))
  have HB2 := Lib.hid (HB1.out.trans ((hon.low (Nat.le_of_lt hl1)).mono (Nat.le_succ _)))
  have HOK := Lib.hid hok; clear hok
  clear hon hd hd0
  have r0a := (blk_cl (k := 0) HR2.out rfl).1
  have r0b := (blk_cl (k := 0) HR2.out rfl).2
  have r1a := (blk_cl (k := 1) HR2.out rfl).1
  have r1b := (blk_cl (k := 1) HR2.out rfl).2
  go_wp2_with fail
  have hres := set21 (u := .slice A2 n2 c2) (set20 (u := .int .i64 v) HR2.out)
  have e0 := (blk_cl (k := 0) hres rfl).1
  have e1 := (blk_cl (k := 1) hres rfl).1
  exact bodyPost_ret (v := .agg #[.int .i64 v, .slice A2 n2 c2]) (by simp [results, Try.results45, go_sem, e0, e1]) rfl ⟨_, _, _, _, _, rfl, ((HS.out.setLow (Nat.lt_succ_self _)).setLow (Nat.lt_succ_self _)).lower (Nat.le_succ _), HOK.out, h1, h6, (HB2.out.setCell (p := ⟨w.heap.size, 0, none⟩) (Nat.le_refl _) _).setCell (p := ⟨w.heap.size, 1, none⟩) (Nat.le_refl _) _⟩
end Go.Proofs.Ytnlibaoegfdoeaa
