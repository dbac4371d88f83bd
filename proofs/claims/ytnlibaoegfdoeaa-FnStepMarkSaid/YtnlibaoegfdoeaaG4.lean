/- Drawing a step out of a code. -/
import Derived.Test.YtnlibaoegfdoeaaG3
namespace Go.Proofs.Ytnlibaoegfdoeaa
open Go.RowKit

def StepD (w : World) (e : Ending) (w' : World) : Prop :=
  ∃ (s : Step) (A : Option Addr) (n c : Nat), e = .returned (.agg #[.string s.name, .slice A n c, .bool s.undo]) ∧ RStr w' w.heap.size A n s.after ∧ okStep s ∧ n ≤ 6 ∧ n ≤ c ∧ Below w.heap.size w w'

set_option maxRecDepth 100000 in
theorem drawStepText_any (A : Option Addr) (n c : Nat) (w : World) (hr : RByte w A n) (hc : n ≤ c) (hn : n ≤ 1048576) : Calls Try.prog 32 #[.slice A n c] w (StepD w) := by
  have HR := Lib.hid (hr.alloc (.cells #[.string ⟨#[]⟩, .slice none 0 0, .bool false] 47)); clear hr
  go_enter Try.func32, Try.ntmps32
  go_wp2_with fail
  refine (open_any _ _ _ _ HR.out hc hn).mono ?_
  rintro e w1 ⟨rfl, hrd, hb1⟩
  have hsz : (w.alloc (.cells #[.string ⟨#[]⟩, .slice none 0 0, .bool false] 47)).heap.size = w.heap.size + 1 := by simp
  rw [hsz] at hrd hb1 ⊢
  have hd0 : Dr 86 w1 (w.heap.size + 1) 0 w1 := ⟨On.refl _ _, 0, Nat.le_refl _, hrd⟩
  have hl1 := hrd.lt
  have HRES := Lib.hid ((hb1.block w.heap.size (Nat.lt_succ_self _)).trans (heap_new (o := .cells #[.string ⟨#[]⟩, .slice none 0 0, .bool false] 47) rfl))
  have HB1 := Lib.hid (((Below.refl w.heap.size w).alloc (Nat.le_refl _) (.cells #[.string ⟨#[]⟩, .slice none 0 0, .bool false] 47)).trans (hb1.mono (Nat.le_succ _)))
  clear hrd hb1 hsz
  go_wp2_with fail
  refine (l91Step_any w1 _ _ _ hd0 (by omega)).mono ?_
  rintro e w2 ⟨s, A2, n2, c2, rfl, hs, hok, h6, hnc, hd, hon⟩
  have HS := Lib.hid (hs.lower (show w.heap.size + 1 ≤ w1.heap.size by omega)); clear hs
  have HR2 := Lib.hid (hon.blk HRES.out (by omega))
  have HB2 := Lib.hid (HB1.out.trans ((hon.low (Nat.le_of_lt hl1)).mono (Nat.le_succ _)))
  have HOK := Lib.hid hok; clear hok
  clear hon hd hd0
  have r0a := (blk_cl (k := 0) HR2.out rfl).1
  have r0b := (blk_cl (k := 0) HR2.out rfl).2
  have r1a := (blk_cl (k := 1) HR2.out rfl).1
  have r1b := (blk_cl (k := 1) HR2.out rfl).2
  have r2a := (blk_cl (k := 2) HR2.out rfl).1
  have r2b := (blk_cl (k := 2) HR2.out rfl).2
  go_wp2_with fail
  have hres := set3 (u0 := .string s.name) (u1 := .slice A2 n2 c2) (u2 := .bool s.undo) HR2.out
  have e0 := (blk_cl (k := 0) hres rfl).1
  have e1 := (blk_cl (k := 1) hres rfl).1
  have e2 := (blk_cl (k := 2) hres rfl).1
  exact bodyPost_ret (v := .agg #[.string s.name, .slice A2 n2 c2, .bool s.undo]) (by simp [results, Try.results32, go_sem, e0, e1, e2]) rfl ⟨_, _, _, _, rfl, (((HS.out.setLow (Nat.lt_succ_self _)).setLow (Nat.lt_succ_self _)).setLow (Nat.lt_succ_self _)).lower (Nat.le_succ _), HOK.out, h6, hnc, ((HB2.out.setCell (p := ⟨w.heap.size, 0, none⟩) (Nat.le_refl _) _).setCell (p := ⟨w.heap.size, 1, none⟩) (Nat.le_refl _) _).setCell (p := ⟨w.heap.size, 2, none⟩) (Nat.le_refl _) _⟩
end Go.Proofs.Ytnlibaoegfdoeaa
