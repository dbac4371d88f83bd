/- Pools: turning and comparing runs, cases. -/
import Derived.Test.YtfcbpgpmafmkhaaC3
namespace Go.Proofs.Ytfcbpgpmafmkhaa
open Go.RowKit

set_option maxRecDepth 100000 in
theorem toRun_any (A : Option Addr) (n c : Nat) (st : Int) (xs : List Str) (lo : Nat) (w : World) (hr : RStr w lo A n xs) (hn : n ≤ 1048576) :
    Calls Try.prog 104 #[.agg #[.int .i64 st, .slice A n c]] w fun e w' => ∃ A' c', e = .returned (.agg #[.int .i64 st, .slice A' n c']) ∧ RStr w' w.heap.size A' n xs ∧ Below w.heap.size w w' ∧ n ≤ c' := by
  have HR := Lib.hid hr; clear hr
  go_enter Try.func104, Try.ntmps104
  go_wp2_with fail
  refine (toStringSc_any _ _ _ xs _ _ (((HR.out.alloc _).alloc _).alloc _) hn).mono ?_
  rintro e w1 ⟨A2, c2, rfl, hr2, hb, hle⟩
  have hsz : (((w.alloc (.cells #[.int .i64 st, .slice A n c] 86)).alloc (.cells #[.int .i64 0, .slice none 0 0] 44)).alloc (.cells #[.int .i64 st, .slice none 0 0] 44)).heap.size = w.heap.size + 1 + 1 + 1 := by simp
  rw [hsz] at hr2 hb
  have H1 := Lib.hid ((hb.block (w.heap.size + 1) (by omega)).trans (heap_old (o := .cells #[.int .i64 st, .slice none 0 0] 44) (heap_new (b := w.heap.size + 1) (o := .cells #[.int .i64 0, .slice none 0 0] 44) (by simp))))
  have H2 := Lib.hid ((hb.block (w.heap.size + 1 + 1) (by omega)).trans (heap_new (b := w.heap.size + 1 + 1) (o := .cells #[.int .i64 st, .slice none 0 0] 44) (by simp)))
  have HB := Lib.hid (((((Below.refl w.heap.size w).alloc (Nat.le_refl _) (.cells #[.int .i64 st, .slice A n c] 86)).alloc (by simp) (.cells #[.int .i64 0, .slice none 0 0] 44)).alloc (by simp; omega) (.cells #[.int .i64 st, .slice none 0 0] 44)).trans (hb.mono (by omega)))
  have HR2 := Lib.hid hr2
  clear hr2 hb hsz
  have H3 := Lib.hid (set21 (u := .slice A2 n c2) H2.out)
  have H5 := Lib.hid (set_ne (b := w.heap.size + 1 + 1) (o := 1) (u := .slice A2 n c2) H1.out (by omega))
  have c1 := (blk_cl (k := 1) H2.out rfl).1
  have d1 := (blk_cl (k := 1) H2.out rfl).2
  have e0 := (blk_cl (k := 0) H3.out rfl).1
  have e1 := (blk_cl (k := 1) H3.out rfl).1
  have g0 := (blk_cl (k := 0) H5.out rfl).1
  have g0' := (blk_cl (k := 0) H5.out rfl).2
  have g1 := (blk_cl (k := 1) H5.out rfl).1
  have g1' := (blk_cl (k := 1) H5.out rfl).2
  go_wp2_with fail
  have hres := set21 (u := .slice A2 n c2) (set20 (u := .int .i64 st) H5.out)
  have p0 := (blk_cl (k := 0) hres rfl).1
  have p1 := (blk_cl (k := 1) hres rfl).1
  have l1 : w.heap.size + 1 < w.heap.size + 1 + 1 + 1 := by omega
  have l2 : w.heap.size + 1 + 1 < w.heap.size + 1 + 1 + 1 := by omega
  have q1 : w.heap.size ≤ w.heap.size + 1 := by omega
  have q2 : w.heap.size ≤ w.heap.size + 1 + 1 := by omega
  exact bodyPost_ret (v := .agg #[.int .i64 st, .slice A2 n c2]) (by simp [results, Try.results104, go_sem, p0, p1]) rfl
    ⟨_, _, rfl, (((HR2.out.setLow l2).setLow l1).setLow l1).lower (by omega),
      ((HB.out.setCell (p := ⟨w.heap.size + 1 + 1, 1, none⟩) q2 _).setCell (p := ⟨w.heap.size + 1, 0, none⟩) q1 _).setCell (p := ⟨w.heap.size + 1, 1, none⟩) q1 _, hle⟩

set_option maxRecDepth 100000 in
theorem eqRun_same (A B : Option Addr) (n c d : Nat) (st : Int) (xs : List Str) (lo lo' : Nat) (w : World) (hr : RStr w lo A n xs) (hn : n ≤ 1048576) (hr' : RStr w lo' B n xs) :
    Calls Try.prog 105 #[.agg #[.int .i64 st, .slice A n c], .agg #[.int .i64 st, .slice B n d]] w fun e w' => e = .returned (.bool true) ∧ Below w.heap.size w w' := by
  have HX := Lib.hid hr; clear hr
  have HY := Lib.hid hr'; clear hr'
  go_enter Try.func105, Try.ntmps105
  go_wp2_with fail
  refine (eqStringS_same _ _ _ _ _ _ xs _ _ _ ((HX.out.alloc _).alloc _) hn ((HY.out.alloc _).alloc _)).mono ?_
  rintro e w1 ⟨rfl, q, rfl⟩
  go_wp2_with fail
  go_ret
  exact ⟨rfl, below_drewN (((Below.refl _ _).alloc (Nat.le_refl _) _).alloc (by simp) _) _⟩

set_option maxRecDepth 100000 in
theorem eqCase_same (A B : Option Addr) (n c d : Nat) (s : Case) (lo lo' : Nat) (w : World) (hr : RStr w lo A n s.done) (hn : n ≤ 1048576) (hr' : RStr w lo' B n s.done) :
    Calls Try.prog 74 #[.agg #[.string s.name, .int .i64 s.st, .slice A n c], .agg #[.string s.name, .int .i64 s.st, .slice B n d]] w fun e w' => e = .returned (.bool true) ∧ Below w.heap.size w w' := by
  have HX := Lib.hid hr; clear hr
  have HY := Lib.hid hr'; clear hr'
  have hq := seq_t (rfl : s.name = s.name)
  go_enter Try.func74, Try.ntmps74
  go_wp2_with fail
  refine (eqRun_same _ _ _ _ _ s.st s.done _ _ _ ((HX.out.alloc _).alloc _) hn ((HY.out.alloc _).alloc _)).mono ?_
  rintro e w1 ⟨rfl, hb⟩
  go_wp2_with fail
  go_ret
  exact ⟨rfl, (((Below.refl _ _).alloc (Nat.le_refl _) _).alloc (by simp) _).trans (hb.mono (by simp; omega))⟩
end Go.Proofs.Ytfcbpgpmafmkhaa
