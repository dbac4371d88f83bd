/- Pools: turning a case. -/
import Derived.Test.YtfcbpgpmafmkhaaC4
namespace Go.Proofs.Ytfcbpgpmafmkhaa
open Go.RowKit

set_option maxRecDepth 100000 in
theorem toCase_any (A : Option Addr) (n c : Nat) (s : Case) (lo : Nat) (w : World) (hr : RStr w lo A n s.done) (hn : n ≤ 1048576) :
    Calls Try.prog 73 #[.agg #[.string s.name, .int .i64 s.st, .slice A n c]] w fun e w' => ∃ A' c', e = .returned (.agg #[.string s.name, .int .i64 s.st, .slice A' n c']) ∧ RStr w' w.heap.size A' n s.done ∧ Below w.heap.size w w' ∧ n ≤ c' := by
  have HR := Lib.hid hr; clear hr
  go_enter Try.func73, Try.ntmps73
  go_wp2_with fail
  refine (toRun_any _ _ _ s.st s.done _ _ (((HR.out.alloc _).alloc _).alloc _) hn).mono ?_
  rintro e w1 ⟨A2, c2, rfl, hr2, hb, hle⟩
  have hsz : (((w.alloc (.cells #[.string s.name, .int .i64 s.st, .slice A n c] 88)).alloc (.cells #[.string ⟨#[]⟩, .int .i64 0, .slice none 0 0] 46)).alloc (.cells #[.string s.name, .int .i64 0, .slice none 0 0] 46)).heap.size = w.heap.size + 1 + 1 + 1 := by simp
  rw [hsz] at hr2 hb
  have H1 := Lib.hid ((hb.block (w.heap.size + 1) (by omega)).trans (heap_old (o := .cells #[.string s.name, .int .i64 0, .slice none 0 0] 46) (heap_new (b := w.heap.size + 1) (o := .cells #[.string ⟨#[]⟩, .int .i64 0, .slice none 0 0] 46) (by simp))))
  have H2 := Lib.hid ((hb.block (w.heap.size + 1 + 1) (by omega)).trans (heap_new (b := w.heap.size + 1 + 1) (o := .cells #[.string s.name, .int .i64 0, .slice none 0 0] 46) (by simp)))
  have HB := Lib.hid (((((Below.refl w.heap.size w).alloc (Nat.le_refl _) (.cells #[.string s.name, .int .i64 s.st, .slice A n c] 88)).alloc (by simp) (.cells #[.string ⟨#[]⟩, .int .i64 0, .slice none 0 0] 46)).alloc (by simp; omega) (.cells #[.string s.name, .int .i64 0, .slice none 0 0] 46)).trans (hb.mono (by omega)))
  have HR2 := Lib.hid hr2
  clear hr2 hb hsz
  have H3 := Lib.hid (set31 (u := .int .i64 s.st) H2.out)
  have H4 := Lib.hid (show ((w1.setCell ⟨w.heap.size + 1 + 1, 1, none⟩ (.int .i64 s.st)).setCell ⟨w.heap.size + 1 + 1, 2, none⟩ (.slice A2 n c2)).heap[w.heap.size + 1 + 1]? = some (.cells #[.string s.name, .int .i64 s.st, .slice A2 n c2] 46 (0, 0)) from set_at H3.out)
  have H5 := Lib.hid (set_ne (b := w.heap.size + 1 + 1) (o := 2) (u := .slice A2 n c2) (set_ne (b := w.heap.size + 1 + 1) (o := 1) (u := .int .i64 s.st) H1.out (by omega)) (by omega))
  have c1 := (blk_cl (k := 1) H2.out rfl).1
  have d1 := (blk_cl (k := 1) H2.out rfl).2
  have c1' := (blk_cl (k := 2) H2.out rfl).1
  have d1' := (blk_cl (k := 2) H2.out rfl).2
  have c2' := (blk_cl (k := 2) H3.out rfl).1
  have d2' := (blk_cl (k := 2) H3.out rfl).2
  have e0 := (blk_cl (k := 0) H4.out rfl).1
  have e1 := (blk_cl (k := 1) H4.out rfl).1
  have e2 := (blk_cl (k := 2) H4.out rfl).1
  have g0 := (blk_cl (k := 0) H5.out rfl).1
  have g0' := (blk_cl (k := 0) H5.out rfl).2
  have g1 := (blk_cl (k := 1) H5.out rfl).1
  have g1' := (blk_cl (k := 1) H5.out rfl).2
  have g2 := (blk_cl (k := 2) H5.out rfl).1
  have g2' := (blk_cl (k := 2) H5.out rfl).2
  go_wp2_with fail
  have hres := set3 (u0 := .string s.name) (u1 := .int .i64 s.st) (u2 := .slice A2 n c2) H5.out
  have p0 := (blk_cl (k := 0) hres rfl).1
  have p1 := (blk_cl (k := 1) hres rfl).1
  have p2 := (blk_cl (k := 2) hres rfl).1
  have l1 : w.heap.size + 1 < w.heap.size + 1 + 1 + 1 := by omega
  have l2 : w.heap.size + 1 + 1 < w.heap.size + 1 + 1 + 1 := by omega
  have q1 : w.heap.size ≤ w.heap.size + 1 := by omega
  have q2 : w.heap.size ≤ w.heap.size + 1 + 1 := by omega
  exact bodyPost_ret (v := .agg #[.string s.name, .int .i64 s.st, .slice A2 n c2]) (by simp [results, Try.results73, go_sem, p0, p1, p2]) rfl
    ⟨_, _, rfl, (((((HR2.out.setLow l2).setLow l2).setLow l1).setLow l1).setLow l1).lower (by omega),
      ((((HB.out.setCell (p := ⟨w.heap.size + 1 + 1, 1, none⟩) q2 _).setCell (p := ⟨w.heap.size + 1 + 1, 2, none⟩) q2 _).setCell (p := ⟨w.heap.size + 1, 0, none⟩) q1 _).setCell (p := ⟨w.heap.size + 1, 1, none⟩) q1 _).setCell (p := ⟨w.heap.size + 1, 2, none⟩) q1 _, hle⟩
end Go.Proofs.Ytfcbpgpmafmkhaa
