/- FnStepMark: the walk. -/
import Derived.Test.YtnlibaoegfdoeaaT2
import Derived.Test.YtnlibaoegfdoeaaG4
namespace Go.Proofs.Ytnlibaoegfdoeaa
open Go.RowKit

theorem ext_app (a z : Str) : (a ++ z : Str).extract 0 a.size = a := by
  have := ByteArray.extract_append_eq_left (a := a) (b := z) (i := a.size) rfl
  exact this

set_option maxRecDepth 100000 in
set_option maxHeartbeats 1000000 in
theorem fnStepMark_any (A : Option Addr) (n c : Nat) (w : World) (hr : RByte w A n) (hc : n ≤ c) :
    Calls Try.prog 6 #[.slice A n c] w fun e w' => e = .returned (.bool true) ∧ Below w.heap.size w w' := by
  have HR := Lib.hid hr; clear hr
  by_cases hn : 1048576 < n
  · go_enter Try.func6, Try.ntmps6
    go_wp2_with fail
    go_ret
    exact ⟨rfl, Below.refl _ _⟩
  go_enter Try.func6, Try.ntmps6
  go_wp2_with fail
  refine (drawStepText_any _ _ _ _ HR.out hc (by omega)).mono ?_
  rintro e w1 ⟨s, A1, n1, c1, rfl, hs, hok, h6, hnc, hb1⟩
  have HS := Lib.hid (hs.alloc (.cells #[.string s.name, .slice A1 n1 c1, .bool s.undo] 47)); clear hs
  have HOK := Lib.hid hok; clear hok
  have HB1 := Lib.hid (hb1.alloc hb1.size (.cells #[.string s.name, .slice A1 n1 c1, .bool s.undo] 47)); clear hb1
  have HX := Lib.hid (heap_new (w := w1) (o := .cells #[.string s.name, .slice A1 n1 c1, .bool s.undo] 47) rfl)
  go_wp2_with fail
  refine (stepTextI_any _ _ _ s _ _ HS.out HOK.out hnc).mono ?_
  rintro e w2 ⟨rfl, hb2⟩
  have HX2 := Lib.hid ((hb2.block w1.heap.size (by simp)).trans HX.out)
  have HB2 := Lib.hid (HB1.out.trans (hb2.mono HB1.out.size))
  have HS2 := Lib.hid (HS.out.below hb2)
  clear hb2 HS
  have a0 := (blk_cl (k := 0) HX2.out rfl).1
  have a1 := (blk_cl (k := 1) HX2.out rfl).1
  have a2 := (blk_cl (k := 2) HX2.out rfl).1
  go_wp2_with fail
  refine (stepTextS_any _ _ _ s _ _ HS2.out HOK.out).mono ?_
  rintro e w3 ⟨rfl, hb3⟩
  have HX3 := Lib.hid ((hb3.block w1.heap.size (heap_lt HX2.out)).trans HX2.out)
  have HB3 := Lib.hid (HB2.out.trans (hb3.mono HB2.out.size))
  clear hb3 HS2 a0 a1 a2 HX2 HX
  cases h : stepB s
  · have hy : textS s = ⟨#[]⟩ := by unfold textS; rw [if_neg (by rw [h]; simp)]
    rw [hy]
    clear hy h
    go_wp2_with fail
    go_ret
    exact ⟨rfl, HB3.out⟩
  · have hy : textS s = stepS s := by unfold textS; rw [if_pos h]
    obtain ⟨k, b, hm⟩ := mark_ex h
    rw [hy]
    clear hy h
    generalize stepS s = y at *
    obtain ⟨⟨hk, hlast⟩, hmark, ⟨z, hz⟩, hsm⟩ := hm
    have hk1 : k < y.size := by omega
    have hb := hlast hk1
    have q0 : (y.toList != y.toList) = false := by simp
    have q1 : (y.toList == ([] : List UInt8)) = false := by
      rw [beq_eq_false_iff_ne]
      intro e
      have e2 : y.toList.length = y.size := by rw [ByteArray.toList_eq]; rfl
      rw [e] at e2
      simp at e2
      omega
    have hpre : y.extract 0 s.name.size = s.name := by rw [hz]; exact ext_app _ _
    have hns : s.name.size ≤ y.size := by rw [hz, bsz_app]; omega
    have X0 := (blk_cl (k := 0) HX3.out rfl).1
    have X2 := (blk_cl (k := 2) HX3.out rfl).1
    rw [show (#[Value.string s.name, Value.slice A1 n1 c1, Value.bool s.undo] : Array Value)[2] = .bool s.undo from rfl] at X2
    rw [show (#[Value.string s.name, Value.slice A1 n1 c1, Value.bool s.undo] : Array Value)[0] = .string s.name from rfl] at X0
    clear HX3 hlast
    have HZ := Lib.hid hz; clear hz
    have hqn : (s.name.toList == s.name.toList) = true := by simp
    cases hu : s.undo
    · have hbt : ((b.toNat : Int) == 33) = true := by rw [hmark.2 hu]; rfl
      rw [hu] at X2
      clear hmark
      go_wp2_with fail
      go_quiet (fail)
      go_wp2_with fail
      go_ret
      exact ⟨rfl, below_drewN HB3.out _⟩
    · have hbt : ((b.toNat : Int) == 33) = false := by
        rw [beq_eq_false_iff_ne]
        intro e
        have e2 : b.toNat = 33 := by omega
        have e3 : b = 33 := UInt8.toNat_inj.1 e2
        rw [hmark.1 e3] at hu
        exact absurd hu (by decide)
      rw [hu] at X2
      clear hmark
      go_wp2_with fail
      go_quiet (fail)
      go_wp2_with fail
      go_ret
      exact ⟨rfl, below_drewN HB3.out _⟩
end Go.Proofs.Ytnlibaoegfdoeaa
