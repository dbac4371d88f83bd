/- FnPoolStartOnce returns true at every input, and leaves its arguments as they were. No condition. -/
import Derived.Test.YtakeijgoonagcaaZK
import Derived.Test.YtakeijgoonagcaaZF
import Derived.Test.YtakeijgoonagcaaZC

/- FnPoolStartOnce: the walk. -/
namespace Go.Proofs.Ytakeijgoonagcaa
open Go.RowKit

theorem ins_at {cs : List Case} {nm : Str} (hh : hasB (caseNames cs) nm = false) : hasB (caseNames (insL cs nm)) nm = true := by
  rw [hasB_true]
  exact List.mem_map.2 ⟨newC nm, (ins_mem (ne_names hh)).2 (.inl rfl), rfl⟩
set_option maxRecDepth 100000 in
set_option maxHeartbeats 4000000 in
theorem fnPoolStartOnce_any (A : Option Addr) (n c : Nat) (w : World) (hr : RByte w A n) (hc : n ≤ c) :
    Calls Try.prog 8 #[.slice A n c] w fun e w' => e = .returned (.bool true) ∧ Below w.heap.size w w' := by
  have HR := Lib.hid hr; clear hr
  by_cases hn : 1048576 < n
  · go_enter Try.func8, Try.ntmps8
    go_wp2_with fail
    go_ret
    exact ⟨rfl, Below.refl _ _⟩
  go_enter Try.func8, Try.ntmps8
  go_wp2_with fail
  refine (drawPoolStart_any _ _ _ _ HR.out hc (by omega)).mono ?_
  rintro e w1 ⟨f, A1, n1, c1, B1, m1, d1, cs, nm, rfl, hs, hok, h1, h6, hcs, hokc, hmd, hm9, hnm6, hb1⟩
  have HOK := Lib.hid hok; clear hok
  have HOC := Lib.hid hokc; clear hokc
  have HL := Lib.hid hcs.1
  have HNM := Lib.hid (show nm.size ≤ maxLen by unfold maxLen; omega)
  have HS1 := Lib.hid (hs.alloc (.cells #[.int .i64 f.ver, .slice A1 n1 c1] 34)); clear hs
  have HC1 := Lib.hid (hcs.alloc (.cells #[.int .i64 f.ver, .slice A1 n1 c1] 34)); clear hcs
  have HB1 := Lib.hid (hb1.alloc hb1.size (.cells #[.int .i64 f.ver, .slice A1 n1 c1] 34)); clear hb1
  have HX1 := Lib.hid (heap_new (w := w1) (o := .cells #[.int .i64 f.ver, .slice A1 n1 c1] 34) rfl)
  go_wp2_with fail
  refine (psI_any _ _ _ _ _ _ f cs nm _ _ _ HS1.out HOK.out HC1.out HOC.out HNM.out).mono ?_
  rintro e w2 ⟨B2, m2, d2, rfl, h2, hmd2, hb2⟩
  have HX2 := Lib.hid ((hb2.block _ (heap_lt HX1.out)).trans HX1.out)
  have HB2 := Lib.hid (HB1.out.trans (hb2.mono HB1.out.size))
  have HS2 := Lib.hid (HS1.out.below hb2)
  have HC2 := Lib.hid (HC1.out.below hb2)
  have H2 := Lib.hid h2.hat; clear h2 hb2
  have x0 := (blk_cl (k := 0) HX2.out rfl).1
  have x1 := (blk_cl (k := 1) HX2.out rfl).1
  go_wp2_with fail
  refine (psS_any _ _ _ _ _ _ f cs nm _ _ _ HS2.out HOK.out HC2.out HOC.out HNM.out).mono ?_
  rintro e w3 ⟨B3, m3, d3, rfl, h3, hmd3, hb3⟩
  obtain rfl : m3 = m2 := by rw [← h3.1, ← H2.out.1]
  have HX3 := Lib.hid ((hb3.block _ (heap_lt HX2.out)).trans HX2.out)
  have HB3 := Lib.hid (HB2.out.trans (hb3.mono HB2.out.size))
  have HS3 := Lib.hid (HS2.out.below hb3)
  have HC3 := Lib.hid (HC2.out.below hb3)
  have H23 := Lib.hid (H2.out.below hb3)
  have H3 := Lib.hid h3; clear h3 hb3 x0 x1 HX1 HX2 HS1 HS2 HC1 HC2 H2
  have HOKP := Lib.hid (okCases_ps (f := f) (nm := nm) HOC.out HNM.out)
  have HP := Lib.hid (fun (w' : World) (h : Below w3.heap.size w3 w') => samePool_same B2 B3 m3 d2 d3 (psL f cs nm) _ _ w' (H23.out.below h) HOKP.out (H3.out.below h))
  have hzz : (psB f cs nm != psB f cs nm) = false := by simp
  have hze : (psB f cs nm == psB f cs nm) = true := by simp
  cases hp : psB f cs nm
  · clear hp
    go_wp2_with fail
    refine (HP.out w3 (Below.refl _ _)).mono ?_
    rintro e w4 ⟨rfl, hb4⟩
    go_wp2_with fail
    refine (HP.out w4 hb4).mono ?_
    rintro e w5 ⟨rfl, hb5⟩
    go_wp2_with fail
    go_ret
    exact ⟨rfl, (HB3.out.trans (hb4.mono HB3.out.size)).trans (hb5.mono (Nat.le_trans HB3.out.size hb4.size))⟩
  have HPE := Lib.hid hp
  have HE := Lib.hid (psL_yes hp)
  clear hp
  go_wp2_with fail
  refine (HP.out w3 (Below.refl _ _)).mono ?_
  rintro e w4 ⟨rfl, hb4⟩
  have HX4 := Lib.hid ((hb4.block _ (heap_lt HX3.out)).trans HX3.out)
  have HB4 := Lib.hid (HB3.out.trans (hb4.mono HB3.out.size))
  have HS4 := Lib.hid (HS3.out.below hb4)
  have HC4 := Lib.hid (HC3.out.below hb4)
  have H24 := Lib.hid (H23.out.below hb4)
  clear hb4 hzz hze HP HX3 HB3 HS3 HC3 H23 H3
  rw [HE.out] at H24 HOKP
  have HPO := Lib.hid (ps_pool HPE.out)
  rw [HE.out] at HPO
  obtain ⟨hpb, hhn, hnmb, hl7⟩ := ps_parts HPE.out
  have HPB := Lib.hid hpb; clear hpb
  have HHN := Lib.hid hhn; clear hhn
  clear hnmb
  have hpb2 : psB f (insL cs nm) nm = false := by unfold psB; rw [ins_at HHN.out]; simp
  have HP2 := Lib.hid hpb2; clear hpb2
  have hq : ((m3 : Int) == (m1 : Int) + 1) = true := by
    have h1 := H24.out.1
    have h2 := ins_len (ne_names HHN.out)
    rw [HL.out] at h2
    rw [beq_iff_eq]
    omega
  have x0 := (blk_cl (k := 0) HX4.out rfl).1
  have x1 := (blk_cl (k := 1) HX4.out rfl).1
  go_wp2_with fail
  refine (psI_any _ _ _ _ _ _ f (insL cs nm) nm _ _ _ HS4.out HOK.out H24.out HOKP.out HNM.out).mono ?_
  rintro e w5 ⟨B5, m5, d5, rfl, _, _, hb5⟩
  rw [HP2.out]
  go_wp2_with fail
  go_ret
  exact ⟨rfl, HB4.out.trans (hb5.mono HB4.out.size)⟩
end Go.Proofs.Ytakeijgoonagcaa

/- FnPoolStartOnce returns true at every input, and leaves its arguments as they were. No condition. -/
namespace Go.Proofs.Ytakeijgoonagcaa
open Go.ChangeShapes Go.WideShapes Go.ChangeAt Go.RowKit

set_option maxRecDepth 100000 in
theorem fnPoolStartOnce_lifted (os : Os) (started : os.Started) (H : Type) (enc : TypeId × Value → H) :
    ReturnsInHanded {} Try.checked os 8 .any (Rows.fnPoolStartOnceSpec.pre6 enc Try.prog Try.f8 Rows.fnPoolStartOnceRow.domain false) (Rows.fnPoolStartOnceSpec.post enc Try.prog Try.f8 false true false false) := by
  refine returnsInHanded_of_change (C := Try.checked) Try.own started (by kernel_rfl) Try.func8
    (ChangeSpec.witness6 (enc := enc) (C := Try.checked) false ⟨#[], #[.slice none 0 0], []⟩ 8 (by kernel_rfl) (by kernel_rfl) (by kernel_rfl) (by kernel_rfl)) ?_
  intro W base args ds gs before hval0 hW hcnd _
  have hval : ∀ (j : Nat) t v, Try.f8.params[j]? = some t → args[j]? = some v → Value.okWide Try.prog W .any base t v := hval0
  have hW' := hW
  obtain ⟨p, q, hA0, hV, rfl, hfz, hnd⟩ := hW
  have hA : DataW.TrodAll enc Try.prog W 0 (fun _ => true) true Try.f8.params.toList args.toList ds p := hA0
  rw [Try.params8] at hA hval
  obtain ⟨v0, d0, rfl, rfl, h0⟩ := trodAll_one hA
  obtain ⟨rfl, rfl⟩ := trodVars_none hV
  have h0k := h0
  obtain ⟨a0, len, cap, rfl⟩ := okWide_slice Try.underlying44 (hval 0 44 v0 rfl rfl)
  obtain ⟨fuel, hf⟩ := h0
  clear hA0 hval0 hA
  simp only [List.append_nil] at hW' hfz
  have hlt : ∀ x ∈ p, x.block < W.heap.size := fun x hx => by simpa using hW'.lt x hx
  obtain ⟨hr, hc, _⟩ := open_code hf
  refine (fnPoolStartOnce_any a0 len cap W hr hc).mono fun e W' ⟨he, hb⟩ => ?_
  subst he
  exact ⟨_, rfl, post_law hW' rfl (by kernel_rfl) Try.underlying4 rfl rfl rfl (trodAll_mk1 (Below.trod Try.laidOut (by kernel_rfl) (of_decide_eq_true (by kernel_rfl)) h0k hb hlt)) hb⟩

theorem fnPoolStartOnce_holds : Rows.FnPoolStartOnceSaid :=
  OpenClaim.holds_of_wide 8 Try.f8 rfl rfl rfl rfl rfl rfl rfl ⟨rfl, rfl, rfl, rfl, rfl⟩ rfl rfl rfl rfl rfl (by kernel_rfl) Try.func8 (by kernel_rfl)
    (of_decide_eq_true (by kernel_rfl)) (by unfold Func.isWrapper; rw [if_neg (by decide +kernel)]; exact ⟨rfl, rfl⟩)
    (fun os started H enc _ => fnPoolStartOnce_lifted os started H enc)
end Go.Proofs.Ytakeijgoonagcaa
