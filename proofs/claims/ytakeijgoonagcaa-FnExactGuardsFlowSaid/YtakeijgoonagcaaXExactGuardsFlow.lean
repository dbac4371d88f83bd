/- FnExactGuardsFlow returns true at every input, and leaves its arguments as they were. No condition. -/
import Derived.Carry
import Derived.Test.YtakeijgoonagcaaZP
import Derived.Test.YtakeijgoonagcaaZD

/- FnExactGuardsFlow returns true at every input, and leaves its arguments as they were. No condition. -/
namespace Go.Proofs.Ytakeijgoonagcaa
open Go.ChangeShapes Go.WideShapes Go.ChangeAt Go.RowKit

set_option maxRecDepth 100000 in
theorem fnExactGuardsFlow_lifted (os : Os) (started : os.Started) (H : Type) (enc : TypeId × Value → H) :
    ReturnsInHanded {} Try.checked os 13 .any (Rows.fnExactGuardsFlowSpec.pre6 enc Try.prog Try.f13 Rows.fnExactGuardsFlowRow.domain false) (Rows.fnExactGuardsFlowSpec.post enc Try.prog Try.f13 false true false false) := by
  refine returnsInHanded_of_change (C := Try.checked) Try.own started (by kernel_rfl) Try.func13
    (ChangeSpec.witness6 (enc := enc) (C := Try.checked) false ⟨#[], #[.agg #[.int .i64 0, .slice none 0 0], .slice none 0 0, .slice none 0 0], []⟩ 8 (by kernel_rfl) (by kernel_rfl) (by kernel_rfl) (by kernel_rfl)) ?_
  intro W base args ds gs before hval0 hW hcnd _
  have hval : ∀ (j : Nat) t v, Try.f13.params[j]? = some t → args[j]? = some v → Value.okWide Try.prog W .any base t v := hval0
  have hW' := hW
  obtain ⟨p, q, hA0, hV, rfl, hfz, hnd⟩ := hW
  have hA : DataW.TrodAll enc Try.prog W 0 (fun _ => true) true Try.f13.params.toList args.toList ds p := hA0
  rw [Try.params13] at hA hval
  obtain ⟨v0, v1, v2, d0, d1, d2, p0, p1, p2, rfl, rfl, rfl, h0, h1, h2⟩ := trodAll_three hA
  obtain ⟨rfl, rfl⟩ := trodVars_none hV
  have h0k := h0
  have h1k := h1
  have h2k := h2
  obtain ⟨a1, len1, cap1, rfl⟩ := okWide_slice Try.underlying80 (hval 1 80 v1 rfl rfl)
  obtain ⟨a2, len2, cap2, rfl⟩ := okWide_slice Try.underlying60 (hval 2 60 v2 rfl rfl)
  obtain ⟨fuel, hf⟩ := h0
  obtain ⟨fuel1, hf1⟩ := h1
  obtain ⟨fuel2, hf2⟩ := h2
  simp only [List.append_nil] at hW' hfz
  have hlt : ∀ x ∈ p0 ++ p1 ++ p2, x.block < W.heap.size := fun x hx => hW'.lt x hx
  obtain ⟨ver, A, n, c, ss, rfl, hr, hn, hs⟩ := open_flow (hval 0 24 v0 rfl rfl) hf (fun b off hb => hfz b off (List.mem_append_left _ (List.mem_append_left _ hb)))
  obtain ⟨gl, hg, hgn, hgs⟩ := open_guardS hf1 (fun b off hb => hfz b off (List.mem_append_left _ (List.mem_append_right _ hb)))
  obtain ⟨vl, hv, hvn⟩ := open_intS hf2 (fun b off hb => hfz b off (List.mem_append_right _ hb))
  clear hA0 hval0 hA
  refine (fnExactGuardsFlow_any A a1 a2 n c len1 cap1 len2 cap2 ⟨ver, ss⟩ gl vl W hr hn hs hg hgn hgs hv hvn).mono fun e W' ⟨he, hb⟩ => ?_
  subst he
  have k0 := Below.trod Try.laidOut (by kernel_rfl) (of_decide_eq_true (by kernel_rfl)) h0k hb (fun x hx => hlt x (List.mem_append_left _ (List.mem_append_left _ hx)))
  have k1 := Below.trod Try.laidOut (by kernel_rfl) (of_decide_eq_true (by kernel_rfl)) h1k hb (fun x hx => hlt x (List.mem_append_left _ (List.mem_append_right _ hx)))
  have k2 := Below.trod Try.laidOut (by kernel_rfl) (of_decide_eq_true (by kernel_rfl)) h2k hb (fun x hx => hlt x (List.mem_append_right _ hx))
  have hall := trodAll_mk3 k0 k1 k2
  rw [← List.append_assoc] at hall
  exact ⟨_, rfl, post_law hW' rfl (by kernel_rfl) Try.underlying4 rfl rfl rfl hall hb⟩

theorem fnExactGuardsFlow_holds : Rows.FnExactGuardsFlowSaid :=
  OpenClaim.holds_of_wide 13 Try.f13 rfl rfl rfl rfl rfl rfl rfl ⟨rfl, rfl, rfl, rfl, rfl⟩ rfl rfl rfl rfl rfl (by kernel_rfl) Try.func13 (by kernel_rfl)
    (of_decide_eq_true (by kernel_rfl)) (by unfold Func.isWrapper; rw [if_neg (by decide +kernel)]; exact ⟨rfl, rfl⟩)
    (fun os started H enc _ => fnExactGuardsFlow_lifted os started H enc)
end Go.Proofs.Ytakeijgoonagcaa
