/- FnFlowText's card: it returns true at every input that its row takes, and leaves its arguments as they were. No condition but the row's. -/
import Derived.Test.YthdfefgianokgaaDoorCards
import Derived.Test.YthdfefgianokgaaDoorTie
import Derived.Test.YthdfefgianokgaaDoorZH
import Derived.Test.YthdfefgianokgaaDoorZC

/- FnFlowText: the walk. -/
namespace Go.Proofs.YthdfefgianokgaaDoor
open Go.RowKit

theorem lines_pos (v : Nat) (ss : List Step) : ∀ k, 0 < (linesS v ss k).size
  | 0 => by
    show 0 < (headS v).size
    unfold headS
    rw [bsz_app]; show 0 < _ + 1; omega
  | k + 1 => by
    have := lines_pos v ss k
    show 0 < (linesS v ss k ++ lineS (nth ss k)).size
    rw [bsz_app]; omega
theorem cnt_take {l : Bytes} {k : Nat} {b : UInt8} (hk : k < l.length) : (l.take (k + 1)).count b = (l.take k).count b + (if l[k] = b then 1 else 0) := by
  rw [List.take_add_one, List.count_append, List.getElem?_eq_getElem hk]
  congr 1
  simp [List.count_cons, beq_iff_eq]

set_option maxRecDepth 100000 in
set_option maxHeartbeats 1000000 in
theorem fnFlowText_any (A : Option Addr) (n c : Nat) (w : World) (hr : RByte w A n) (hc : n ≤ c) :
    Calls Tryd.prog 7 #[.slice A n c] w fun e w' => e = .returned (.bool true) ∧ Below w.heap.size w w' := by
  have HR := Lib.hid hr; clear hr
  by_cases hn : 1048576 < n
  · go_enter Tryd.func7, Tryd.ntmps7
    go_wp2_with fail
    go_ret
    exact ⟨rfl, Below.refl _ _⟩
  go_enter Tryd.func7, Tryd.ntmps7
  go_wp2_with fail
  refine (drawFlowText_any _ _ _ _ HR.out hc (by omega)).mono ?_
  rintro e w1 ⟨v, A1, n1, c1, ss, rfl, hs, hok, h1, h6, hb1, hcp⟩
  have HLn := Lib.hid (show ss.length = n1 from hs.1)
  have HS := Lib.hid (hs.alloc (.cells #[.int .i64 v, .slice A1 n1 c1] 38)); clear hs
  have HCP := Lib.hid (hcp.alloc (.cells #[.int .i64 v, .slice A1 n1 c1] 38)); clear hcp
  have HOK := Lib.hid hok; clear hok
  have HB1 := Lib.hid (hb1.alloc hb1.size (.cells #[.int .i64 v, .slice A1 n1 c1] 38)); clear hb1
  have HX := Lib.hid (heap_new (w := w1) (o := .cells #[.int .i64 v, .slice A1 n1 c1] 38) rfl)
  go_wp2_with fail
  refine (flowTextI_any _ _ _ ⟨v, ss⟩ _ _ HS.out HOK.out HCP.out).mono ?_
  rintro e w2 ⟨rfl, hb2⟩
  have HX2 := Lib.hid ((hb2.block w1.heap.size (by simp)).trans HX.out)
  have HB2 := Lib.hid (HB1.out.trans (hb2.mono HB1.out.size))
  have HS2 := Lib.hid (HS.out.below hb2)
  have HC2 := Lib.hid (HCP.out.below hb2)
  clear hb2
  have b1 := (blk_cl (k := 0) HX2.out rfl).1
  have b2 := (blk_cl (k := 1) HX2.out rfl).1
  go_wp2_with fail
  refine (flowTextS_any _ _ _ ⟨v, ss⟩ _ _ HS2.out HOK.out).mono ?_
  rintro e w3 ⟨rfl, hb3⟩
  have HX3 := Lib.hid ((hb3.block w1.heap.size (heap_lt HX2.out)).trans HX2.out)
  have HB3 := Lib.hid (HB2.out.trans (hb3.mono HB2.out.size))
  have HS3 := Lib.hid (HS2.out.below hb3)
  have HC3 := Lib.hid (HC2.out.below hb3)
  clear hb3 b1 b2 HX HS HCP HX2 HS2 HC2
  cases hf : flowB ⟨v, ss⟩
  · have hy : flowTextS ⟨v, ss⟩ = ⟨#[]⟩ := by unfold flowTextS; rw [if_neg (by rw [hf]; simp)]
    rw [hy]
    clear hy hf
    go_wp2_with fail
    go_ret
    exact ⟨rfl, HB3.out⟩
  obtain ⟨u, hu, hu2⟩ := flow_ver hf
  have HST := Lib.hid (flow_step_ok hf)
  have HL1 := Lib.hid (show linesS u ss n1 = linesS u ss (n1 - 1) ++ lineS (nth ss (n1 - 1)) by
    obtain ⟨k, rfl⟩ : ∃ k, n1 = k + 1 := ⟨n1 - 1, by omega⟩
    rfl)
  have HY := Lib.hid (show flowTextS ⟨v, ss⟩ = linesS u ss n1 by unfold flowTextS; rw [if_pos hf]; show linesS v.toNat ss ss.length = _; rw [HLn.out]; have : v = (u : Int) := hu; rw [this]; rfl)
  have HCN := Lib.hid (lines_cnt hu2 n1 (fun j hj => HST.out j (by show j < ss.length; rw [HLn.out]; exact hj)))
  have hsz := lines_size hu2 n1 (fun j hj => HST.out j (by show j < ss.length; rw [HLn.out]; exact hj))
  have hps := lines_pos u ss n1
  have HLAST := Lib.hid (HST.out (n1 - 1) (by show n1 - 1 < ss.length; rw [HLn.out]; omega))
  have hls := stepS_small HLAST.out
  rw [HY.out]
  have HTL := Lib.hid (ext_tail (linesS u ss (n1 - 1)) (lineS (nth ss (n1 - 1))))
  rw [← HL1.out] at HTL
  have hle : (lineS (nth ss (n1 - 1))).size ≤ (linesS u ss n1).size := by rw [HL1.out, bsz_app]; omega
  have hln : (lineS (nth ss (n1 - 1))).size = (stepS (nth ss (n1 - 1))).size + 1 := by unfold lineS; rw [bsz_app]; rfl
  clear hu hu2 hf HL1 HY
  obtain ⟨ln, hlnE⟩ : ∃ ln, ln = lineS (nth ss (n1 - 1)) := ⟨_, rfl⟩
  rw [← hlnE] at HTL hle hln
  have HLNE := Lib.hid hlnE; clear hlnE
  generalize linesS u ss n1 = z at *
  have q0 : (z.toList != z.toList) = false := by simp
  have q1 := ne_empty hps
  have hbz : (bs z).length = z.size := bs_len z
  go_wp2_with fail
  go_loop [6, 7] (fun m i => ∃ k : Nat, k ≤ z.size ∧ i = .int .i64 (k : Int) ∧ m = .int .i64 (((bs z).take k).count 10 : Nat)) (fun _ i => z.size - (intOf i).toNat)
  case atStart => exact ⟨0, Nat.zero_le _, rfl, rfl⟩
  case round =>
    obtain ⟨k, hk, rfl, rfl⟩ := hrel
    by_cases hlt : k < z.size
    · have hkb : k < (bs z).length := by omega
      have hcl : ((bs z).take k).count 10 ≤ k := Nat.le_trans List.count_le_length (List.length_take_le _ _)
      have HCT := Lib.hid (cnt_take (b := 10) hkb)
      obtain ⟨x, hx⟩ : ∃ x, z[k]'hlt = x := ⟨_, rfl⟩
      have hxb : (bs z)[k]'hkb = x := hx
      rw [hxb] at HCT
      clear hxb
      generalize ((bs z).take k).count 10 = m at *
      by_cases he : x = 10
      · have hq : ((x.toNat : Int) == 10) = true := by rw [he]; rfl
        have HC' := Lib.hid (HCT.out.trans (by rw [if_pos he]))
        clear he HCT
        go_wp2_with fail
        go_round
        case rel => exact ⟨k + 1, by omega, by go_num, by rw [HC'.out]; go_num⟩
        case measure => simp [intOf]; omega
      · have hq : ((x.toNat : Int) == 10) = false := by
          rw [beq_eq_false_iff_ne]
          intro e
          exact he (UInt8.toNat_inj.1 (by show x.toNat = 10; omega))
        have HC' := Lib.hid (HCT.out.trans (by rw [if_neg he]))
        clear he HCT
        go_wp2_with fail
        go_round
        case rel => exact ⟨k + 1, by omega, by go_num, by rw [HC'.out]; go_num⟩
        case measure => simp [intOf]; omega
    · obtain rfl : k = z.size := by omega
      rw [List.take_of_length_le (by omega), HCN.out]
      obtain ⟨b, off, rfl, ⟨_, hbr⟩, hcs⟩ := RStep.at_ HS3.out (k := n1 - 1) (by omega)
      obtain ⟨A', n', c', ⟨c1', c2', c3'⟩, ha, _⟩ := hcs (n1 - 1) (by omega)
      clear hcs
      have HLE := Lib.hid (HC3.out.le (by omega) c2')
      have HA := Lib.hid ha; clear ha
      have b2 := (blk_cl (k := 1) HX3.out rfl).1
      have hw1 : IntKind.i64.wrap ((n1 : Int) - 1) = ((n1 - 1 : Nat) : Int) := by rw [IntWalk.i64_in _ (by omega)]; omega
      have hn1 : ((n1 - 1 : Nat) : Int) < (n1 : Int) := by omega
      have hn0 : (0 : Int) ≤ ((n1 - 1 : Nat) : Int) := by omega
      have hn2 : ((n1 - 1 : Nat) : Int).toNat = n1 - 1 := by omega
      have HT := Lib.hid (show textS (nth ss (n1 - 1)) ++ (⟨#[10]⟩ : Str) = ln by unfold textS; rw [if_pos HLAST.out, HLNE.out]; rfl)
      go_wp2_with fail
      refine (stepTextI_any _ _ _ (nth ss (n1 - 1)) _ _ HA.out (HOK.out.2 (n1 - 1) (by rw [HLn.out]; omega)) HLE.out).mono ?_
      rintro e w4 ⟨rfl, hb4⟩
      have HX4 := Lib.hid ((hb4.block w1.heap.size (heap_lt HX3.out)).trans HX3.out)
      have HB4 := Lib.hid (HB3.out.trans (hb4.mono HB3.out.size)); clear hb4 c1' c2' c3' b2 hw1 hn1 hn0 hn2
      have b2 := (blk_cl (k := 1) HX4.out rfl).1
      have hq3 : (((n1 + 1 : Nat) : Int) == (n1 : Int) + 1) = true := by rw [beq_iff_eq]; omega
      have hlnn : textS (nth ss (n1 - 1)) ++ (⟨#[10]⟩ : Str) = ln := HT.out
      have hts : (textS (nth ss (n1 - 1))).size ≤ 100 := by unfold textS; rw [if_pos HLAST.out]; exact hls.1
      go_wp2_with fail
      have hfin : (z.extract (z.size - ((stepS (nth ss (n1 - 1))).size + 1)) z.size).toList == ln.toList := by rw [← hln, HTL.out]; simp
      rw [hfin]
      go_ret
      exact ⟨rfl, HB4.out⟩
end Go.Proofs.YthdfefgianokgaaDoor

/- FnFlowText's card: it returns true at every input that its row takes, and leaves its arguments as they were. No condition but the row's. -/
namespace Go.Proofs.YthdfefgianokgaaDoor
open Go.ChangeShapes Go.WideShapes Go.ChangeAt Go.RowKit

set_option maxRecDepth 100000 in
theorem fnFlowText_lifted (os : Os) (started : os.Started) (H : Type) (enc : TypeId × Value → H) :
    ReturnsInHanded {} Tryd.checked os 7 .any (fun w args => (Rows.fnFlowTextSpec.pre enc Tryd.prog Tryd.f7 Rows.fnFlowTextRow.domain false w args ∧ laidMetH Tryd.prog Rows.fnFlowTextRow.laid w) ∧ sizedMet enc Tryd.prog Tryd.f7 (OpenSpec.ofChange Rows.fnFlowTextSpec) false w args)
      (Rows.fnFlowTextSpec.post enc Tryd.prog Tryd.f7 false true false false) := by
  refine handed_laid (C := Tryd.checked) (X := fun w _ => laidMetH Tryd.prog Rows.fnFlowTextRow.laid w) (fun _ _ _ hh h => h.of_heap hh) Tryd.own started (by kernel_rfl) Tryd.func7
    (ChangeSpec.witness_shaped (enc := enc) (C := Tryd.checked) (os := os) (X := fun w _ => laidMetH Tryd.prog Rows.fnFlowTextRow.laid w) false (World.laidAll Tryd.prog os Rows.fnFlowTextRow.laid) #[.slice none 0 0] 8 (World.laidAll_os _ _ _)
      (World.shaped_of_ZipB (by kernel_rfl) (by kernel_rfl)) (by kernel_rfl) (by kernel_rfl) (by kernel_rfl)
      (by rw [MakeChecks.laidMetH_plain _ _ _ (by kernel_rfl)]; exact laidMet_laidAll _ (by kernel_rfl) (by kernel_rfl))) ?_
  intro W base args ds gs before hval0 hW hsh hL
  have hval : ∀ (j : Nat) t v, Tryd.f7.params[j]? = some t → args[j]? = some v → Value.okWide Tryd.prog W .any base t v := hval0
  have hW' := hW
  obtain ⟨p, q, hA0, hV, rfl, hfz, hnd⟩ := hW
  have hA : DataW.TrodAll enc Tryd.prog W 0 (fun _ => true) true Tryd.f7.params.toList args.toList ds p := hA0
  rw [Tryd.params7] at hA hval
  obtain ⟨v0, d0, rfl, rfl, h0⟩ := trodAll_one hA
  obtain ⟨rfl, rfl⟩ := trodVars_none hV
  have h0k := h0
  obtain ⟨a0, len, cap, rfl⟩ := okWide_slice Tryd.underlying22 (hval 0 22 v0 rfl rfl)
  obtain ⟨fuel, hf⟩ := h0
  clear hA0 hval0 hA
  simp only [List.append_nil] at hW' hfz
  have hlt : ∀ x ∈ p, x.block < W.heap.size := fun x hx => by simpa using hW'.lt x hx
  obtain ⟨hr, hc, _⟩ := open_code hf
  refine (fnFlowText_any a0 len cap W hr hc).mono fun e W' ⟨he, hb⟩ => ?_
  subst he
  exact ⟨_, rfl, post_law hW' rfl (by kernel_rfl) Tryd.underlying4 rfl rfl rfl (trodAll_mk1 (Below.trod Tryd.laidOut (by kernel_rfl) (of_decide_eq_true (by kernel_rfl)) h0k hb hlt)) hb⟩

theorem fnFlowText_row : Rows.FnFlowTextSaid :=
  OpenClaim.holds_of_wide 7 Tryd.f7 rfl rfl rfl rfl rfl rfl rfl ⟨rfl, rfl, rfl, rfl, rfl⟩ rfl rfl rfl rfl rfl (by kernel_rfl) Tryd.func7 (by kernel_rfl)
    (of_decide_eq_true (by kernel_rfl)) (by unfold Func.isWrapper; rw [if_neg (by decide +kernel)]; exact ⟨rfl, rfl⟩)
    (fun os started H enc _ => fnFlowText_lifted os started H enc)

theorem fnFlowText_holds : Rows.FnFlowTextCardSaid :=
  Claim7.holds_tied_plain_at .later [] Rows.fnFlowTextCard.laidKinds true Rows.fnFlowTextCard.stood.harness false fnFlowText_row (fun _ h => by cases h) (by kernel_rfl) (fun _ h => by cases h) fnFlowText_row_tie rfl ⟨rfl, rfl⟩ (by kernel_rfl) rfl
    (fun f fn hf hfn => by
      obtain rfl : f = 7 := Option.some.inj ((show Tryd.prog.funcNamed "loop.example/sagaflows/laws.FnFlowText" = some 7 by kernel_rfl).symm.trans hf) |>.symm
      obtain rfl : fn = Tryd.f7 := (Option.some.inj (Tryd.func7.symm.trans hfn)).symm
      exact ⟨by kernel_rfl, fun j t ht => by
        rw [Tryd.params7] at ht
        have hm : t ∈ [22] := by simpa using Array.mem_of_getElem? ht
        have hall : ([22].all fun u => !Tryd.prog.wantsStandIn u) = true := by kernel_rfl
        exact (show Tryd.prog.wantsStandIn t = false by simpa using List.all_eq_true.1 hall t hm)⟩)
    (by kernel_rfl)
end Go.Proofs.YthdfefgianokgaaDoor
