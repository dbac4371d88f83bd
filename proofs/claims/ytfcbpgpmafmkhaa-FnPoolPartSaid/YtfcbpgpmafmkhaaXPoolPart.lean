/- FnPoolPart returns true at every input, and leaves its arguments as they were. No condition. -/
import Derived.Test.YtfcbpgpmafmkhaaZC

/- FnPoolPart: the walk. -/
namespace Go.Proofs.Ytfcbpgpmafmkhaa
open Go.RowKit

set_option maxRecDepth 100000 in
set_option maxHeartbeats 2000000 in
theorem fnPoolPart_any (A B : Option Addr) (n c m d : Nat) (w : World) (hr : RByte w A n) (hc : n ≤ c) (hm0 : m ≤ maxLen) :
    Calls Try.prog 6 #[.slice A n c, .slice B m d] w fun e w' => e = .returned (.bool true) ∧ Below w.heap.size w w' := by
  have HR := Lib.hid hr; clear hr
  unfold maxLen at hm0
  by_cases hn : 1048576 < n
  · go_enter Try.func6, Try.ntmps6
    go_wp2_with fail
    go_ret
    exact ⟨rfl, Below.refl _ _⟩
  by_cases hm : 1048576 < m
  · go_enter Try.func6, Try.ntmps6
    go_wp2_with fail
    go_ret
    exact ⟨rfl, Below.refl _ _⟩
  go_enter Try.func6, Try.ntmps6
  go_wp2_with fail
  refine (drawPoolValid_any _ _ _ _ HR.out hc (by omega)).mono ?_
  rintro e w1 ⟨f, A1, n1, c1, B1, m1, d1, cs, rfl, hs, hok, h1, h6, hcs, hokc, hmd, hm9, hb1⟩
  have HOK := Lib.hid hok; clear hok
  have HOC := Lib.hid hokc; clear hokc
  have HL := Lib.hid hcs.1
  have HS1 := Lib.hid (hs.alloc (.cells #[.int .i64 f.ver, .slice A1 n1 c1] 29)); clear hs
  have HC1 := Lib.hid (hcs.alloc (.cells #[.int .i64 f.ver, .slice A1 n1 c1] 29)); clear hcs
  have HB1 := Lib.hid (hb1.alloc hb1.size (.cells #[.int .i64 f.ver, .slice A1 n1 c1] 29)); clear hb1
  have HX1 := Lib.hid (heap_new (w := w1) (o := .cells #[.int .i64 f.ver, .slice A1 n1 c1] 29) rfl)
  go_wp2_with fail
  refine (poolI_any _ _ _ _ _ _ f cs _ _ _ HS1.out HOK.out HC1.out HOC.out).mono ?_
  rintro e w2 ⟨rfl, hb2⟩
  have HX2 := Lib.hid ((hb2.block _ (heap_lt HX1.out)).trans HX1.out)
  have HB2 := Lib.hid (HB1.out.trans (hb2.mono HB1.out.size))
  have HS2 := Lib.hid (HS1.out.below hb2)
  have HC2 := Lib.hid (HC1.out.below hb2)
  clear hb2
  have x0 := (blk_cl (k := 0) HX2.out rfl).1
  have x1 := (blk_cl (k := 1) HX2.out rfl).1
  go_wp2_with fail
  refine (poolS_any _ _ _ _ _ _ f cs _ _ _ HS2.out HOK.out HC2.out HOC.out).mono ?_
  rintro e w3 ⟨rfl, hb3⟩
  have HX3 := Lib.hid ((hb3.block _ (heap_lt HX2.out)).trans HX2.out)
  have HB3 := Lib.hid (HB2.out.trans (hb3.mono HB2.out.size))
  have HS3 := Lib.hid (HS2.out.below hb3)
  have HC3 := Lib.hid (HC2.out.below hb3)
  clear hb3 x0 x1 HX1 HX2 HS1 HS2 HC1 HC2
  cases hp : poolB f cs
  · clear hp
    go_wp2_with fail
    go_ret
    exact ⟨rfl, HB3.out⟩
  have HP := Lib.hid hp; clear hp
  rcases Nat.eq_zero_or_pos m1 with rfl | hpos
  · go_wp2_with fail
    go_ret
    exact ⟨rfl, HB3.out⟩
  have hm1 : 0 < (m1 : Int) := by omega
  have hm1' : ((m1 : Int) == 0) = false := by rw [beq_eq_false_iff_ne]; omega
  obtain ⟨b3, o3, rfl, ⟨hb31, hb32⟩, _⟩ := RCase.at_ HC3.out hpos
  have hkm : (m : Int) % (m1 : Int) = ((m % m1 : Nat) : Int) := by simp
  have hk1 : m % m1 < m1 := Nat.mod_lt _ hpos
  go_upto_region 9 with fail
  rw [hkm]
  clear hkm
  generalize m % m1 = k at *
  have HT1 := Lib.hid (fun (w' : World) (h : Below w3.heap.size w3 w') => RH.below (RL.take HC3.out (k := k) (by omega)) h (Nat.le_refl _))
  have HT2 : Hid (∀ (w' : World), Below w3.heap.size w3 w' → RH caseE w' w.heap.size w3.heap.size (if d1 = k + 1 then some ⟨b3, o3, none⟩ else some ⟨b3, o3 + (k + 1) * 3, none⟩) (m1 - (k + 1)) (cs.drop (k + 1))) := fun w' h => by
    split
    · rename_i e
      have e2 : m1 - (k + 1) = 0 := by omega
      have e3 : cs.drop (k + 1) = [] := List.drop_eq_nil_of_le (by rw [HL.out]; omega)
      rw [e2, e3]
      exact RH.nil
    · exact RH.below (RH.drop HC3.out (k := k + 1) (by omega)) h (Nat.le_refl _)
  have hk2 : (0 : Int) ≤ (k : Int) := by omega
  have hk3 : (k : Int) ≤ (d1 : Int) := by omega
  have hk4 : (k : Int) ≤ (m1 : Int) := by omega
  have hk5 : (0 : Int) ≤ (k : Int) + 1 := by omega
  have hk6 : (k : Int) + 1 ≤ (d1 : Int) := by omega
  have hk7 : (k : Int) + 1 ≤ (m1 : Int) := by omega
  have hmd' : (m1 : Int) ≤ (d1 : Int) := by omega
  have hw : IntKind.i64.wrap ((k : Int) + 1) = (k : Int) + 1 := IntWalk.i64_in _ (by omega)
  have ht : ((k : Int) + 1).toNat = k + 1 := by omega
  have hdk : ¬ (d1 = k) := by omega
  have hsw : w.heap.size ≤ w3.heap.size := HB3.out.size
  go_region_law (first
    | (refine cases_step (o := ⟨some 55, _, _, _, _, _⟩) w3.heap.size w.heap.size _ 0 [] _ k _ (cs.take k) (by exact HKRow.new (lo := w.heap.size) (Nat.le_refl _) rfl) (by exact HT1.out _ ((Below.refl _ _).alloc (Nat.le_refl _) _).drew) (by rfl) (.tmp 51) (.tmp 54) (by rfl) (by rfl) (by rfl) (by omega) (by simp) ?_; intro v7 w7 how7 hg7 hb7; have how9 : HKRow w7 w3.heap.size w.heap.size v7 k (cs.take k) := by simpa using how7)
    | (refine cases_step (o := ⟨some 60, _, _, _, _, _⟩) w3.heap.size w.heap.size _ k (cs.take k) _ (m1 - (k + 1)) _ (cs.drop (k + 1)) (by exact how9) (by exact HT2.out _ (((Below.refl _ _).alloc (Nat.le_refl _) _).drew.trans hb7)) (by rfl) (.tmp 55) (.tmp 59) (by rfl) (by rfl) (by rfl) (by omega) (by (have h9 := hb7.size; simp at h9; omega)) ?_; intro v8 w8 how8 hg8 hb8; have hbw : Below w3.heap.size w3 w8 := (((Below.refl _ _).alloc (Nat.le_refl _) _).drew.trans hb7).trans hb8; obtain ⟨A8, c8, rfl, hrc8⟩ := how8.hat hsw hbw.size; have how10 : RCase w8 w.heap.size A8 (k + (m1 - (k + 1))) (cs.take k ++ cs.drop (k + 1)) := hrc8)
    | fail "no arm")
  have HB8 := Lib.hid (HB3.out.trans (hbw.mono hsw))
  have HX8 := Lib.hid ((hbw.block _ (heap_lt HX3.out)).trans HX3.out)
  have HS8 := Lib.hid (HS3.out.below hbw)
  have HC8 := Lib.hid (HC3.out.below hbw)
  have H10 := Lib.hid how10
  have hb3s : b3 < w8.heap.size := Nat.lt_of_lt_of_le hb32 hbw.size
  clear how7 how9 how10 hrc8 hb7 hb8 hbw hg7 hg8 how8 HT1 HT2 HX3 HB3 HS3 HC3
  go_upto_region 10 with fail
  have HT1 := Lib.hid (fun (w' : World) (h : Below w8.heap.size w8 w') => RH.below (RL.take HC8.out (k := k + 1) (by omega)) h (Nat.le_refl _))
  have HT2 := Lib.hid (fun (w' : World) (h : Below w8.heap.size w8 w') => RH.below (RH.drop HC8.out (k := k) (by omega)) h (Nat.le_refl _))
  have hsw8 : w.heap.size ≤ w8.heap.size := HB8.out.size
  go_region_law (first
    | (refine cases_step (o := ⟨some 66, _, _, _, _, _⟩) w8.heap.size w.heap.size _ 0 [] _ (k + 1) _ (cs.take (k + 1)) (by exact HKRow.new (lo := w.heap.size) (Nat.le_refl _) rfl) (by exact HT1.out _ ((Below.refl _ _).alloc (Nat.le_refl _) _).drew) (by rfl) (.tmp 61) (.tmp 65) (by rfl) (by rfl) (by rfl) (by omega) (by simp) ?_; intro v7 w7 how7 hg7 hb7; have how9 : HKRow w7 w8.heap.size w.heap.size v7 (k + 1) (cs.take (k + 1)) := by simpa using how7)
    | (refine cases_step (o := ⟨some 70, _, _, _, _, _⟩) w8.heap.size w.heap.size _ (k + 1) (cs.take (k + 1)) _ (m1 - k) _ (cs.drop k) (by exact how9) (by exact HT2.out _ (((Below.refl _ _).alloc (Nat.le_refl _) _).drew.trans hb7)) (by rfl) (.tmp 66) (.tmp 69) (by rfl) (by rfl) (by rfl) (by omega) (by (have h9 := hb7.size; simp at h9; omega)) ?_; intro v9 w9 how8 hg8 hb8; have hbw : Below w8.heap.size w8 w9 := (((Below.refl _ _).alloc (Nat.le_refl _) _).drew.trans hb7).trans hb8; obtain ⟨A9, c9, rfl, hrc8⟩ := how8.hat hsw8 hbw.size; have how10 : RCase w9 w.heap.size A9 (k + 1 + (m1 - k)) (cs.take (k + 1) ++ cs.drop k) := hrc8)
    | fail "no arm")
  have HB9 := Lib.hid (HB8.out.trans (hbw.mono hsw8))
  have HX9 := Lib.hid ((hbw.block _ (heap_lt HX8.out)).trans HX8.out)
  have HS9 := Lib.hid (HS8.out.below hbw)
  have H109 := Lib.hid (H10.out.below hbw)
  have H11 := Lib.hid how10
  clear how7 how9 how10 hrc8 hb7 hb8 hbw hg7 hg8 how8 HT1 HT2 HX8 HB8 HS8 HC8 H10
  have x0 := (blk_cl (k := 0) HX9.out rfl).1
  have x1 := (blk_cl (k := 1) HX9.out rfl).1
  have hkc : k < cs.length := by rw [HL.out]; exact hk1
  have HOK1 := Lib.hid (okCases_sub (ts := cs.take k ++ cs.drop (k + 1)) HOC.out (by rw [List.length_append, List.length_take, List.length_drop, HL.out]; omega) (fun c hc => by
    rcases List.mem_append.1 hc with h | h
    · exact List.mem_of_mem_take h
    · exact List.mem_of_mem_drop h))
  have HOK2 := Lib.hid (okCases_sub (ts := cs.take (k + 1) ++ cs.drop k) HOC.out (by rw [List.length_append, List.length_take, List.length_drop, HL.out]; omega) (fun c hc => by
    rcases List.mem_append.1 hc with h | h
    · exact List.mem_of_mem_take h
    · exact List.mem_of_mem_drop h))
  have HV1 := Lib.hid (pool_less (k := k) HP.out)
  have HV2 := Lib.hid (pool_twice (f := f) hkc)
  generalize cs.take k ++ cs.drop (k + 1) = xs at *
  generalize cs.take (k + 1) ++ cs.drop k = ys at *
  go_wp2_with fail
  all_goals
    refine (poolI_any _ _ _ _ _ _ f xs _ _ _ HS9.out HOK.out H109.out HOK1.out).mono ?_
    rintro e w10 ⟨rfl, hb10⟩
    rw [HV1.out]
    have HX10 := Lib.hid ((hb10.block _ (heap_lt HX9.out)).trans HX9.out)
    have HB10 := Lib.hid (HB9.out.trans (hb10.mono HB9.out.size))
    have HS10 := Lib.hid (HS9.out.below hb10)
    have H12 := Lib.hid (H11.out.below hb10)
    clear x0 x1 hb10
    have x0 := (blk_cl (k := 0) HX10.out rfl).1
    have x1 := (blk_cl (k := 1) HX10.out rfl).1
    go_wp2_with fail
    refine (poolI_any _ _ _ _ _ _ f ys _ _ _ HS10.out HOK.out H12.out HOK2.out).mono ?_
    rintro e w11 ⟨rfl, hb11⟩
    rw [HV2.out]
    go_wp2_with fail
    go_ret
    exact ⟨rfl, HB10.out.trans (hb11.mono HB10.out.size)⟩
end Go.Proofs.Ytfcbpgpmafmkhaa

/- FnPoolPart returns true at every input, and leaves its arguments as they were. No condition. -/
namespace Go.Proofs.Ytfcbpgpmafmkhaa
open Go.ChangeShapes Go.WideShapes Go.ChangeAt Go.RowKit

set_option maxRecDepth 100000 in
theorem fnPoolPart_lifted (os : Os) (started : os.Started) (H : Type) (enc : TypeId × Value → H) :
    ReturnsInHanded {} Try.checked os 6 .any (Rows.fnPoolPartSpec.pre6 enc Try.prog Try.f6 Rows.fnPoolPartRow.domain false) (Rows.fnPoolPartSpec.post enc Try.prog Try.f6 false true false false) := by
  refine returnsInHanded_of_change (C := Try.checked) Try.own started (by kernel_rfl) Try.func6
    (ChangeSpec.witness6 (enc := enc) (C := Try.checked) false ⟨#[], #[.slice none 0 0, .slice none 0 0], []⟩ 8 (by kernel_rfl) (by kernel_rfl) (by kernel_rfl) (by kernel_rfl)) ?_
  intro W base args ds gs before hval0 hW hcnd _
  have hval : ∀ (j : Nat) t v, Try.f6.params[j]? = some t → args[j]? = some v → Value.okWide Try.prog W .any base t v := hval0
  have hW' := hW
  obtain ⟨p, q, hA0, hV, rfl, hfz, hnd⟩ := hW
  have hA : DataW.TrodAll enc Try.prog W 0 (fun _ => true) true Try.f6.params.toList args.toList ds p := hA0
  rw [Try.params6] at hA hval
  obtain ⟨v0, v1, d0, d1, p0, p1, rfl, rfl, rfl, h0, h1⟩ := trodAll_two hA
  obtain ⟨rfl, rfl⟩ := trodVars_none hV
  have h0k := h0
  have h1k := h1
  obtain ⟨a0, len, cap, rfl⟩ := okWide_slice Try.underlying33 (hval 0 33 v0 rfl rfl)
  obtain ⟨a1, len1, cap1, rfl⟩ := okWide_slice Try.underlying33 (hval 1 33 v1 rfl rfl)
  obtain ⟨fuel, hf⟩ := h0
  obtain ⟨fuel1, hf1⟩ := h1
  clear hA0 hval0 hA
  simp only [List.append_nil] at hW' hfz
  have hlt : ∀ x ∈ p0 ++ p1, x.block < W.heap.size := fun x hx => hW'.lt x hx
  obtain ⟨hr, hc, _⟩ := open_code hf
  obtain ⟨_, hc1, hm1⟩ := open_code hf1
  refine (fnPoolPart_any a0 a1 len cap len1 cap1 W hr hc (Nat.le_trans hc1 hm1)).mono fun e W' ⟨he, hb⟩ => ?_
  subst he
  exact ⟨_, rfl, post_law hW' rfl (by kernel_rfl) Try.underlying4 rfl rfl rfl (trodAll_mk2 (Below.trod Try.laidOut (by kernel_rfl) (of_decide_eq_true (by kernel_rfl)) h0k hb (fun x hx => hlt x (List.mem_append_left _ hx))) (Below.trod Try.laidOut (by kernel_rfl) (of_decide_eq_true (by kernel_rfl)) h1k hb (fun x hx => hlt x (List.mem_append_right _ hx)))) hb⟩

theorem fnPoolPart_holds : Rows.FnPoolPartSaid :=
  OpenClaim.holds_of_wide 6 Try.f6 rfl rfl rfl rfl rfl rfl rfl ⟨rfl, rfl, rfl, rfl, rfl⟩ rfl rfl rfl rfl rfl (by kernel_rfl) Try.func6 (by kernel_rfl)
    (of_decide_eq_true (by kernel_rfl)) (by unfold Func.isWrapper; rw [if_neg (by decide +kernel)]; exact ⟨rfl, rfl⟩)
    (fun os started H enc _ => fnPoolPart_lifted os started H enc)
end Go.Proofs.Ytfcbpgpmafmkhaa
