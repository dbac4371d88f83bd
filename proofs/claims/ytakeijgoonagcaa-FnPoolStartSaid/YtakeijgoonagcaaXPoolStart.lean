/- FnPoolStart returns true at every input, and leaves its arguments as they were. No condition. -/
import Derived.Test.YtakeijgoonagcaaZK
import Derived.Test.YtakeijgoonagcaaZF
import Derived.Test.YtakeijgoonagcaaZG
import Derived.Test.YtakeijgoonagcaaZC

/- FnPoolStartOnce: the walk. -/
namespace Go.Proofs.Ytakeijgoonagcaa
open Go.RowKit

theorem ins_at {cs : List Case} {nm : Str} (hh : hasB (caseNames cs) nm = false) : hasB (caseNames (insL cs nm)) nm = true := by
  rw [hasB_true]
  exact List.mem_map.2 ⟨newC nm, (ins_mem (ne_names hh)).2 (.inl rfl), rfl⟩
set_option maxRecDepth 100000 in
set_option maxHeartbeats 4000000 in
theorem fnPoolStartOnce_any (A : Option Addr) (n c : Nat) (w : World) (hr : RByte w A n) (hc : n ≤ c) :
    Calls Try.prog 8 #[.slice A n c] w fun e w' => e = .returned (.bool true) ∧ Below w.heap.size w w' := by
  have HR := Lib.hid hr; clear hr
  by_cases hn : 1048576 < n
  · go_enter Try.func8, Try.ntmps8
    go_wp2_with fail
    go_ret
    exact ⟨rfl, Below.refl _ _⟩
  go_enter Try.func8, Try.ntmps8
  go_wp2_with fail
  refine (drawPoolStart_any _ _ _ _ HR.out hc (by omega)).mono ?_
  rintro e w1 ⟨f, A1, n1, c1, B1, m1, d1, cs, nm, rfl, hs, hok, h1, h6, hcs, hokc, hmd, hm9, hnm6, hb1⟩
  have HOK := Lib.hid hok; clear hok
  have HOC := Lib.hid hokc; clear hokc
  have HL := Lib.hid hcs.1
  have HNM := Lib.hid (show nm.size ≤ maxLen by unfold maxLen; omega)
  have HS1 := Lib.hid (hs.alloc (.cells #[.int .i64 f.ver, .slice A1 n1 c1] 34)); clear hs
  have HC1 := Lib.hid (hcs.alloc (.cells #[.int .i64 f.ver, .slice A1 n1 c1] 34)); clear hcs
  have HB1 := Lib.hid (hb1.alloc hb1.size (.cells #[.int .i64 f.ver, .slice A1 n1 c1] 34)); clear hb1
  have HX1 := Lib.hid (heap_new (w := w1) (o := .cells #[.int .i64 f.ver, .slice A1 n1 c1] 34) rfl)
  go_wp2_with fail
  refine (psI_any _ _ _ _ _ _ f cs nm _ _ _ HS1.out HOK.out HC1.out HOC.out HNM.out).mono ?_
  rintro e w2 ⟨B2, m2, d2, rfl, h2, hmd2, hb2⟩
  have HX2 := Lib.hid ((hb2.block _ (heap_lt HX1.out)).trans HX1.out)
  have HB2 := Lib.hid (HB1.out.trans (hb2.mono HB1.out.size))
  have HS2 := Lib.hid (HS1.out.below hb2)
  have HC2 := Lib.hid (HC1.out.below hb2)
  have H2 := Lib.hid h2.hat; clear h2 hb2
  have x0 := (blk_cl (k := 0) HX2.out rfl).1
  have x1 := (blk_cl (k := 1) HX2.out rfl).1
  go_wp2_with fail
  refine (psS_any _ _ _ _ _ _ f cs nm _ _ _ HS2.out HOK.out HC2.out HOC.out HNM.out).mono ?_
  rintro e w3 ⟨B3, m3, d3, rfl, h3, hmd3, hb3⟩
  obtain rfl : m3 = m2 := by rw [← h3.1, ← H2.out.1]
  have HX3 := Lib.hid ((hb3.block _ (heap_lt HX2.out)).trans HX2.out)
  have HB3 := Lib.hid (HB2.out.trans (hb3.mono HB2.out.size))
  have HS3 := Lib.hid (HS2.out.below hb3)
  have HC3 := Lib.hid (HC2.out.below hb3)
  have H23 := Lib.hid (H2.out.below hb3)
  have H3 := Lib.hid h3; clear h3 hb3 x0 x1 HX1 HX2 HS1 HS2 HC1 HC2 H2
  have HOKP := Lib.hid (okCases_ps (f := f) (nm := nm) HOC.out HNM.out)
  have HP := Lib.hid (fun (w' : World) (h : Below w3.heap.size w3 w') => samePool_same B2 B3 m3 d2 d3 (psL f cs nm) _ _ w' (H23.out.below h) HOKP.out (H3.out.below h))
  have hzz : (psB f cs nm != psB f cs nm) = false := by simp
  have hze : (psB f cs nm == psB f cs nm) = true := by simp
  cases hp : psB f cs nm
  · clear hp
    go_wp2_with fail
    refine (HP.out w3 (Below.refl _ _)).mono ?_
    rintro e w4 ⟨rfl, hb4⟩
    go_wp2_with fail
    refine (HP.out w4 hb4).mono ?_
    rintro e w5 ⟨rfl, hb5⟩
    go_wp2_with fail
    go_ret
    exact ⟨rfl, (HB3.out.trans (hb4.mono HB3.out.size)).trans (hb5.mono (Nat.le_trans HB3.out.size hb4.size))⟩
  have HPE := Lib.hid hp
  have HE := Lib.hid (psL_yes hp)
  clear hp
  go_wp2_with fail
  refine (HP.out w3 (Below.refl _ _)).mono ?_
  rintro e w4 ⟨rfl, hb4⟩
  have HX4 := Lib.hid ((hb4.block _ (heap_lt HX3.out)).trans HX3.out)
  have HB4 := Lib.hid (HB3.out.trans (hb4.mono HB3.out.size))
  have HS4 := Lib.hid (HS3.out.below hb4)
  have HC4 := Lib.hid (HC3.out.below hb4)
  have H24 := Lib.hid (H23.out.below hb4)
  clear hb4 hzz hze HP HX3 HB3 HS3 HC3 H23 H3
  rw [HE.out] at H24 HOKP
  have HPO := Lib.hid (ps_pool HPE.out)
  rw [HE.out] at HPO
  obtain ⟨hpb, hhn, hnmb, hl7⟩ := ps_parts HPE.out
  have HPB := Lib.hid hpb; clear hpb
  have HHN := Lib.hid hhn; clear hhn
  clear hnmb
  have hpb2 : psB f (insL cs nm) nm = false := by unfold psB; rw [ins_at HHN.out]; simp
  have HP2 := Lib.hid hpb2; clear hpb2
  have hq : ((m3 : Int) == (m1 : Int) + 1) = true := by
    have h1 := H24.out.1
    have h2 := ins_len (ne_names HHN.out)
    rw [HL.out] at h2
    rw [beq_iff_eq]
    omega
  have x0 := (blk_cl (k := 0) HX4.out rfl).1
  have x1 := (blk_cl (k := 1) HX4.out rfl).1
  go_wp2_with fail
  refine (psI_any _ _ _ _ _ _ f (insL cs nm) nm _ _ _ HS4.out HOK.out H24.out HOKP.out HNM.out).mono ?_
  rintro e w5 ⟨B5, m5, d5, rfl, _, _, hb5⟩
  rw [HP2.out]
  go_wp2_with fail
  go_ret
  exact ⟨rfl, HB4.out.trans (hb5.mono HB4.out.size)⟩
end Go.Proofs.Ytakeijgoonagcaa

/- FnPoolStart: the walk. -/
namespace Go.Proofs.Ytakeijgoonagcaa
open Go.RowKit

theorem app_caseH {w : World} {ops : Array Oper} {rest : List Oper} {o : Oper} {a : Act} {Q : Exit → Act → World → Prop} (base lo : Nat) (v : Value) (n : Nat) (ss : List Case) (b : Nat) (s : Case) (A : Option Addr) (m c : Nat) (hown : HKRow w base lo v n ss) (hs0 : RH strE w lo base A m s.done) (hmc : m ≤ c)
    (hgd : o.guard = none) (l x : Operand) (ho : o.op = .call { callee := .builtin .append, args := #[l, x], argTypes := #[28, 28] })
    (hs : a.eval l = v) (hx : a.eval x = .slice (some ⟨b, 0, none⟩) 1 1) (hb : w.heap[b]? = some (.cells #[.string s.name, .int .i64 s.st, .slice A m c] 52 (0, 0))) (hn : n ≤ 1048576) (hbase : base ≤ w.heap.size)
    (h : ∀ v' w', HKRow w' base lo v' (n + 1) (ss ++ [s]) → w.grownBy w' v.ownBlock → Below base w w' → wpList Try.prog ops Q rest (a.put o.dst v') w') : wpList Try.prog ops Q (o :: rest) a w :=
  wpList_plain hgd fun K hK => by
    obtain ⟨ps, rfl, h1, h2⟩ := hown
    refine wapp 28 52 3 48 _ Try.underlying28 info_case rfl (by omega) (by omega) base v n _ (ccells (s, .slice A m c)) b h1 l x ho hs hx hb rfl ?_ hn hbase ?_
    · intro u hu; simp [ccells] at hu; rcases hu with rfl | rfl | rfl <;> rfl
    · intro v' w' h3 h4 h5
      have hbel : Below base w w' := (Below.refl base w).grown h4 hbase (fun k hk => (h1.lt k hk).1)
      refine hK _ _ (h v' w' ⟨ps ++ [(s, .slice A m c)], by simp, by rw [List.flatMap_append]; simpa using h3, fun p hp => ?_⟩ h4 hbel)
      rcases List.mem_append.1 hp with hp | hp
      · obtain ⟨A', m', c', e, h6, h7⟩ := h2 p hp
        exact ⟨A', m', c', e, h6.below hbel (Nat.le_refl _), h7⟩
      · rw [List.mem_singleton] at hp
        subst hp
        exact ⟨A, m, c, rfl, hs0.below hbel (Nat.le_refl _), hmc⟩
def others (cs : List Case) (nm : Str) (k : Nat) : List Case := (cs.take k).filter fun c => !decide (c.name = nm)
theorem others_no {cs : List Case} {nm : Str} {k : Nat} (hk : k < cs.length) (h : (nth cs k).name = nm) : others cs nm (k + 1) = others cs nm k := by
  unfold others; rw [take_nth hk, List.filter_append]; simp [h]
theorem others_yes {cs : List Case} {nm : Str} {k : Nat} (hk : k < cs.length) (h : (nth cs k).name ≠ nm) : others cs nm (k + 1) = others cs nm k ++ [nth cs k] := by
  unfold others; rw [take_nth hk, List.filter_append]; simp [h]
theorem others_len (cs : List Case) (nm : Str) (k : Nat) : (others cs nm k).length ≤ k := Nat.le_trans (List.length_filter_le _ _) (List.length_take_le _ _)
theorem HKRow.below {w w' : World} {base lo n : Nat} {v : Value} {ss : List Case} (h : HKRow w base lo v n ss) (hb : Below w.heap.size w w') (hbase : base ≤ w.heap.size) : HKRow w' base lo v n ss := by
  obtain ⟨ps, e, h1, h2⟩ := h
  refine ⟨ps, e, row_below h1 hb, fun p hp => ?_⟩
  obtain ⟨A, m, c, e2, h3, h4⟩ := h2 p hp
  exact ⟨A, m, c, e2, h3.below hb hbase, h4⟩
set_option maxRecDepth 100000 in
set_option maxHeartbeats 4000000 in
theorem fnPoolStart_any (A : Option Addr) (n c : Nat) (w : World) (hr : RByte w A n) (hc : n ≤ c) :
    Calls Try.prog 7 #[.slice A n c] w fun e w' => e = .returned (.bool true) ∧ Below w.heap.size w w' := by
  have HR := Lib.hid hr; clear hr
  by_cases hn : 1048576 < n
  · go_enter Try.func7, Try.ntmps7
    go_wp2_with fail
    go_ret
    exact ⟨rfl, Below.refl _ _⟩
  go_enter Try.func7, Try.ntmps7
  go_wp2_with fail
  refine (drawPoolStart_any _ _ _ _ HR.out hc (by omega)).mono ?_
  rintro e w1 ⟨f, A1, n1, c1, B1, m1, d1, cs, nm, rfl, hs, hok, h1, h6, hcs, hokc, hmd, hm9, hnm6, hb1⟩
  have HOK := Lib.hid hok; clear hok
  have HOC := Lib.hid hokc; clear hokc
  have HL := Lib.hid hcs.1
  have HNM := Lib.hid (show nm.size ≤ maxLen by unfold maxLen; omega)
  have HS1 := Lib.hid (hs.alloc (.cells #[.int .i64 f.ver, .slice A1 n1 c1] 34)); clear hs
  have HC1 := Lib.hid (hcs.alloc (.cells #[.int .i64 f.ver, .slice A1 n1 c1] 34)); clear hcs
  have HB1 := Lib.hid (hb1.alloc hb1.size (.cells #[.int .i64 f.ver, .slice A1 n1 c1] 34)); clear hb1
  have HX1 := Lib.hid (heap_new (w := w1) (o := .cells #[.int .i64 f.ver, .slice A1 n1 c1] 34) rfl)
  go_wp2_with fail
  refine (psI_any _ _ _ _ _ _ f cs nm _ _ _ HS1.out HOK.out HC1.out HOC.out HNM.out).mono ?_
  rintro e w2 ⟨B2, m2, d2, rfl, h2, hmd2, hb2⟩
  have HX2 := Lib.hid ((hb2.block _ (heap_lt HX1.out)).trans HX1.out)
  have HB2 := Lib.hid (HB1.out.trans (hb2.mono HB1.out.size))
  have HS2 := Lib.hid (HS1.out.below hb2)
  have HC2 := Lib.hid (HC1.out.below hb2)
  have H2 := Lib.hid h2.hat; clear h2 hb2
  have x0 := (blk_cl (k := 0) HX2.out rfl).1
  have x1 := (blk_cl (k := 1) HX2.out rfl).1
  go_wp2_with fail
  refine (psS_any _ _ _ _ _ _ f cs nm _ _ _ HS2.out HOK.out HC2.out HOC.out HNM.out).mono ?_
  rintro e w3 ⟨B3, m3, d3, rfl, h3, hmd3, hb3⟩
  obtain rfl : m3 = m2 := by rw [← h3.1, ← H2.out.1]
  have HX3 := Lib.hid ((hb3.block _ (heap_lt HX2.out)).trans HX2.out)
  have HB3 := Lib.hid (HB2.out.trans (hb3.mono HB2.out.size))
  have HS3 := Lib.hid (HS2.out.below hb3)
  have HC3 := Lib.hid (HC2.out.below hb3)
  have H23 := Lib.hid (H2.out.below hb3)
  have H3 := Lib.hid h3; clear h3 hb3 x0 x1 HX1 HX2 HS1 HS2 HC1 HC2 H2
  have HOKP := Lib.hid (okCases_ps (f := f) (nm := nm) HOC.out HNM.out)
  have HP := Lib.hid (fun (w' : World) (h : Below w3.heap.size w3 w') => samePool_same B2 B3 m3 d2 d3 (psL f cs nm) _ _ w' (H23.out.below h) HOKP.out (H3.out.below h))
  have hzz : (psB f cs nm != psB f cs nm) = false := by simp
  have hze : (psB f cs nm == psB f cs nm) = true := by simp
  cases hp : psB f cs nm
  · clear hp
    go_wp2_with fail
    refine (HP.out w3 (Below.refl _ _)).mono ?_
    rintro e w4 ⟨rfl, hb4⟩
    go_wp2_with fail
    refine (HP.out w4 hb4).mono ?_
    rintro e w5 ⟨rfl, hb5⟩
    go_wp2_with fail
    go_ret
    exact ⟨rfl, (HB3.out.trans (hb4.mono HB3.out.size)).trans (hb5.mono (Nat.le_trans HB3.out.size hb4.size))⟩
  have HPE := Lib.hid hp
  have HE := Lib.hid (psL_yes hp)
  clear hp
  go_wp2_with fail
  refine (HP.out w3 (Below.refl _ _)).mono ?_
  rintro e w4 ⟨rfl, hb4⟩
  have HX4 := Lib.hid ((hb4.block _ (heap_lt HX3.out)).trans HX3.out)
  have HB4 := Lib.hid (HB3.out.trans (hb4.mono HB3.out.size))
  have HS4 := Lib.hid (HS3.out.below hb4)
  have HC4 := Lib.hid (HC3.out.below hb4)
  have H24 := Lib.hid (H23.out.below hb4)
  clear hb4 hzz hze HP HX3 HB3 HS3 HC3 H23 H3
  rw [HE.out] at H24 HOKP
  have HPO := Lib.hid (ps_pool HPE.out)
  rw [HE.out] at HPO
  obtain ⟨hpb, hhn, hnmb, hl7⟩ := ps_parts HPE.out
  have HPB := Lib.hid hpb; clear hpb
  have HHN := Lib.hid hhn; clear hhn
  clear hnmb
  have hm38 : m3 ≤ 8 := by
    have h1 := H24.out.1
    have h2 := ins_len (ne_names HHN.out)
    omega
  have HLI := Lib.hid H24.out.1
  have hs4 := HB4.out.size
  have HNW := Lib.hid (HKRow.new (w := w4) (base := w4.heap.size) (lo := 0) (b := w4.heap.size) (Nat.le_refl _) rfl)
  have HB5 := Lib.hid ((Below.refl w4.heap.size w4).alloc (Nat.le_refl _) (.cells #[] 52))
  go_wp2_with fail
  go_loopw [10, 11] (fun v i wr => ∃ k n1 : Nat, k ≤ m3 ∧ i = .int .i64 (k : Int) ∧ HKRow wr w4.heap.size 0 v n1 (others (insL cs nm) nm k) ∧ Below w4.heap.size w4 wr) (fun _ i _ => m3 - (intOf i).toNat)
  case atStart => exact ⟨0, 0, Nat.zero_le _, rfl, HNW.out, HB5.out⟩
  case round =>
    obtain ⟨wo, rfl⟩ : ∃ wo : World, wo = wr := ⟨_, rfl⟩
    obtain ⟨k, n1, hk, rfl, hrow, hbw⟩ := hrel
    have HROW := Lib.hid hrow; clear hrow
    have HBW := Lib.hid hbw; clear hbw
    have hsw := HBW.out.size
    have hn1 : n1 ≤ k := by
      have h1 := HROW.out.len
      have h2 := others_len (insL cs nm) nm k
      omega
    obtain ⟨A9, c9, rfl, _⟩ := HROW.out.hat (Nat.zero_le _) hsw
    by_cases hlt : k < m3
    · obtain ⟨b, off, rfl, _, hbl, hcc⟩ := H24.out.2 (by omega)
      obtain ⟨d1, d2', ⟨A', n', c', d3', hdr, hnc⟩⟩ := hcc k hlt
      replace d1 := (HBW.out.cell (p := ⟨b, off + k * 3, none⟩) hbl).trans d1.1
      replace d2' := (HBW.out.cell (p := ⟨b, off + k * 3 + 1, none⟩) hbl).trans d2'.1
      replace d3' := (HBW.out.cell (p := ⟨b, off + k * 3 + 2, none⟩) hbl).trans d3'.1
      have HDR := Lib.hid ((hdr.wide (Nat.zero_le _) (Nat.le_refl _)).below HBW.out (Nat.le_refl _)); clear hdr hcc
      have hkl : k < (insL cs nm).length := by rw [HLI.out]; exact hlt
      by_cases he : (nth (insL cs nm) k).name = nm
      · have hq := seq_t he
        have HT := Lib.hid (others_no hkl he)
        clear he
        go_wp2_with fail
        go_roundw
        case rel => exact ⟨k + 1, n1, by omega, by go_num, by rw [HT.out]; exact HROW.out, HBW.out⟩
        case measure => simp [intOf]; omega
      · have hq := seq_f he
        have HT := Lib.hid (others_yes hkl he)
        clear he
        go_wp2_with (at_builtin; refine app_caseH w4.heap.size 0 (.slice A9 n1 c9) n1 (others (insL cs nm) nm k) wo.heap.size (nth (insL cs nm) k) A' n' c' ?c0 ?c1 hnc rfl (.tmp 71) (.tmp 76) rfl rfl rfl ?c3 (by omega) ?c4 ?_)
        case c0 => exact HROW.out.alloc hsw _
        case c1 => exact HDR.out.below ((Below.refl w4.heap.size wo).alloc hsw _) (Nat.le_refl _)
        case c3 => first | exact heap_new rfl | exact Array.getElem_push_eq
        case c4 => (try simp); omega
        intro v7 w7 how7 hg7 hbel7
        have HB7 := Lib.hid ((HBW.out.alloc hsw (.cells #[.string (nth (insL cs nm) k).name, .int .i64 (nth (insL cs nm) k).st, .slice A' n' c'] 52)).trans hbel7)
        have HK7 := Lib.hid how7
        clear how7 hg7 hbel7
        go_wp2_with fail
        go_roundw
        case rel => exact ⟨k + 1, n1 + 1, by omega, by go_num, by rw [HT.out]; exact HK7.out, HB7.out⟩
        case measure => simp [intOf]; omega
    · obtain rfl : k = m3 := by omega
      have HO := Lib.hid (show others (insL cs nm) nm k = cs by
        unfold others
        rw [← HLI.out, List.take_length]
        exact ins_rest (poolB_iff.1 HPB.out).2.1 (ne_names HHN.out))
      rw [HO.out] at HROW
      obtain ⟨A8, c8, e8, hrest⟩ := HROW.out.hat (Nat.zero_le _) hsw
      injection e8 with e8 _ e9
      subst e8; subst e9
      have HREST := Lib.hid hrest; clear hrest
      obtain rfl : n1 = m1 := by rw [← HREST.out.1, HL.out]
      have HB6 := Lib.hid (HB4.out.trans (HBW.out.mono hs4))
      have HX6 := Lib.hid ((HBW.out.block _ (heap_lt HX4.out)).trans HX4.out)
      have HS6 := Lib.hid (HS4.out.below HBW.out)
      have HC6 := Lib.hid (HC4.out.below HBW.out)
      have H26 := Lib.hid (H24.out.below HBW.out)
      obtain ⟨hpl, hidx, hpn⟩ := pAt_ex (ins_at HHN.out)
      have hnew : nth (insL cs nm) (pAt (insL cs nm) nm) = newC nm := by
        rcases (ins_mem (ne_names HHN.out)).1 (mem_nth hpl) with h | h
        · exact h
        · exact absurd hpn (ne_names HHN.out _ h)
      have HNEW := Lib.hid hnew; clear hnew hpn
      have x0 := (blk_cl (k := 0) HX6.out rfl).1
      have x1 := (blk_cl (k := 1) HX6.out rfl).1
      go_wp2_with fail
      refine (caseOf_any _ _ _ (insL cs nm) nm _ _ H26.out (by omega)).mono ?_
      rintro e w7 ⟨rfl, rfl⟩
      rw [hidx]
      clear hidx
      generalize pAt (insL cs nm) nm = p at *
      have hpm : p < k := by rw [← HLI.out]; exact hpl
      have hp0 : (0 : Int) ≤ (p : Int) := by omega
      have hp1 : (p : Int) < (k : Int) := by omega
      have hp2 : ¬ ((p : Int) < 0) := by omega
      have hpd : decide ((0 : Int) ≤ (p : Int)) = true := by simp
      go_wp2_with fail
      refine (poolI_any _ _ _ _ _ _ f (insL cs nm) _ _ _ HS6.out HOK.out H26.out HOKP.out).mono ?_
      rintro e w8 ⟨rfl, hb8⟩
      rw [HPO.out]
      have HB8 := Lib.hid (HB6.out.trans (hb8.mono HB6.out.size))
      have H28 := Lib.hid (H26.out.below hb8)
      have HC8 := Lib.hid (HC6.out.below hb8)
      have HR8 := Lib.hid (HREST.out.below hb8)
      clear hb8 x0 x1
      obtain ⟨b, off, rfl, _, hcc⟩ := RCase.at_ H28.out hpm
      obtain ⟨A', n', c', ⟨_, y2, y3⟩, hdr, _, _⟩ := hcc p hpm
      rw [HNEW.out] at y2 hdr
      have hn0 : n' = 0 := by rw [← hdr.1]; rfl
      subst hn0
      have y2' : wo.cell? ⟨0, 0, none⟩ = wo.cell? ⟨0, 0, none⟩ := rfl
      have e0 : (newC nm).st = 0 := rfl
      rw [e0] at y2
      clear hcc hdr y2' e0
      go_wp2_with fail
      refine (samePool_same _ _ _ _ _ cs _ _ _ HR8.out HOC.out HC8.out).mono ?_
      rintro e w9 ⟨rfl, hb9⟩
      go_wp2_with fail
      go_ret
      exact ⟨rfl, HB8.out.trans (hb9.mono HB8.out.size)⟩
end Go.Proofs.Ytakeijgoonagcaa

/- FnPoolStart returns true at every input, and leaves its arguments as they were. No condition. -/
namespace Go.Proofs.Ytakeijgoonagcaa
open Go.ChangeShapes Go.WideShapes Go.ChangeAt Go.RowKit

set_option maxRecDepth 100000 in
theorem fnPoolStart_lifted (os : Os) (started : os.Started) (H : Type) (enc : TypeId × Value → H) :
    ReturnsInHanded {} Try.checked os 7 .any (Rows.fnPoolStartSpec.pre6 enc Try.prog Try.f7 Rows.fnPoolStartRow.domain false) (Rows.fnPoolStartSpec.post enc Try.prog Try.f7 false true false false) := by
  refine returnsInHanded_of_change (C := Try.checked) Try.own started (by kernel_rfl) Try.func7
    (ChangeSpec.witness6 (enc := enc) (C := Try.checked) false ⟨#[], #[.slice none 0 0], []⟩ 8 (by kernel_rfl) (by kernel_rfl) (by kernel_rfl) (by kernel_rfl)) ?_
  intro W base args ds gs before hval0 hW hcnd _
  have hval : ∀ (j : Nat) t v, Try.f7.params[j]? = some t → args[j]? = some v → Value.okWide Try.prog W .any base t v := hval0
  have hW' := hW
  obtain ⟨p, q, hA0, hV, rfl, hfz, hnd⟩ := hW
  have hA : DataW.TrodAll enc Try.prog W 0 (fun _ => true) true Try.f7.params.toList args.toList ds p := hA0
  rw [Try.params7] at hA hval
  obtain ⟨v0, d0, rfl, rfl, h0⟩ := trodAll_one hA
  obtain ⟨rfl, rfl⟩ := trodVars_none hV
  have h0k := h0
  obtain ⟨a0, len, cap, rfl⟩ := okWide_slice Try.underlying44 (hval 0 44 v0 rfl rfl)
  obtain ⟨fuel, hf⟩ := h0
  clear hA0 hval0 hA
  simp only [List.append_nil] at hW' hfz
  have hlt : ∀ x ∈ p, x.block < W.heap.size := fun x hx => by simpa using hW'.lt x hx
  obtain ⟨hr, hc, _⟩ := open_code hf
  refine (fnPoolStart_any a0 len cap W hr hc).mono fun e W' ⟨he, hb⟩ => ?_
  subst he
  exact ⟨_, rfl, post_law hW' rfl (by kernel_rfl) Try.underlying4 rfl rfl rfl (trodAll_mk1 (Below.trod Try.laidOut (by kernel_rfl) (of_decide_eq_true (by kernel_rfl)) h0k hb hlt)) hb⟩

theorem fnPoolStart_holds : Rows.FnPoolStartSaid :=
  OpenClaim.holds_of_wide 7 Try.f7 rfl rfl rfl rfl rfl rfl rfl ⟨rfl, rfl, rfl, rfl, rfl⟩ rfl rfl rfl rfl rfl (by kernel_rfl) Try.func7 (by kernel_rfl)
    (of_decide_eq_true (by kernel_rfl)) (by unfold Func.isWrapper; rw [if_neg (by decide +kernel)]; exact ⟨rfl, rfl⟩)
    (fun os started H enc _ => fnPoolStart_lifted os started H enc)
end Go.Proofs.Ytakeijgoonagcaa
