/- Drawing names and steps: some name, some step. -/
import Derived.Test.YtnlibaoegfdoeaaD3
import Derived.Test.YtnlibaoegfdoeaaG2
import Derived.Test.YtnlibaoegfdoeaaS3
import Derived.Deep.RegionLaw
namespace Go.Proofs.Ytnlibaoegfdoeaa
open Go.RowKit

theorem l91Name_any (w0 : World) (g q : Nat) (w : World) (h : Dr 86 w0 g q w) (hq : q ≤ 1099511620000) :
    Calls Try.prog 81 #[.pointer (some ⟨g, 0, none⟩)] w fun e w' => ∃ s : Str, e = .returned (.string s) ∧ s.size ≤ 6 ∧ Dr 86 w0 g (q + 2) w' ∧ On g w w' := by
  have HD := Lib.hid h
  have hgl := h.lt
  go_enter Try.func81, Try.ntmps81
  go_wp2_with fail
  refine (pick w0 g _ _ _ h (by omega) (by omega)).mono ?_
  rintro e w1 ⟨v, rfl, hv0, hv1, hv2, hd1, hon⟩
  have hs1 := hon.size
  by_cases hz : v = 0
  · subst hz
    go_wp2_with fail
    refine (of_ w0 g _ _ _ _ [⟨#[]⟩, ⟨#[65]⟩, ⟨#[97, 98, 99, 100, 101, 102]⟩, ⟨#[97, 98, 99, 100, 101]⟩, ⟨#[97, 49]⟩] _ _ (hd1.alloc _) (by omega) (lit_str _ 5 rfl rfl) (by omega) (by omega) (by omega)).mono ?_
    rintro e w2 ⟨s, rfl, hm, hd2, hon2⟩
    go_wp2_with fail
    go_ret
    refine ⟨s, rfl, ?_, hd2, (hon.alloc _).trans hon2⟩
    simp at hm
    rcases hm with rfl | rfl | rfl | rfl | rfl <;> decide
  · have hz2 : (v == 0) = false := by rw [beq_eq_false_iff_ne]; exact hz
    go_wp2_with fail
    refine (of_ w0 g _ _ _ _ [⟨#[97]⟩, ⟨#[98]⟩, ⟨#[99]⟩, ⟨#[100]⟩, ⟨#[101]⟩, ⟨#[102]⟩] _ _ (hd1.alloc _) (by omega) (lit_str _ 6 rfl rfl) (by omega) (by omega) (by omega)).mono ?_
    rintro e w2 ⟨s, rfl, hm, hd2, hon2⟩
    go_wp2_with fail
    go_ret
    refine ⟨s, rfl, ?_, hd2, (hon.alloc _).trans hon2⟩
    simp at hm
    rcases hm with rfl | rfl | rfl | rfl | rfl | rfl <;> decide

theorem okS_all {xs : List Str} (h : ∀ x ∈ xs, x.size ≤ 6) (hl : xs.length ≤ 100) : okS xs := ⟨by omega, fun j hj => by have := h _ (mem_nth hj); unfold maxLen; omega⟩
theorem own_le {w : World} {base : Nat} {e : TypeId} {size n : Nat} {A : Option Addr} {c : Nat} {xs : List Value} (h : w.ownsRow base e size (.slice A n c) n xs) : n ≤ c := by
  rcases h.2 with ⟨_, rfl⟩ | ⟨g, cap, cur, e, _, _, h1, _⟩
  · exact Nat.zero_le _
  · injection e with _ _ e
    subst e; exact h1
theorem sz_set (w : World) (a : Addr) (v : Value) : (w.setCell a v).heap.size = w.heap.size := by simp
/-- What drawing a step leaves. -/
def StepQ (w0 : World) (g q : Nat) (w : World) (e : Ending) (w' : World) : Prop :=
  ∃ (s : Step) (A : Option Addr) (n c : Nat), e = .returned (.agg #[.string s.name, .slice A n c, .bool s.undo]) ∧ RStr w' w.heap.size A n s.after ∧ okStep s ∧ n ≤ 6 ∧ n ≤ c ∧ Dr 86 w0 g (q + 100) w' ∧ On g w w'

/-- The head of the loop. -/
structure StepI (w : World) (g q F N : Nat) (s : Str) (u : Bool) (wr : World) (k n : Nat) (A : Option Addr) (c : Nat) (ys : List Str) : Prop where
  kn : n ≤ k
  ok : okS ys
  row : wr.ownsRow (w.heap.size + 1) 9 1 (.slice A n c) n (ys.map Value.string)
  dr : Dr 86 w g (q + 10 + k) wr
  res : wr.heap[w.heap.size]? = some (.cells #[.string ⟨#[]⟩, .slice none 0 0, .bool false] 47 (0, 0))
  box : wr.heap[F]? = some (.cells #[.string s, .slice A n c, .bool u] 47 (0, 0))
  nms : wr.heap[N]? = some (.cells nmF 9 (0, 0))
  nmo : (Value.slice A n c).ownBlock ≠ some N
  fw : w.heap.size < F
  nw : w.heap.size < N
theorem StepI.len {w : World} {g q F N : Nat} {s : Str} {u : Bool} {wr : World} {k n : Nat} {A : Option Addr} {c : Nat} {ys : List Str} (h : StepI w g q F N s u wr k n A c ys) : ys.length = n := by
  have := h.row.1; simpa using this

set_option maxRecDepth 100000 in
set_option maxHeartbeats 4000000 in
theorem l91Step_any (w0 : World) (g q : Nat) (w : World) (h : Dr 86 w0 g q w) (hq : q ≤ 1099511610000) :
    Calls Try.prog 60 #[.pointer (some ⟨g, 0, none⟩)] w (StepQ w0 g q w) := by
  have HD := Lib.hid h; clear h
  have hgl := HD.out.lt
  have hd0 := HD.out.here.alloc (.cells #[.string ⟨#[]⟩, .slice none 0 0, .bool false] 47)
  go_enter Try.func60, Try.ntmps60
  go_wp2_with fail
  refine (l91Name_any w g _ _ hd0 (by omega)).mono ?_
  rintro e w1 ⟨s, rfl, hs6, hd1, hon⟩
  have HRES := Lib.hid (hon.blk (b := w.heap.size) (heap_new rfl) (by omega))
  have hs1 := hon.size
  rw [show (w.alloc (.cells #[.string ⟨#[]⟩, .slice none 0 0, .bool false] 47)).heap.size = w.heap.size + 1 by simp] at hs1
  go_wp2_with fail
  refine (pick w g _ _ _ (hd1.alloc _) (by omega) (by omega)).mono ?_
  rintro e w2 ⟨v, rfl, hv0, hv1, hv2, hd2, hon2⟩
  have hs2 := hon2.size
  rw [show (w1.alloc (.cells #[] 9)).heap.size = w1.heap.size + 1 by simp] at hs2
  have HRES2 := Lib.hid (hon2.blk (heap_old HRES.out) (by omega))
  have HE := Lib.hid (hon2.blk (heap_new (w := w1) (o := .cells #[] 9) rfl) (by omega))
  have HD2 := Lib.hid hd2; clear hd2 hon2 hd1 hon hd0
  clear hv1 hv2
  go_wp2_with fail
  go_loopw [5] (fun i wr => ∃ (k n : Nat) (A : Option Addr) (c : Nat) (ys : List Str), k ≤ 6 ∧ i = .int .i64 k ∧ StepI w g q w2.heap.size (w2.heap.size + 1) s (decide (0 < v)) wr k n A c ys) (fun i _ => 6 - (intOf i).toNat)
  case atStart =>
    refine ⟨0, 0, some ⟨w1.heap.size, 0, none⟩, 0, [], by omega, rfl, Nat.le_refl _, okS_nil, ⟨rfl, .inr ⟨w1.heap.size, 0, #[], rfl, hs1, heap_old (heap_old HE.out), by omega, by unfold maxLen; omega, by simp, by simp⟩⟩, ((HD2.out.alloc _).alloc _).more (by omega), heap_old (heap_old HRES2.out), heap_old (heap_new rfl), heap_new (by simp), by simp [Value.ownBlock]; omega, by omega, by omega⟩
  case round =>
    obtain ⟨wo, rfl⟩ : ∃ wo : World, wo = wr := ⟨_, rfl⟩
    obtain ⟨k, n, A, c, ys, hk, rfl, hI⟩ := hrel
    have HI := Lib.hid hI; clear hI
    have hlN := heap_lt HI.out.nms
    have hlF := heap_lt HI.out.box
    by_cases hlt : k < 6
    · obtain ⟨s2, hs21, hs22⟩ := nmF_at k hlt
      have hcell := (blk_cl HI.out.nms hs21).1
      clear hs21
      obtain ⟨x, hx0, hx1, hx2, hpk⟩ := pick1 wo g _ 4 wo.drew HI.out.dr.here.drew (by omega) (by omega)
      have HPK := Lib.hid hpk; clear hpk hx1 hx2
      have HCS : Hid (∀ w', On g wo w' → w'.cell? ⟨w2.heap.size + 1, k, none⟩ = some (.string s2) ∧ w'.cell? ⟨w2.heap.size, 0, none⟩ = some (.string s) ∧ w'.cell? ⟨w2.heap.size, 1, none⟩ = some (.slice A n c)) := fun w' h =>
        ⟨(h.cell hlN (by omega)).trans hcell, (blk_cl (k := 0) (h.blk HI.out.box (by omega)) rfl).1, (blk_cl (k := 1) (h.blk HI.out.box (by omega)) rfl).1⟩
      clear hcell
      by_cases hx : x = 0
      · subst hx
        by_cases hnm : s2 = s
        · have hq0 : (s2.toList != s.toList) = false := by rw [hnm]; simp
          have hq1 : (s2.toList == s.toList) = true := seq_t hnm
          have HNM := Lib.hid hnm; clear hnm
          go_wp2_with fail
          refine wp_region_head 4 (by kernel_rfl) (by kernel_rfl) ?_
          simp only [List.take_succ_cons, List.take_zero, List.drop_succ_cons, List.drop_zero]
          refine wpHead_step (fun K hK => ?_); go_simp; refine hK _ _ ?_; clear hK K
          refine wpHead_step (fun K hK => ?_); go_simp
          refine HPK.out.mono ?_
          rintro e w3 ⟨rfl, hd3, hon3⟩
          have hon3' : On g wo w3 := (On.refl g wo).drew.trans hon3
          obtain ⟨e1, e2, e3⟩ := HCS.out w3 hon3'
          refine hK _ _ ?_; clear hK K
          refine wpHead_step (fun K hK => ?_); go_simp; refine hK _ _ ?_; clear hK K
          refine wpHead_step (fun K hK => ?_); go_simp; refine hK _ _ ?_; clear hK K
          refine wpHead_nil ?_
          repeat (go_big_quiet_step (fail))
          refine wpQuiet_nil ?_
          intro _ hw'
          obtain ⟨mq, rfl⟩ := hw'
          go_wp2_with fail
          go_roundw
          case rel => exact ⟨k + 1, n, A, c, ys, by omega, by go_num, by have := HI.out.kn; omega, HI.out.ok, row_on HI.out.row (hon3'.drewN mq) (by omega), (((HI.out.dr.trans (hd3)).drewN mq).more (by omega)), (hon3'.drewN mq).blk HI.out.res (by omega), (hon3'.drewN mq).blk HI.out.box (by omega), (hon3'.drewN mq).blk HI.out.nms (by omega), HI.out.nmo, HI.out.fw, HI.out.nw⟩
          case measure => simp [intOf]; omega
        · have hq1 : (s2.toList == s.toList) = false := seq_f hnm
          have hq0 : (s2.toList != s.toList) = true := by rw [bne, hq1]; rfl
          have HNM := Lib.hid hnm; clear hnm
          by_cases hn4 : n < 4
          · have hn4i : decide ((n : Int) < 4) = true := by simp; omega
            go_wp2_with fail
            refine wp_region_head 4 (by kernel_rfl) (by kernel_rfl) ?_
            simp only [List.take_succ_cons, List.take_zero, List.drop_succ_cons, List.drop_zero]
            refine wpHead_step (fun K hK => ?_); go_simp; refine hK _ _ ?_; clear hK K
            refine wpHead_step (fun K hK => ?_); go_simp
            refine HPK.out.mono ?_
            rintro e w3 ⟨rfl, hd3, hon3⟩
            have hon3' : On g wo w3 := (On.refl g wo).drew.trans hon3
            obtain ⟨e1, e2, e3⟩ := HCS.out w3 hon3'
            refine hK _ _ ?_; clear hK K
            refine wpHead_step (fun K hK => ?_); go_simp; refine hK _ _ ?_; clear hK K
            refine wpHead_step (fun K hK => ?_); go_simp; refine hK _ _ ?_; clear hK K
            refine wpHead_nil ?_
            repeat (go_big_quiet_step (fail))
            refine wpQuiet_nil ?_
            intro _ hw'
            obtain ⟨mq, rfl⟩ := hw'
            have hon5 := hon3'.drewN mq
            have hdr5 := ((HI.out.dr.trans hd3).drewN mq)
            clear hon3' hon3 hd3 e1 e2 e3
            generalize w3.drewN mq = w5 at *
            have HON5 := Lib.hid hon5; clear hon5
            have HDR5 := Lib.hid hdr5; clear hdr5
            have HB5 := Lib.hid (HON5.out.blk HI.out.box (by omega))
            have HN5 := Lib.hid (HON5.out.blk HI.out.nms (by omega))
            have HR5 := Lib.hid (row_on HI.out.row HON5.out (by omega))
            obtain ⟨c1, b0, b1⟩ := HCS.out w5 HON5.out
            have c1a := fun o => (World.cell?_alloc_some w5 _ o (by rw [c1]; rfl)).trans c1
            have b1a := fun o => (World.cell?_alloc_some w5 _ o (by rw [b1]; rfl)).trans b1
            have hbase : w.heap.size + 1 ≤ w5.heap.size := by have := heap_lt HB5.out; omega
            have HNB := Lib.hid (row_ne HR5.out HB5.out (by decide))
            have HLY := Lib.hid HI.out.len
            have hkn := HI.out.kn
            go_wp2_with fail
            go_region_law (first | (refine strapp_step (o := ⟨some 45, _, _, _, _, _⟩) (w.heap.size + 1) _ n ys _ s2 (by exact HR5.out.alloc _) (by rfl) (.tmp 39) (.tmp 44) (by rfl) (by rfl) (by rfl) (by exact heap_new rfl) (by omega) (by simp; omega) ?_; intro v7 w7 how7 hg7 hat7; obtain ⟨A7, c7, rfl, hsr7⟩ := own_sstr how7; have hb7 := grown_blk hg7 (heap_old HB5.out) HNB.out; have z1 := (blk_cl (k := 1) hb7 rfl).1; have z2 := (blk_cl (k := 1) hb7 rfl).2) | fail "no arm")
            all_goals go_wp2_with fail
            all_goals
              refine ⟨⟨k + 1, n + 1, A7, c7, ys ++ [s2], by omega, by go_num, ⟨by omega, okS_app HI.out.ok (by rw [HLY.out]; omega) (by unfold maxLen; omega), row_set how7 hb7 (by decide), ?_, ?_, set31 hb7, ?_, ?_, HI.out.fw, HI.out.nw⟩⟩, by simp [intOf]; omega⟩
              · exact (((((HDR5.out.alloc _).drew).grown hg7 (fun i hi => by have := HR5.out.lt i hi; omega)).set_ (by omega) (by omega) _ _).more (by omega))
              · exact set_ne (grown_blk hg7 (heap_old (HON5.out.blk HI.out.res (by omega))) (by intro e; have := (HR5.out.lt _ e).1; omega)) (by omega)
              · exact set_ne (grown_blk hg7 (heap_old HN5.out) HI.out.nmo) (by omega)
              · intro e
                rcases hat7 with h | h
                · exact HI.out.nmo (h.symm.trans e)
                · rw [h] at e
                  injection e with e
                  have := heap_lt HN5.out
                  simp at e
                  omega
          · have hn4i : decide ((n : Int) < 4) = false := by simp; omega
            have hn4n : decide (n < 4) = false := by simp; omega
            go_wp2_with fail
            refine wp_region_head 4 (by kernel_rfl) (by kernel_rfl) ?_
            simp only [List.take_succ_cons, List.take_zero, List.drop_succ_cons, List.drop_zero]
            refine wpHead_step (fun K hK => ?_); go_simp; refine hK _ _ ?_; clear hK K
            refine wpHead_step (fun K hK => ?_); go_simp
            refine HPK.out.mono ?_
            rintro e w3 ⟨rfl, hd3, hon3⟩
            have hon3' : On g wo w3 := (On.refl g wo).drew.trans hon3
            obtain ⟨e1, e2, e3⟩ := HCS.out w3 hon3'
            refine hK _ _ ?_; clear hK K
            refine wpHead_step (fun K hK => ?_); go_simp; refine hK _ _ ?_; clear hK K
            refine wpHead_step (fun K hK => ?_); go_simp; refine hK _ _ ?_; clear hK K
            refine wpHead_nil ?_
            repeat (go_big_quiet_step (fail))
            refine wpQuiet_nil ?_
            intro _ hw'
            obtain ⟨mq, rfl⟩ := hw'
            go_wp2_with fail
            go_roundw
            case rel => exact ⟨k + 1, n, A, c, ys, by omega, by go_num, by have := HI.out.kn; omega, HI.out.ok, row_on HI.out.row (hon3'.drewN mq) (by omega), (((HI.out.dr.trans (hd3)).drewN mq).more (by omega)), (hon3'.drewN mq).blk HI.out.res (by omega), (hon3'.drewN mq).blk HI.out.box (by omega), (hon3'.drewN mq).blk HI.out.nms (by omega), HI.out.nmo, HI.out.fw, HI.out.nw⟩
            case measure => simp [intOf]; omega
      · have hz2 : (x == 0) = false := by rw [beq_eq_false_iff_ne]; exact hx
        go_wp2_with fail
        refine wp_region_head 4 (by kernel_rfl) (by kernel_rfl) ?_
        simp only [List.take_succ_cons, List.take_zero, List.drop_succ_cons, List.drop_zero]
        refine wpHead_step (fun K hK => ?_); go_simp; refine hK _ _ ?_; clear hK K
        refine wpHead_step (fun K hK => ?_); go_simp
        refine HPK.out.mono ?_
        rintro e w3 ⟨rfl, hd3, hon3⟩
        have hon3' : On g wo w3 := (On.refl g wo).drew.trans hon3
        obtain ⟨e1, e2, e3⟩ := HCS.out w3 hon3'
        refine hK _ _ ?_; clear hK K
        refine wpHead_step (fun K hK => ?_); go_simp; refine hK _ _ ?_; clear hK K
        refine wpHead_step (fun K hK => ?_); go_simp; refine hK _ _ ?_; clear hK K
        refine wpHead_nil ?_
        repeat (go_big_quiet_step (fail))
        refine wpQuiet_nil ?_
        intro _ hw'
        obtain ⟨mq, rfl⟩ := hw'
        go_wp2_with fail
        go_roundw
        case rel => exact ⟨k + 1, n, A, c, ys, by omega, by go_num, by have := HI.out.kn; omega, HI.out.ok, row_on HI.out.row (hon3'.drewN mq) (by omega), (((HI.out.dr.trans (hd3)).drewN mq).more (by omega)), (hon3'.drewN mq).blk HI.out.res (by omega), (hon3'.drewN mq).blk HI.out.box (by omega), (hon3'.drewN mq).blk HI.out.nms (by omega), HI.out.nmo, HI.out.fw, HI.out.nw⟩
        case measure => simp [intOf]; omega
    · have hn6 : n ≤ 6 := by have := HI.out.kn; omega
      have HLY := Lib.hid HI.out.len
      have hnc := own_le HI.out.row
      obtain ⟨A0, c0, e0, hys⟩ := own_str HI.out.row
      injection e0 with e0 _ e0'
      subst e0; subst e0'
      have HYS := Lib.hid hys; clear hys
      go_wp2_with fail
      refine (pick wo g _ _ _ HI.out.dr.here (by omega) (by omega)).mono ?_
      rintro e w3 ⟨x, rfl, hx0, hx1, hx2, hd3, hon3⟩
      clear hx1 hx2
      have HD3 := Lib.hid (HI.out.dr.trans hd3)
      have HB3 := Lib.hid (hon3.blk HI.out.box (by omega))
      have HR3 := Lib.hid (hon3.blk HI.out.res (by omega))
      have HYS3 := Lib.hid (HYS.out.on hon3 (by omega))
      clear hd3 hon3
      have m1 := (blk_cl (k := 1) HB3.out rfl).1
      have m1f := (blk_cl (k := 1) HB3.out rfl).2
      have m0 := (blk_cl (k := 0) HB3.out rfl).1
      have hF3 := heap_lt HB3.out
      have hgF : g < w2.heap.size := by omega
      have hFR : w.heap.size ≠ w2.heap.size := by omega
      have HOKY := Lib.hid HI.out.ok
      clear HI HYS
      by_cases h0 : x = 0
      · subst h0
        have HSL := lit_str (w := w3.setCell ⟨w2.heap.size, 1, none⟩ (.slice (some ⟨w3.heap.size, 0, none⟩) 2 2)) (e := 9) (cs := #[.string ⟨#[98]⟩, .string ⟨#[97]⟩]) [⟨#[98]⟩, ⟨#[97]⟩] 2 rfl rfl
        rw [sz_set] at HSL
        have HSL := Lib.hid (HSL.lower (show w.heap.size + 1 ≤ w3.heap.size by omega))
        have HB6 := Lib.hid (heap_old (o := (.cells #[.string ⟨#[98]⟩, .string ⟨#[97]⟩] 9)) (set31 (u := (.slice (some ⟨w3.heap.size, 0, none⟩) 2 2)) HB3.out))
        have HR6 := Lib.hid (heap_old (o := (.cells #[.string ⟨#[98]⟩, .string ⟨#[97]⟩] 9)) (set_ne (b := w2.heap.size) (o := 1) (u := (.slice (some ⟨w3.heap.size, 0, none⟩) 2 2)) HR3.out hFR))
        have a0 := (blk_cl (k := 0) HB6.out rfl).1
        have a1 := (blk_cl (k := 1) HB6.out rfl).1
        have a2 := (blk_cl (k := 2) HB6.out rfl).1
        have r0a := (blk_cl (k := 0) HR6.out rfl).1
        have r0b := (blk_cl (k := 0) HR6.out rfl).2
        have r1a := (blk_cl (k := 1) HR6.out rfl).1
        have r1b := (blk_cl (k := 1) HR6.out rfl).2
        have r2a := (blk_cl (k := 2) HR6.out rfl).1
        have r2b := (blk_cl (k := 2) HR6.out rfl).2
        go_wp2_with fail
        have hres := set3 (u0 := .string s) (u1 := (.slice (some ⟨w3.heap.size, 0, none⟩) 2 2)) (u2 := .bool (decide (0 < v))) HR6.out
        have p0 := (blk_cl (k := 0) hres rfl).1
        have p1 := (blk_cl (k := 1) hres rfl).1
        have p2 := (blk_cl (k := 2) hres rfl).1
        have hdr := (((HD3.out.set_ (b := w2.heap.size) (by omega) hgF 1 (.slice (some ⟨w3.heap.size, 0, none⟩) 2 2)).alloc (.cells #[.string ⟨#[98]⟩, .string ⟨#[97]⟩] 9)).set3 (u0 := .string s) (u1 := (.slice (some ⟨w3.heap.size, 0, none⟩) 2 2)) (u2 := .bool (decide (0 < v))) (Nat.le_refl _) hgl)
        exact bodyPost_ret (v := .agg #[.string s, (.slice (some ⟨w3.heap.size, 0, none⟩) 2 2), .bool (decide (0 < v))]) (by simp [results, Try.results60, go_sem, p0, p1, p2]) rfl ⟨⟨s, [⟨#[98]⟩, ⟨#[97]⟩], decide (0 < v)⟩, _, _, _, rfl, (((HSL.out.setLow (Nat.lt_succ_self _)).setLow (Nat.lt_succ_self _)).setLow (Nat.lt_succ_self _)).lower (Nat.le_succ _), ⟨by unfold maxLen; show s.size ≤ _; omega, okS_all (by intro x hx; simp at hx; first | (rcases hx with rfl | rfl | rfl | rfl | rfl <;> decide) | (rcases hx with rfl | rfl <;> decide) | (subst hx; omega)) (by simp)⟩, by omega, by omega, (HD.out.trans hdr).more (by omega), hdr.on⟩
      by_cases h1 : x = 1
      · subst h1
        have HSL := lit_str (w := w3.setCell ⟨w2.heap.size, 1, none⟩ (.slice (some ⟨w3.heap.size, 0, none⟩) 5 5)) (e := 9) (cs := #[.string ⟨#[97]⟩, .string ⟨#[98]⟩, .string ⟨#[99]⟩, .string ⟨#[100]⟩, .string ⟨#[101]⟩]) [⟨#[97]⟩, ⟨#[98]⟩, ⟨#[99]⟩, ⟨#[100]⟩, ⟨#[101]⟩] 5 rfl rfl
        rw [sz_set] at HSL
        have HSL := Lib.hid (HSL.lower (show w.heap.size + 1 ≤ w3.heap.size by omega))
        have HB6 := Lib.hid (heap_old (o := (.cells #[.string ⟨#[97]⟩, .string ⟨#[98]⟩, .string ⟨#[99]⟩, .string ⟨#[100]⟩, .string ⟨#[101]⟩] 9)) (set31 (u := (.slice (some ⟨w3.heap.size, 0, none⟩) 5 5)) HB3.out))
        have HR6 := Lib.hid (heap_old (o := (.cells #[.string ⟨#[97]⟩, .string ⟨#[98]⟩, .string ⟨#[99]⟩, .string ⟨#[100]⟩, .string ⟨#[101]⟩] 9)) (set_ne (b := w2.heap.size) (o := 1) (u := (.slice (some ⟨w3.heap.size, 0, none⟩) 5 5)) HR3.out hFR))
        have a0 := (blk_cl (k := 0) HB6.out rfl).1
        have a1 := (blk_cl (k := 1) HB6.out rfl).1
        have a2 := (blk_cl (k := 2) HB6.out rfl).1
        have r0a := (blk_cl (k := 0) HR6.out rfl).1
        have r0b := (blk_cl (k := 0) HR6.out rfl).2
        have r1a := (blk_cl (k := 1) HR6.out rfl).1
        have r1b := (blk_cl (k := 1) HR6.out rfl).2
        have r2a := (blk_cl (k := 2) HR6.out rfl).1
        have r2b := (blk_cl (k := 2) HR6.out rfl).2
        go_wp2_with fail
        have hres := set3 (u0 := .string s) (u1 := (.slice (some ⟨w3.heap.size, 0, none⟩) 5 5)) (u2 := .bool (decide (0 < v))) HR6.out
        have p0 := (blk_cl (k := 0) hres rfl).1
        have p1 := (blk_cl (k := 1) hres rfl).1
        have p2 := (blk_cl (k := 2) hres rfl).1
        have hdr := (((HD3.out.set_ (b := w2.heap.size) (by omega) hgF 1 (.slice (some ⟨w3.heap.size, 0, none⟩) 5 5)).alloc (.cells #[.string ⟨#[97]⟩, .string ⟨#[98]⟩, .string ⟨#[99]⟩, .string ⟨#[100]⟩, .string ⟨#[101]⟩] 9)).set3 (u0 := .string s) (u1 := (.slice (some ⟨w3.heap.size, 0, none⟩) 5 5)) (u2 := .bool (decide (0 < v))) (Nat.le_refl _) hgl)
        exact bodyPost_ret (v := .agg #[.string s, (.slice (some ⟨w3.heap.size, 0, none⟩) 5 5), .bool (decide (0 < v))]) (by simp [results, Try.results60, go_sem, p0, p1, p2]) rfl ⟨⟨s, [⟨#[97]⟩, ⟨#[98]⟩, ⟨#[99]⟩, ⟨#[100]⟩, ⟨#[101]⟩], decide (0 < v)⟩, _, _, _, rfl, (((HSL.out.setLow (Nat.lt_succ_self _)).setLow (Nat.lt_succ_self _)).setLow (Nat.lt_succ_self _)).lower (Nat.le_succ _), ⟨by unfold maxLen; show s.size ≤ _; omega, okS_all (by intro x hx; simp at hx; first | (rcases hx with rfl | rfl | rfl | rfl | rfl <;> decide) | (rcases hx with rfl | rfl <;> decide) | (subst hx; omega)) (by simp)⟩, by omega, by omega, (HD.out.trans hdr).more (by omega), hdr.on⟩
      by_cases h2 : x = 2
      · subst h2
        have HSL := lit_str (w := w3.setCell ⟨w2.heap.size, 1, none⟩ (.slice (some ⟨w3.heap.size, 0, none⟩) 1 1)) (e := 9) (cs := #[.string s]) [s] 1 rfl rfl
        rw [sz_set] at HSL
        have HSL := Lib.hid (HSL.lower (show w.heap.size + 1 ≤ w3.heap.size by omega))
        have HB6 := Lib.hid (heap_old (o := (.cells #[.string s] 9)) (set31 (u := (.slice (some ⟨w3.heap.size, 0, none⟩) 1 1)) HB3.out))
        have HR6 := Lib.hid (heap_old (o := (.cells #[.string s] 9)) (set_ne (b := w2.heap.size) (o := 1) (u := (.slice (some ⟨w3.heap.size, 0, none⟩) 1 1)) HR3.out hFR))
        have a0 := (blk_cl (k := 0) HB6.out rfl).1
        have a1 := (blk_cl (k := 1) HB6.out rfl).1
        have a2 := (blk_cl (k := 2) HB6.out rfl).1
        have r0a := (blk_cl (k := 0) HR6.out rfl).1
        have r0b := (blk_cl (k := 0) HR6.out rfl).2
        have r1a := (blk_cl (k := 1) HR6.out rfl).1
        have r1b := (blk_cl (k := 1) HR6.out rfl).2
        have r2a := (blk_cl (k := 2) HR6.out rfl).1
        have r2b := (blk_cl (k := 2) HR6.out rfl).2
        go_wp2_with fail
        have hres := set3 (u0 := .string s) (u1 := (.slice (some ⟨w3.heap.size, 0, none⟩) 1 1)) (u2 := .bool (decide (0 < v))) HR6.out
        have p0 := (blk_cl (k := 0) hres rfl).1
        have p1 := (blk_cl (k := 1) hres rfl).1
        have p2 := (blk_cl (k := 2) hres rfl).1
        have hdr := (((HD3.out.set_ (b := w2.heap.size) (by omega) hgF 1 (.slice (some ⟨w3.heap.size, 0, none⟩) 1 1)).alloc (.cells #[.string s] 9)).set3 (u0 := .string s) (u1 := (.slice (some ⟨w3.heap.size, 0, none⟩) 1 1)) (u2 := .bool (decide (0 < v))) (Nat.le_refl _) hgl)
        exact bodyPost_ret (v := .agg #[.string s, (.slice (some ⟨w3.heap.size, 0, none⟩) 1 1), .bool (decide (0 < v))]) (by simp [results, Try.results60, go_sem, p0, p1, p2]) rfl ⟨⟨s, [s], decide (0 < v)⟩, _, _, _, rfl, (((HSL.out.setLow (Nat.lt_succ_self _)).setLow (Nat.lt_succ_self _)).setLow (Nat.lt_succ_self _)).lower (Nat.le_succ _), ⟨by unfold maxLen; show s.size ≤ _; omega, okS_all (by intro x hx; simp at hx; first | (rcases hx with rfl | rfl | rfl | rfl | rfl <;> decide) | (rcases hx with rfl | rfl <;> decide) | (subst hx; omega)) (by simp)⟩, by omega, by omega, (HD.out.trans hdr).more (by omega), hdr.on⟩
      have q0 : (x == 0) = false := by rw [beq_eq_false_iff_ne]; exact h0
      have q1 : (x == 1) = false := by rw [beq_eq_false_iff_ne]; exact h1
      have q2 : (x == 2) = false := by rw [beq_eq_false_iff_ne]; exact h2
      have a2 := (blk_cl (k := 2) HB3.out rfl).1
      have r0a := (blk_cl (k := 0) HR3.out rfl).1
      have r0b := (blk_cl (k := 0) HR3.out rfl).2
      have r1a := (blk_cl (k := 1) HR3.out rfl).1
      have r1b := (blk_cl (k := 1) HR3.out rfl).2
      have r2a := (blk_cl (k := 2) HR3.out rfl).1
      have r2b := (blk_cl (k := 2) HR3.out rfl).2
      go_wp2_with fail
      have hres := set3 (u0 := .string s) (u1 := .slice A n c) (u2 := .bool (decide (0 < v))) HR3.out
      have p0 := (blk_cl (k := 0) hres rfl).1
      have p1 := (blk_cl (k := 1) hres rfl).1
      have p2 := (blk_cl (k := 2) hres rfl).1
      have hdr := HD3.out.set3 (u0 := .string s) (u1 := .slice A n c) (u2 := .bool (decide (0 < v))) (Nat.le_refl _) hgl
      exact bodyPost_ret (v := .agg #[.string s, .slice A n c, .bool (decide (0 < v))]) (by simp [results, Try.results60, go_sem, p0, p1, p2]) rfl ⟨⟨s, ys, decide (0 < v)⟩, _, _, _, rfl, (((HYS3.out.setLow (Nat.lt_succ_self _)).setLow (Nat.lt_succ_self _)).setLow (Nat.lt_succ_self _)).lower (Nat.le_succ _), ⟨by unfold maxLen; show s.size ≤ _; omega, HOKY.out⟩, hn6, hnc, (HD.out.trans hdr).more (by omega), hdr.on⟩
end Go.Proofs.Ytnlibaoegfdoeaa
