/- Drawing flows: some flow. -/
import Derived.Test.YtnlibaoegfdoeaaS1
import Derived.Test.YtnlibaoegfdoeaaD2
import Derived.Deep.RegionLaw
namespace Go.Proofs.Ytnlibaoegfdoeaa
open Go.RowKit

def nmF : Array Value := #[.string ⟨#[97]⟩, .string ⟨#[98]⟩, .string ⟨#[99]⟩, .string ⟨#[100]⟩, .string ⟨#[101]⟩, .string ⟨#[102]⟩]
theorem nmF_at (k : Nat) (hk : k < 6) : ∃ s : Str, nmF[k]? = some (.string s) ∧ s.size ≤ 5 := by
  match k, hk with
  | 0, _ => exact ⟨⟨#[97]⟩, rfl, by decide⟩
  | 1, _ => exact ⟨⟨#[98]⟩, rfl, by decide⟩
  | 2, _ => exact ⟨⟨#[99]⟩, rfl, by decide⟩
  | 3, _ => exact ⟨⟨#[100]⟩, rfl, by decide⟩
  | 4, _ => exact ⟨⟨#[101]⟩, rfl, by decide⟩
  | 5, _ => exact ⟨⟨#[102]⟩, rfl, by decide⟩

/-- What drawing a flow leaves. -/
def FlowQ (w0 : World) (g q : Nat) (w : World) (e : Ending) (w' : World) : Prop :=
  ∃ (v : Int) (A : Option Addr) (n c : Nat) (ss : List Step), e = .returned (.agg #[.int .i64 v, .slice A n c]) ∧ RStep w' w.heap.size A n ss ∧ okSteps ss ∧ 1 ≤ n ∧ n ≤ 6 ∧ Dr 86 w0 g (q + 100) w' ∧ On g w w'

/-- The head of the outer loop. -/
structure FlowI (w : World) (g q F N : Nat) (ver : Int) (wr : World) (k n : Nat) (A : Option Addr) (c : Nat) (ss : List Step) : Prop where
  kn : n ≤ k
  pos : 0 < k → 0 < n
  ok : okSteps ss
  row : SRow wr (w.heap.size + 1) (.slice A n c) n ss
  dr : Dr 86 w g (q + 10 + 10 * k) wr
  res : wr.heap[w.heap.size]? = some (.cells #[.int .i64 0, .slice none 0 0] 57 (0, 0))
  box : wr.heap[F]? = some (.cells #[.int .i64 ver, .slice A n c] 57 (0, 0))
  nms : wr.heap[N]? = some (.cells nmF 9 (0, 0))
  fw : w.heap.size < F
  nw : w.heap.size < N

/-- The head of the inner loop. -/
structure FlowJ (w2 : World) (g q b : Nat) (s : Str) (u : Bool) (wj : World) (m : Nat) (A : Option Addr) (c : Nat) (ys : List Str) : Prop where
  ok : okS ys
  row : wj.ownsRow w2.heap.size 9 1 (.slice A m c) m (ys.map Value.string)
  dr : Dr 86 w2 g q wj
  box : wj.heap[b]? = some (.cells #[.string s, .slice A m c, .bool u] 47 (0, 0))
theorem FlowJ.len {w2 : World} {g q b : Nat} {s : Str} {u : Bool} {wj : World} {m : Nat} {A : Option Addr} {c : Nat} {ys : List Str} (h : FlowJ w2 g q b s u wj m A c ys) : ys.length = m := by
  have := h.row.1; simpa using this

set_option maxRecDepth 100000 in
set_option maxHeartbeats 4000000 in
theorem l91Flow_any (w0 : World) (g q : Nat) (w : World) (h : Dr 86 w0 g q w) (hq : q ≤ 1099511620000) :
    Calls Try.prog 67 #[.pointer (some ⟨g, 0, none⟩)] w (FlowQ w0 g q w) := by
  have HD := Lib.hid h; clear h
  have hgl := HD.out.lt
  have hd0 := HD.out.here.alloc (.cells #[.int .i64 0, .slice none 0 0] 57)
  go_enter Try.func67, Try.ntmps67
  go_wp2_with fail
  refine (pick w g _ _ _ hd0 (by omega) (by omega)).mono ?_
  rintro e w1 ⟨v, rfl, hv0, hv1, hv2, hd1, hon⟩
  have hv5 : v < 5 := hv1 (by omega)
  clear hv1 hv2 hd0
  have HRES := Lib.hid (hon.blk (b := w.heap.size) (heap_new rfl) (by omega))
  have hs1 := hon.size
  rw [show (w.alloc (.cells #[.int .i64 0, .slice none 0 0] 57)).heap.size = w.heap.size + 1 by simp] at hs1
  have HD1 := Lib.hid hd1; clear hd1 hon
  go_wp2_with fail
  go_loopw [5] (fun i wr => ∃ k n : Nat, ∃ (A : Option Addr) (c : Nat) (ss : List Step), k ≤ 6 ∧ i = .int .i64 k ∧ FlowI w g q (w1.heap.size + 1) (w1.heap.size + 1 + 1) (1 + v) wr k n A c ss) (fun i _ => 6 - (intOf i).toNat)
  case atStart =>
    refine ⟨0, 0, some ⟨w1.heap.size, 0, none⟩, 0, [], by omega, rfl, Nat.le_refl _, fun h => absurd h (by omega), okSteps_nil, ?_, ?_, ?_, ?_, ?_, by omega, by omega⟩
    · exact ((SRow.made (show w.heap.size + 1 ≤ w1.heap.size by omega) rfl).below ((Below.refl _ _).alloc (Nat.le_refl _) _)).below ((Below.refl _ _).alloc (Nat.le_refl _) _)
    · exact (((HD1.out.alloc _).alloc _).alloc _).more (by omega)
    · exact heap_old (heap_old (heap_old HRES.out))
    · exact heap_old (heap_new (by simp))
    · exact heap_new (by simp)
  case round =>
    obtain ⟨wo, rfl⟩ : ∃ wo : World, wo = wr := ⟨_, rfl⟩
    obtain ⟨k, n, A, c, ss, hk, rfl, hI⟩ := hrel
    have HI := Lib.hid hI; clear hI
    have hd0 := HI.out.dr.here
    have hlN := heap_lt HI.out.nms
    have hlF := heap_lt HI.out.box
    by_cases hlt : k < 6
    · obtain ⟨s, hs1, hs2⟩ := nmF_at k hlt
      have c1 := (blk_cl HI.out.nms hs1).1
      clear hs1
      go_wp2_with fail
      refine (pick wo g _ _ _ hd0 (by omega) (by omega)).mono ?_
      rintro e w2 ⟨p, rfl, hp0, hp1, hp2, hd2, hon2⟩
      clear hp1 hp2
      have c2 := (hon2.cell (o := k) hlN (by omega)).trans c1
      clear c1
      have HD2 := Lib.hid hd2; clear hd2
      have HON2 := Lib.hid hon2; clear hon2
      by_cases hskip : p < 1 ∧ 0 < k
      · obtain ⟨h1, h2⟩ := hskip
        have h3 : ((k : Int) == 0) = false := by rw [beq_eq_false_iff_ne]; omega
        go_wp2_with fail
        go_roundw
        case rel =>
          exact ⟨k + 1, n, A, c, ss, by omega, by go_num, by have := HI.out.kn; omega, fun _ => HI.out.pos h2, HI.out.ok, HI.out.row.on HON2.out (by omega), (HI.out.dr.trans HD2.out).more (by omega), HON2.out.blk HI.out.res (by omega), HON2.out.blk HI.out.box (by have := HI.out.fw; omega), HON2.out.blk HI.out.nms (by have := HI.out.nw; omega), HI.out.fw, HI.out.nw⟩
        case measure => simp [intOf]; omega
      · have hyes : 0 < p ∨ (p < 1 ∧ ((k : Int) == 0) = true) := by
          rcases Int.lt_or_le 0 p with h | h
          · exact .inl h
          · refine .inr ⟨by omega, ?_⟩
            rw [beq_iff_eq]; omega
        clear hskip
        have hd3 := HD2.out.here
        have hlN2 : w1.heap.size + 1 + 1 < w2.heap.size := by have := HON2.out.size; omega
        have HSB : Hid (∀ w', On g w2 w' → w'.cell? ⟨w1.heap.size + 1 + 1, k, none⟩ = some (.string s) ∧ On g w2 w') := fun w' h => ⟨(h.cell hlN2 (by omega)).trans c2, h⟩
        have hg0 : g < w2.heap.size := by have := HON2.out.size; omega
        have hg1 : g < w2.heap.size + 1 := by omega
        have hne0 : w2.heap.size ≠ g := by have := HON2.out.size; omega
        have hne1 : w2.heap.size + 1 ≠ g := by have := HON2.out.size; omega
        rcases hyes with hp | ⟨hp, hk0⟩
        all_goals
          go_upto_region 7 with fail
          go_cut [6] (fun s6 wx => ∃ (b bA : Nat) (u : Bool), s6 = .pointer (some ⟨b, 0, none⟩) ∧ wx.heap[b]? = some (.cells #[.string s, .slice (some ⟨bA, 0, none⟩) 0 0, .bool u] 47 (0, 0)) ∧ wx.heap[bA]? = some (.cells #[] 9 (0, 0)) ∧ w2.heap.size ≤ b ∧ w2.heap.size ≤ bA ∧ Dr 86 w2 g (q + 10 + 10 * k + 2) wx)
          case first =>
           go_region_held3 (fun w' => w'.cell? ⟨w1.heap.size + 1 + 1, k, none⟩ = some (.string s) ∧ On g w2 w')
            ((refine HSB.out _ ?_; (repeat (first | with_reducible exact On.refl _ _ | exact hd4.on | refine On.setNew ?_ (by first | exact Nat.le_refl _ | exact Nat.le_succ _ | (simp; done) | omega) _ _ | refine On.drew ?_ | refine On.alloc ?_ _ | fail "x")); done))
            (first | (go_at_call 77; refine (pick w2 g _ _ _ (by repeat (first | with_reducible exact hd3 | apply Dr.drew | apply Dr.alloc)) (by omega) (by omega)).mono ?_; rintro e w3 ⟨v1, rfl, hv3, hv4, hv5, hd4, hon⟩; (first | (have hb1 := hon.blk (b := w2.heap.size + 1) (x := .cells #[.string ⟨#[]⟩, .slice none 0 0, .bool false] 47 (0, 0)) (heap_new (Array.size_push _).symm) hne1; obtain ⟨x0, y0⟩ := blk_cl (k := 0) hb1 rfl; obtain ⟨x1, y1⟩ := blk_cl (k := 1) hb1 rfl; obtain ⟨x2, y2⟩ := blk_cl (k := 2) hb1 rfl; have hz := heap_lt hb1) | (have hb1 := hon.blk (b := w2.heap.size) (x := .cells #[.string ⟨#[]⟩, .slice none 0 0, .bool false] 47 (0, 0)) (heap_new rfl) hne0; obtain ⟨x0, y0⟩ := blk_cl (k := 0) hb1 rfl; obtain ⟨x1, y1⟩ := blk_cl (k := 1) hb1 rfl; obtain ⟨x2, y2⟩ := blk_cl (k := 2) hb1 rfl; have hz := heap_lt hb1) | (have hb1 := hon.blk (b := w2.heap.size) (x := .cells #[.string ⟨#[]⟩, .slice none 0 0, .bool false] 47 (0, 0)) (heap_old (heap_new rfl)) hne0; obtain ⟨x0, y0⟩ := blk_cl (k := 0) hb1 rfl; obtain ⟨x1, y1⟩ := blk_cl (k := 1) hb1 rfl; obtain ⟨x2, y2⟩ := blk_cl (k := 2) hb1 rfl; have hz := heap_lt hb1) | skip)) | fail "no arm")
           all_goals
             go_wp2_with fail
             go_meet
             have hs4 := hd4.on.size
             have ht := Nat.le_trans hs4 (Nat.le_succ _)
             have hm : q + 10 + 10 * k + 1 + 1 ≤ q + 10 + 10 * k + 2 := Nat.le_refl _
             first
               | with_reducible exact ⟨_, _, _, rfl, heap_new rfl, heap_old (hon.blk (heap_new rfl) hne0), hs4, Nat.le_refl _, (hd4.alloc _).more hm⟩
               | with_reducible exact ⟨_, _, _, rfl, heap_new (sz_push _ _), heap_old (heap_new rfl), ht, hs4, ((hd4.alloc _).alloc _).more hm⟩
               | with_reducible exact ⟨_, _, _, rfl, heap_old (heap_new rfl), heap_new (sz_push _ _), hs4, ht, ((hd4.alloc _).alloc _).more hm⟩
               | with_reducible exact ⟨_, _, _, rfl, set3 hb1, set3_ne (hon.blk (heap_old (heap_new rfl)) hne0) (Nat.ne_of_lt (Nat.lt_succ_self _)), Nat.le_succ _, Nat.le_refl _, (hd4.set3 (Nat.le_succ _) hg1).more hm⟩
               | with_reducible exact ⟨_, _, _, rfl, set3 hb1, set3_ne (hon.blk (heap_new (sz_push _ _)) hne1) (Nat.ne_of_gt (Nat.lt_succ_self _)), Nat.le_refl _, Nat.le_succ _, (hd4.set3 (Nat.le_refl _) hg0).more hm⟩
               | with_reducible exact ⟨_, _, _, rfl, heap_old (set3 hb1), heap_new (sz_set3 _ _ _ _ _), Nat.le_refl _, hs4, ((hd4.set3 (Nat.le_refl _) hg0).alloc _).more hm⟩
          case rest =>
           obtain ⟨b, bA, u, rfl, hb, hbA, le1, le2, hdc⟩ := hcut
           have HB := Lib.hid hb; clear hb
           have HBA := Lib.hid hbA; clear hbA
           have HDC := Lib.hid hdc; clear hdc
           have HBL := Lib.hid (heap_lt HBA.out)
           have HROW := Lib.hid (show wc.ownsRow w2.heap.size 9 1 (.slice (some ⟨bA, 0, none⟩) 0 0) 0 (([] : List Str).map Value.string) from ⟨rfl, .inr ⟨bA, 0, #[], rfl, le2, HBA.out, by omega, by unfold maxLen; omega, by simp, by simp⟩⟩)
           have hn6 : n ≤ 6 := by have := HI.out.kn; omega
           have HFw := Lib.hid (fun wj (h : Dr 86 w2 g (q + 10 + 10 * k + 2 + 6) wj) => h.on.blk (HON2.out.blk HI.out.box (by have := HI.out.fw; omega)) (by have := HI.out.fw; omega))
           have HRS := Lib.hid (HI.out.row.on HON2.out (by omega))
           go_wp2_with fail
           go_loopw [7] (fun i wj => ∃ (j m : Nat) (A2 : Option Addr) (c2 : Nat) (ys : List Str), j ≤ n ∧ i = .int .i64 j ∧ m ≤ j ∧ FlowJ w2 g (q + 10 + 10 * k + 2 + j) b s u wj m A2 c2 ys) (fun i _ => n - (intOf i).toNat)
           case atStart => exact ⟨0, 0, _, _, [], Nat.zero_le _, rfl, Nat.le_refl _, okS_nil, HROW.out, HDC.out, HB.out⟩
           case round =>
            obtain ⟨j, m, A2, c2, ys, hj, rfl, hmj, hJ⟩ := hrel
            have HJ := Lib.hid hJ; clear hJ
            have HF := Lib.hid (HFw.out wr (HJ.out.dr.more (by omega)))
            have f1 := (blk_cl (k := 1) HF.out rfl).1
            by_cases hlt2 : j < n
            · obtain ⟨A0, c0, e0, hst⟩ := (HRS.out.on HJ.out.dr.on (by have := HON2.out.size; omega)).hat
              injection e0 with e0 _ e0'
              subst e0; subst e0'
              obtain ⟨bs, os, rfl, ⟨_, hbs⟩, hcs⟩ := RStep.at_ hst hlt2
              obtain ⟨A', n', c', ⟨s1, _, _⟩, _, _⟩ := hcs j hlt2
              clear hcs hst
              have HSZ := Lib.hid (show (nth ss j).name.size ≤ maxLen from (HI.out.ok.2 j (by have := HRS.out.len; omega)).1)
              have hd5 := HJ.out.dr.here
              have b1 := (blk_cl (k := 1) HJ.out.box rfl).1
              have hlF2 := heap_lt HF.out
              have hlB2 := heap_lt HJ.out.box
              go_wp2_with fail
              refine (pick wr g _ _ _ hd5 (by omega) (by omega)).mono ?_
              rintro e w5 ⟨x, rfl, hx0, hx1, hx2, hd6, hon6⟩
              clear hx1 hx2 hd5
              have hbg : b ≠ g := by omega
              have HD6 := Lib.hid hd6; clear hd6
              have HON6 := Lib.hid hon6; clear hon6
              have HB6 := Lib.hid (HON6.out.blk HJ.out.box hbg)
              have HF6 := Lib.hid (HON6.out.blk HF.out (by have := HI.out.fw; omega))
              have HR6 := Lib.hid (row_on HJ.out.row HON6.out (by omega))
              have HS6 := Lib.hid ((HON6.out.cell (o := os + j * 3) hbs (by have := HI.out.row; have := HON2.out.size; have h3 := HRS.out.lt (b := bs) rfl; omega)).trans s1)
              clear b1 f1 s1
              have b1 := (blk_cl (k := 1) HB6.out rfl).1
              have f1 := (blk_cl (k := 1) HF6.out rfl).1
              have s1 := HS6.out
              by_cases hx : x = 0
              · subst hx
                by_cases hm4 : m < 4
                · have hok6 := HJ.out.ok
                  have hl6 := HJ.out.len
                  have hbase : w2.heap.size ≤ w5.heap.size := by have := HON6.out.size; have := HJ.out.dr.on.size; omega
                  have HNB := Lib.hid (row_ne HR6.out HB6.out (by decide))
                  have HNF := Lib.hid (row_ne HR6.out HF6.out (by decide))
                  have b1a := fun o => (World.cell?_alloc_some w5 _ o (by rw [b1]; rfl)).trans b1
                  have f1a := fun o => (World.cell?_alloc_some w5 _ o (by rw [f1]; rfl)).trans f1
                  have s1a := fun o => (World.cell?_alloc_some w5 _ o (by rw [s1]; rfl)).trans s1
                  have HL6 := Lib.hid hl6; clear hl6
                  have HO6 := Lib.hid hok6; clear hok6
                  go_wp2_with fail
                  go_region_law (first | (refine strapp_step (o := ⟨some 61, _, _, _, _, _⟩) w2.heap.size _ m ys _ (nth ss j).name (by exact HR6.out.alloc _) (by rfl) (.tmp 53) (.tmp 60) (by rfl) (by rfl) (by rfl) (by exact heap_new rfl) (by omega) (by simp; omega) ?_; intro v7 w7 how7 hg7 hat7; obtain ⟨A7, c7, rfl, hsr7⟩ := own_sstr how7; have hb7 := grown_blk hg7 (heap_old HB6.out) HNB.out; have z1 := (blk_cl (k := 1) hb7 rfl).1; have z2 := (blk_cl (k := 1) hb7 rfl).2) | fail "no arm")
                  all_goals go_wp2_with fail
                  all_goals exact ⟨⟨j + 1, m + 1, A7, c7, ys ++ [(nth ss j).name], by omega, by go_num, by omega, okS_app HO6.out (by rw [HL6.out]; omega) HSZ.out, row_set how7 hb7 (by decide),
                    ((((((HJ.out.dr.trans HD6.out).alloc _).drew).grown hg7 (fun k hk => by have := HR6.out.lt k hk; omega)).set_ le1 (by omega) _ _).more (by omega)), set31 hb7⟩, by simp [intOf]; omega⟩
                · go_wp2_with fail
                  go_roundw
                  case rel => exact ⟨j + 1, m, A2, c2, ys, by omega, by go_num, by omega, HJ.out.ok, HR6.out, (HJ.out.dr.trans HD6.out).more (by omega), HB6.out⟩
                  case measure => simp [intOf]; omega
              · have hz2 : (x == 0) = false := by rw [beq_eq_false_iff_ne]; exact hx
                go_wp2_with fail
                go_roundw
                case rel => exact ⟨j + 1, m, A2, c2, ys, by omega, by go_num, by omega, HJ.out.ok, HR6.out, (HJ.out.dr.trans HD6.out).more (by omega), HB6.out⟩
                case measure => simp [intOf]; omega
            · have HDR := Lib.hid HJ.out.dr
              have HLY := Lib.hid HJ.out.len
              have hson := HON2.out.size
              have hdon := HDR.out.on.size
              have hm6 : m ≤ 6 := by omega
              have HRJ := Lib.hid (HRS.out.on HDR.out.on (by omega))
              obtain ⟨A3, c3, e3, hss⟩ := own_sstr HJ.out.row
              injection e3 with e3 _ e3'
              subst e3; subst e3'
              have HSS := Lib.hid (hss.mono (show w.heap.size + 1 ≤ w2.heap.size by have := HI.out.fw; omega)); clear hss
              have b0 := (blk_cl (k := 0) HJ.out.box rfl).1
              have b1 := (blk_cl (k := 1) HJ.out.box rfl).1
              have b2 := (blk_cl (k := 2) HJ.out.box rfl).1
              go_wp2_with (at_builtin; refine app_stepW (w.heap.size + 1) _ n ss _ ⟨s, ys, u⟩ A2 m c2 ?r0 ?r1 rfl (.tmp 64) (.tmp 66) rfl rfl rfl ?r2 (by omega) ?r3 ?_)
              case r0 => exact HRJ.out.below ((Below.refl _ _).alloc (Nat.le_refl _) _)
              case r1 => exact HSS.out.below ((Below.refl _ _).alloc (Nat.le_refl _) _)
              case r2 => first | exact heap_new rfl | exact Array.getElem_push_eq | (simp; done)
              case r3 => have := HI.out.fw; first | omega | (simp; omega)
              intro v9 w9 hrow9 hg9 hat9
              obtain ⟨A9, c9, rfl, _⟩ := hrow9.hat
              have hb9 := grown_blk hg9 (heap_old HF.out) (HRJ.out.ne HF.out (by decide))
              have z1 := (blk_cl (k := 1) hb9 rfl).1
              have z2 := (blk_cl (k := 1) hb9 rfl).2
              have HB9 := Lib.hid hb9; clear hb9
              have HROW9 := Lib.hid hrow9; clear hrow9
              have HG9 := Lib.hid hg9; clear hg9
              clear hat9
              go_wp2_with fail
              have HRES2 := Lib.hid (show wr.heap[w.heap.size]? = some (.cells #[.int .i64 0, .slice none 0 0] 57 (0, 0)) from HDR.out.on.blk (HON2.out.blk HI.out.res (by omega)) (by omega))
              have HNM2 := Lib.hid (HDR.out.on.blk (HON2.out.blk HI.out.nms (by have := HI.out.nw; omega)) (by have := HI.out.nw; omega))
              have hfw := HI.out.fw
              go_roundw
              case rel =>
                refine ⟨k + 1, n + 1, A9, c9, ss ++ [⟨s, ys, u⟩], by omega, by go_num, by have := HI.out.kn; omega, fun _ => by omega, okSteps_app HI.out.ok (by rw [HRS.out.len]; omega) ⟨by unfold maxLen; show s.size ≤ _; omega, HJ.out.ok⟩, HROW9.out.set HB9.out (by decide) (by decide), ?_, ?_, set21 HB9.out, ?_, HI.out.fw, HI.out.nw⟩
                · exact (((((HI.out.dr.trans HD2.out).trans HDR.out).alloc _).grown HG9.out (fun i hi => by have := HRJ.out.lt (b := i) hi; omega)).set_ (by omega) (by omega) _ _).more (by omega)
                · exact set_ne (grown_blk HG9.out (heap_old HRES2.out) (HRJ.out.ne HRES2.out (by decide))) (by omega)
                · exact set_ne (grown_blk HG9.out (heap_old HNM2.out) (HRJ.out.ne HNM2.out (by decide))) (by omega)
              case measure => simp [intOf]; omega
    · have hk6 : 0 < n := HI.out.pos (by omega)
      have hn6 : n ≤ 6 := by have := HI.out.kn; omega
      have HRW := Lib.hid HI.out.row.hat
      obtain ⟨A0, c0, e0, hst⟩ := HRW.out
      injection e0 with e0 _ e0'
      subst e0; subst e0'
      obtain ⟨bs, os, rfl, ⟨hbs1, hbs2⟩, hcs⟩ := RStep.at_ hst hk6
      obtain ⟨A', n', c', ⟨_, s2, _⟩, _, ⟨_, s2', _⟩⟩ := hcs 0 hk6
      obtain ⟨An, nn, cn, ⟨s3, _, _⟩, _, _⟩ := hcs (n - 1) (by omega)
      clear hcs
      have HST := Lib.hid hst; clear hst
      have hgo := HI.out.dr.on.size
      go_wp2_with fail
      refine (pick wo g _ _ _ hd0 (by omega) (by omega)).mono ?_
      rintro e w2 ⟨x, rfl, hx0, hx1, hx2, hd2, hon2⟩
      clear hx1 hx2 hd0
      have hb2 := hon2.blk HI.out.box (by have := HI.out.fw; omega)
      have hr2 := hon2.blk HI.out.res (by omega)
      have HST2 := Lib.hid (HST.out.on hon2 (by omega))
      have f0 := (blk_cl (k := 0) hb2 rfl).1
      have f0' := (blk_cl (k := 0) hb2 rfl).2
      have f1 := (blk_cl (k := 1) hb2 rfl).1
      have r0a := (blk_cl (k := 0) hr2 rfl).1
      have r0b := (blk_cl (k := 0) hr2 rfl).2
      have r1a := (blk_cl (k := 1) hr2 rfl).1
      have r1b := (blk_cl (k := 1) hr2 rfl).2
      have HR2 := Lib.hid hr2; clear hr2
      have HB2 := Lib.hid hb2; clear hb2
      have HD2 := Lib.hid (HI.out.dr.trans hd2)
      have s2w := (hon2.cell hbs2 (by omega)).trans s2
      have s2f := (hon2.frozen hbs2 (by omega)).trans s2'
      have s3w := (hon2.cell hbs2 (by omega)).trans s3
      rw [Nat.zero_mul, Nat.add_zero] at s2w s2f
      have hfb : bs ≠ w1.heap.size + 1 := by
        intro e
        have := HI.out.row.ne HI.out.box (by decide)
        simp [Value.ownBlock] at this
        exact this e
      have hbs3 : bs < w2.heap.size := by have := hon2.size; omega
      clear s2 s2' s3
      have hrF : w1.heap.size + 1 ≠ w.heap.size := by omega
      by_cases h0 : x = 0
      · subst h0
        clear s2w s2f s3w
        go_wp2_with fail
        refine (pick w g _ _ _ (HD2.out.alloc _) (by omega) (by omega)).mono ?_
        rintro e w3 ⟨m, rfl, hm0, hm1, hm2, hd3, hon3⟩
        obtain ⟨m, rfl⟩ := Int.eq_ofNat_of_zero_le hm0
        have hmn : m < 3 := by have := hm1 (by omega); omega
        clear hm1 hm0 hm2
        obtain ⟨y, hy⟩ := lit3_at 0 99 100 m hmn
        have d5 := (blk_cl (hon3.blk (heap_new rfl) (by have := HD2.out.lt; omega)) hy).1
        clear hy
        have hb3 := hon3.blk (heap_old HB2.out) (by omega)
        have hr3 := hon3.blk (heap_old HR2.out) (by omega)
        have HST3 := Lib.hid ((HST2.out.alloc (.cells #[.int .i64 0, .int .i64 99, .int .i64 100] 3)).on hon3 (by omega))
        clear f0 f0' f1 r0a r0b r1a r1b hd2 hon2
        have HB3 := Lib.hid hb3; clear hb3
        have HR3 := Lib.hid hr3; clear hr3
        have HD3 := Lib.hid hd3; clear hd3
        have HR4 := Lib.hid (set_ne (b := w1.heap.size + 1) (o := 0) (u := .int .i64 y) HR3.out hrF.symm)
        have HB4 := Lib.hid (set20 (u := .int .i64 y) HB3.out)
        have f0 := (blk_cl (k := 0) HB3.out rfl).1
        have f0' := (blk_cl (k := 0) HB3.out rfl).2
        have g0 := (blk_cl (k := 0) HB4.out rfl).1
        have g1 := (blk_cl (k := 1) HB4.out rfl).1
        have r0a := (blk_cl (k := 0) HR4.out rfl).1
        have r0b := (blk_cl (k := 0) HR3.out rfl).2
        have r1a := (blk_cl (k := 1) HR4.out rfl).1
        have r1b := (blk_cl (k := 1) HR3.out rfl).2
        clear hon3
        go_wp2_with fail
        have hres := set21 (u := .slice (some ⟨bs, os, none⟩) n c) (set20 (u := .int .i64 y) HR4.out)
        have e0 := (blk_cl (k := 0) hres rfl).1
        have e1 := (blk_cl (k := 1) hres rfl).1
        have hdr := ((HD3.out.set_ (b := w1.heap.size + 1) (by omega) (by omega) 0 (.int .i64 y)).set_ (Nat.le_refl _) hgl 0 (.int .i64 y)).set_ (Nat.le_refl _) hgl 1 (.slice (some ⟨bs, os, none⟩) n c)
        refine bodyPost_ret (v := .agg #[.int .i64 y, .slice (some ⟨bs, os, none⟩) n c]) (by simp [results, Try.results67, go_sem, e0, e1]) rfl ⟨_, _, _, _, _, rfl, (((RStep.setInt HST3.out ⟨f0, f0'⟩).setLow (Nat.lt_succ_self _)).setLow (Nat.lt_succ_self _)).lower (Nat.le_succ _), HI.out.ok, hk6, hn6, (HD.out.trans hdr).more (by omega), hdr.on⟩
      by_cases h1 : x = 1
      · subst h1
        have hw1 : IntKind.i64.wrap ((n : Int) - 1) = ((n - 1 : Nat) : Int) := by rw [IntWalk.i64_in _ (by omega)]; omega
        have hn1 : ((n - 1 : Nat) : Int) < (n : Int) := by omega
        have hn0 : (0 : Int) ≤ ((n - 1 : Nat) : Int) := by omega
        have hn2 : ((n - 1 : Nat) : Int).toNat = n - 1 := by omega
        have HSZ := Lib.hid (show (nth ss (n - 1)).name.size ≤ maxLen from (HI.out.ok.2 (n - 1) (by rw [HST.out.1]; omega)).1)
        have HSB : Hid (∀ w', Below w2.heap.size w2 w' → w'.cell? ⟨w1.heap.size + 1, 1, none⟩ = some (.slice (some ⟨bs, os, none⟩) n c) ∧ w'.cell? ⟨bs, os + (n - 1) * 3, none⟩ = some (.string (nth ss (n - 1)).name)) := fun w' h => ⟨(h.cell (p := ⟨_, _, none⟩) (heap_lt HB2.out)).trans f1, (h.cell (p := ⟨_, _, none⟩) hbs3).trans s3w⟩
        have HSC : Hid (((w2.setCell ⟨bs, os + 1, none⟩ (.slice (some ⟨w2.heap.size, 0, none⟩) 1 1)).alloc (.cells #[.string (nth ss (n - 1)).name] 9)).drew.cell? ⟨w1.heap.size + 1, 1, none⟩ = some (.slice (some ⟨bs, os, none⟩) n c) ∧
            ((w2.setCell ⟨bs, os + 1, none⟩ (.slice (some ⟨w2.heap.size, 0, none⟩) 1 1)).alloc (.cells #[.string (nth ss (n - 1)).name] 9)).drew.cell? ⟨bs, os + (n - 1) * 3, none⟩ = some (.string (nth ss (n - 1)).name)) :=
          ⟨(blk_cl (k := 1) (heap_old (set_ne HB2.out (Ne.symm hfb))) rfl).1, by
            have e := World.cell?_setCell_other w2 ⟨bs, os + 1, none⟩ ⟨bs, os + (n - 1) * 3, none⟩ (.slice (some ⟨w2.heap.size, 0, none⟩) 1 1) (fun e => by injection e; omega)
            exact ((World.cell?_alloc_some _ _ _ (by rw [e, s3w]; rfl)).trans e).trans s3w⟩
        go_wp2_with fail
        go_region_held3 (fun w' => w'.cell? ⟨w1.heap.size + 1, 1, none⟩ = some (.slice (some ⟨bs, os, none⟩) n c) ∧ w'.cell? ⟨bs, os + (n - 1) * 3, none⟩ = some (.string (nth ss (n - 1)).name))
          (first | exact HSB.out _ (Below.refl _ _).drew | exact HSB.out _ ((Below.refl _ _).alloc (Nat.le_refl _) _).drew | exact HSC.out | fail "keep")
          (fail)
        have HSL := Lib.hid ((lit_str (w := w2) (e := 9) (cs := #[.string (nth ss (n - 1)).name]) [(nth ss (n - 1)).name] 1 rfl rfl).lower (show w.heap.size + 1 ≤ w2.heap.size by omega))
        have HSA := Lib.hid (RStep.setAfter (j := 0) (d := 1) (HST2.out.alloc (.cells #[.string (nth ss (n - 1)).name] 9)) hk6 HSL.out)
        rw [Nat.zero_mul, Nat.add_zero, World.setCell_alloc_past _ _ _ _ hbs3] at HSA
        have HB4 := Lib.hid (heap_old (o := .cells #[.string (nth ss (n - 1)).name] 9) (set_ne (b := bs) (o := os + 1) (u := .slice (some ⟨w2.heap.size, 0, none⟩) 1 1) HB2.out (Ne.symm hfb)))
        have HR4 := Lib.hid (heap_old (o := .cells #[.string (nth ss (n - 1)).name] 9) (set_ne (b := bs) (o := os + 1) (u := .slice (some ⟨w2.heap.size, 0, none⟩) 1 1) HR2.out (by omega)))
        have g0 := (blk_cl (k := 0) HB4.out rfl).1
        have g1 := (blk_cl (k := 1) HB4.out rfl).1
        have r0c := (blk_cl (k := 0) HR4.out rfl).1
        have r1c := (blk_cl (k := 1) HR4.out rfl).1
        have r0d := (blk_cl (k := 0) HR4.out rfl).2
        have r1d := (blk_cl (k := 1) HR4.out rfl).2
        go_wp2_with fail
        have hres := set21 (u := .slice (some ⟨bs, os, none⟩) n c) (set20 (u := .int .i64 (1 + v)) HR4.out)
        have e0 := (blk_cl (k := 0) hres rfl).1
        have e1 := (blk_cl (k := 1) hres rfl).1
        have hdr := (((HD2.out.set_ (b := bs) (by omega) (by omega) (os + 1) (.slice (some ⟨w2.heap.size, 0, none⟩) 1 1)).alloc (.cells #[.string (nth ss (n - 1)).name] 9)).set_ (Nat.le_refl _) hgl 0 (.int .i64 (1 + v))).set_ (Nat.le_refl _) hgl 1 (.slice (some ⟨bs, os, none⟩) n c)
        refine bodyPost_ret (v := .agg #[.int .i64 (1 + v), .slice (some ⟨bs, os, none⟩) n c]) (by simp [results, Try.results67, go_sem, World.cell?_drew, e0, e1]) rfl ⟨_, _, _, _, _, rfl, (((HSA.out.setLow (Nat.lt_succ_self _)).setLow (Nat.lt_succ_self _)).lower (Nat.le_succ _)).drew, okSteps_set HI.out.ok (okS_one HSZ.out), hk6, hn6, ((HD.out.trans hdr).more (by omega)).drew, hdr.on.drew⟩
      by_cases h2 : x = 2
      · subst h2
        clear s3w
        have HSL := Lib.hid ((lit_str (w := w2) (e := 9) (cs := #[.string ⟨#[122, 122]⟩]) [⟨#[122, 122]⟩] 1 rfl rfl).lower (show w.heap.size + 1 ≤ w2.heap.size by omega))
        have HSA := Lib.hid (RStep.setAfter (j := 0) (d := 1) (HST2.out.alloc (.cells #[.string ⟨#[122, 122]⟩] 9)) hk6 HSL.out)
        rw [Nat.zero_mul, Nat.add_zero, World.setCell_alloc_past _ _ _ _ hbs3] at HSA
        have HB4 := Lib.hid (heap_old (o := .cells #[.string ⟨#[122, 122]⟩] 9) (set_ne (b := bs) (o := os + 1) (u := .slice (some ⟨w2.heap.size, 0, none⟩) 1 1) HB2.out (Ne.symm hfb)))
        have HR4 := Lib.hid (heap_old (o := .cells #[.string ⟨#[122, 122]⟩] 9) (set_ne (b := bs) (o := os + 1) (u := .slice (some ⟨w2.heap.size, 0, none⟩) 1 1) HR2.out (by omega)))
        have g0 := (blk_cl (k := 0) HB4.out rfl).1
        have g1 := (blk_cl (k := 1) HB4.out rfl).1
        have r0c := (blk_cl (k := 0) HR4.out rfl).1
        have r1c := (blk_cl (k := 1) HR4.out rfl).1
        have r0d := (blk_cl (k := 0) HR4.out rfl).2
        have r1d := (blk_cl (k := 1) HR4.out rfl).2
        go_wp2_with fail
        have hres := set21 (u := .slice (some ⟨bs, os, none⟩) n c) (set20 (u := .int .i64 (1 + v)) HR4.out)
        have e0 := (blk_cl (k := 0) hres rfl).1
        have e1 := (blk_cl (k := 1) hres rfl).1
        have hdr := (((HD2.out.set_ (b := bs) (by omega) (by omega) (os + 1) (.slice (some ⟨w2.heap.size, 0, none⟩) 1 1)).alloc (.cells #[.string ⟨#[122, 122]⟩] 9)).set_ (Nat.le_refl _) hgl 0 (.int .i64 (1 + v))).set_ (Nat.le_refl _) hgl 1 (.slice (some ⟨bs, os, none⟩) n c)
        refine bodyPost_ret (v := .agg #[.int .i64 (1 + v), .slice (some ⟨bs, os, none⟩) n c]) (by simp [results, Try.results67, go_sem, e0, e1]) rfl ⟨_, _, _, _, _, rfl, ((HSA.out.setLow (Nat.lt_succ_self _)).setLow (Nat.lt_succ_self _)).lower (Nat.le_succ _), okSteps_set HI.out.ok (okS_one (by unfold maxLen; decide)), hk6, hn6, (HD.out.trans hdr).more (by omega), hdr.on⟩
      have q0 : (x == 0) = false := by rw [beq_eq_false_iff_ne]; exact h0
      have q1 : (x == 1) = false := by rw [beq_eq_false_iff_ne]; exact h1
      have q2 : (x == 2) = false := by rw [beq_eq_false_iff_ne]; exact h2
      go_wp2_with fail
      have hres := set21 (u := .slice (some ⟨bs, os, none⟩) n c) (set20 (u := .int .i64 (1 + v)) HR2.out)
      have e0 := (blk_cl (k := 0) hres rfl).1
      have e1 := (blk_cl (k := 1) hres rfl).1
      have hdr := (HD2.out.set_ (Nat.le_refl _) hgl 0 (.int .i64 (1 + v))).set_ (Nat.le_refl _) hgl 1 (.slice (some ⟨bs, os, none⟩) n c)
      refine bodyPost_ret (v := .agg #[.int .i64 (1 + v), .slice (some ⟨bs, os, none⟩) n c]) (by simp [results, Try.results67, go_sem, e0, e1]) rfl ⟨_, _, _, _, _, rfl, ((HST2.out.setLow (Nat.lt_succ_self _)).setLow (Nat.lt_succ_self _)).lower (Nat.le_succ _), HI.out.ok, hk6, hn6, (HD.out.trans hdr).more (by omega), hdr.on⟩
end Go.Proofs.Ytnlibaoegfdoeaa
