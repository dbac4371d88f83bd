/- Contracts of functions and plain lemmas, joined. No condition but those that each states. -/
import Derived.Test.YtakeijgoonagcaaRows
import Derived.ProofKit
import Derived.Test.YtakeijgoonagcaaZA
import Derived.Test.YtakeijgoonagcaaZB

/- The frame of a law's row: what is common to all of them. -/
namespace Go.Proofs.Ytakeijgoonagcaa
open Go.ChangeShapes Go.WideShapes Go.ChangeAt Go.RowKit

theorem Try.own : ownKnob Try.prog.godebug = none := by kernel_rfl
theorem Try.laidOut : laidOutB Try.prog = true := by kernel_rfl
theorem Try.cellsByte : Try.prog.cellsOf 5 = 1 := by kernel_rfl

section
variable {H : Type} {enc : TypeId × Value → H} {P : Program}
/-- The row's last step for a law: it returned true, its arguments read as they did. -/
theorem post_law {f : Func} {s : ChangeSpec} {W W' : World} {args : Array Value} {ds : List (DataW H)} {before pa : List MemPlace}
    (hW : DataW.Whole enc P f.params.toList s.vars false W args.toList ds [] before) (hv : s.vars = [])
    (hr : f.resultTypes = #[4]) (hbool : P.underlying 4 = some .bool)
    (hres : (s.fn H (ds ++ [])).results = [.lit (.bool true)]) (hargs : (s.fn H (ds ++ [])).args = ds)  (hvars : (s.fn H (ds ++ [])).vars = [])
    (ht : DataW.TrodAll enc P W' 0 (fun b => decide (b < W.heap.size)) true f.params.toList args.toList ds pa) (hb : Below W.heap.size W W') :
    s.post enc P f false true false false W args (.bool true) W' := by
  refine ⟨ds, [], before, [], pa, [], hW, ?_, ?_, ?_, hb.frame _, fun h => by cases h⟩
  · rw [hres, hr]
    exact trodAll_mk1 (shut_bool hbool true)
  · rw [hargs]; exact ht
  · rw [hvars, hv]; rfl
end

/-- A '[]byte' that came in. -/
theorem open_code {H : Type} {enc : TypeId × Value → H} {W : World} {a0 : Option Addr} {len cap : Nat} {d : DataW H} {p : List MemPlace} {fuel : Nat}
    (h : DataW.trod enc Try.prog W 0 (fun _ => true) true fuel 44 (Value.cells (.slice a0 len cap)).toList = some (d, p)) : RByte W a0 len ∧ len ≤ cap ∧ cap ≤ maxLen := by
  rcases open_ints Try.underlying44 Try.underlying5 Try.cellsByte h with ⟨hcs, hx⟩ | ⟨a, len', cap', zs, hcs, _, hl, hm, hz, hx, hcell, hwz⟩
  · simp [Value.cells] at hcs
    obtain ⟨rfl, rfl, rfl⟩ := hcs
    exact ⟨fun h => absurd h (by omega), Nat.le_refl _, by unfold maxLen; omega⟩
  · simp [Value.cells] at hcs
    obtain ⟨rfl, rfl, rfl⟩ := hcs
    refine ⟨fun h0 => ?_, hl, hm⟩
    have hlz : len ≤ zs.length := by rw [hz]; split <;> omega
    obtain ⟨b, off, spot⟩ := a
    have hspot : spot = none := by simpa [Addr.add] using World.cell?_spot (hcell 0 (by omega))
    subst hspot
    refine ⟨b, off, rfl, ?_, fun k hk => ?_⟩
    · exact World.block_lt_of_cell? W _ (hcell 0 (by omega))
    · have hk2 : k < zs.length := by omega
      have hc := hcell k hk2
      rw [add_plain] at hc
      have hw := hwz (zs.getD k 0) (by rw [List.getD_eq_getElem?_getD, List.getElem?_eq_getElem hk2]; exact List.getElem_mem hk2)
      have h2 : 0 ≤ zs.getD k 0 ∧ zs.getD k 0 < 256 := by
        have h3 : IntKind.u8.min ≤ zs.getD k 0 ∧ zs.getD k 0 ≤ IntKind.u8.max := by simpa [Lit.wf] using hw
        have e1 : IntKind.u8.min = 0 := by decide
        have e2 : IntKind.u8.max = 255 := by decide
        rw [e1, e2] at h3
        omega
      refine ⟨(zs.getD k 0).toNat, by omega, ?_⟩
      rw [hc]
      congr 2
      omega
end Go.Proofs.Ytakeijgoonagcaa

/- Pools: the words for memory, PoolValid of both. -/
namespace Go.Proofs.Ytakeijgoonagcaa
open Go.RowKit

theorem info_case : (Try.prog.info? 52).map (fun i => (i.zero, i.size, i.bytes)) = some (some (.agg #[.string ⟨#[]⟩, .int .i64 0, .slice none 0 0]), 3, 48) := by kernel_rfl
structure Case where
  name : Str
  st : Int
  done : List Str
  deriving Inhabited
def caseE : Elem Case :=
  { size := 3, rep := fun w lo hi b off x => Cl w b off (.string x.name) ∧ Cl w b (off + 1) (.int .i64 x.st) ∧ (∃ A n c, Cl w b (off + 2) (.slice A n c) ∧ RH strE w lo hi A n x.done ∧ n ≤ c),
    keep := fun h hs h1 h2 => ⟨h.1.same hs h1 h2, h.2.1.same hs h1 h2, by
      obtain ⟨A, n, c, h3, h4, h5⟩ := h.2.2
      exact ⟨A, n, c, h3.same hs h1 h2, h4.same hs, h5⟩⟩,
    wide := fun h hl hh => ⟨h.1, h.2.1, by
      obtain ⟨A, n, c, h1, h2, h3⟩ := h.2.2
      exact ⟨A, n, c, h1, h2.wide hl hh, h3⟩⟩ }
abbrev RCase := RL caseE
theorem RCase.at_ {w : World} {lo n : Nat} {A : Option Addr} {xs : List Case} {k : Nat} (h : RCase w lo A n xs) (hk : k < n) :
    ∃ b off, A = some ⟨b, off, none⟩ ∧ (lo ≤ b ∧ b < w.heap.size) ∧ ∀ j, j < n → ∃ A' n' c',
      (w.cell? ⟨b, off + j * 3, none⟩ = some (.string (nth xs j).name) ∧ w.cell? ⟨b, off + j * 3 + 1, none⟩ = some (.int .i64 (nth xs j).st) ∧ w.cell? ⟨b, off + j * 3 + 2, none⟩ = some (.slice A' n' c')) ∧
      RStr w lo A' n' (nth xs j).done ∧ n' ≤ c' ∧
      (w.frozen? ⟨b, off + j * 3, none⟩ = false ∧ w.frozen? ⟨b, off + j * 3 + 1, none⟩ = false ∧ w.frozen? ⟨b, off + j * 3 + 2, none⟩ = false) := by
  obtain ⟨b, off, e, h1, h2, hc⟩ := h.2 (by omega)
  refine ⟨b, off, e, ⟨h1, h2⟩, fun j hj => ?_⟩
  obtain ⟨⟨c1, f1⟩, ⟨c2, f2⟩, ⟨A', n', c', ⟨c3, f3⟩, h5, h6⟩⟩ := hc j hj
  exact ⟨A', n', c', ⟨c1, c2, c3⟩, h5, h6, f1, f2, f3⟩

def okCases (cs : List Case) : Prop := cs.length ≤ 1048576 ∧ ∀ j, j < cs.length → (nth cs j).name.size ≤ maxLen ∧ (nth cs j).done.length ≤ 1048576
def caseAt (f : Flow) (cs : List Case) (j : Nat) : Bool := nameB (nth cs j).name && (runB f (nth cs j).st (nth cs j).done && (decide (j = 0) || strLt (nth cs (j - 1)).name (nth cs j).name))
/-- A valid pool. -/
def poolB (f : Flow) (cs : List Case) : Bool := allN cs.length (caseAt f cs) && (flowB f && decide (cs.length ≤ 8))
theorem case_ways (f : Flow) (cs : List Case) (k : Nat) : nameB (nth cs k).name = false ∨ (nameB (nth cs k).name = true ∧ (runB f (nth cs k).st (nth cs k).done = false ∨ (runB f (nth cs k).st (nth cs k).done = true ∧ (k = 0 ∨ (0 < k ∧ (strLt (nth cs (k - 1)).name (nth cs k).name = false ∨ strLt (nth cs (k - 1)).name (nth cs k).name = true)))))) := by
  cases nameB (nth cs k).name <;> cases runB f (nth cs k).st (nth cs k).done <;> cases strLt (nth cs (k - 1)).name (nth cs k).name <;> simp <;> omega
theorem poolB_bad {f : Flow} {cs : List Case} {k : Nat} (hk : k < cs.length) (h : caseAt f cs k = false) : poolB f cs = false := by
  unfold poolB; rw [allN_false hk h]; rfl

set_option maxRecDepth 100000 in
set_option maxHeartbeats 1000000 in
theorem poolS_any (A B : Option Addr) (n c m d : Nat) (f : Flow) (cs : List Case) (lo lo' : Nat) (w : World) (hr : RStep w lo A n f.steps) (hok : okSteps f.steps) (hd : RCase w lo' B m cs) (hcs : okCases cs) :
    Calls Try.prog 59 #[.agg #[.int .i64 f.ver, .slice A n c], .slice B m d] w fun e w' => e = .returned (.bool (poolB f cs)) ∧ Below w.heap.size w w' := by
  have hm : m ≤ 1048576 := by have := hcs.1; rw [hd.1] at this; exact this
  have HO := Lib.hid hok; clear hok
  have HC := Lib.hid hcs; clear hcs
  have HX0 := Lib.hid (heap_new (w := w) (o := .cells #[.int .i64 f.ver, .slice A n c] 34) rfl)
  have HB0 := Lib.hid ((Below.refl w.heap.size w).alloc (Nat.le_refl _) (.cells #[.int .i64 f.ver, .slice A n c] 34))
  have HR0 := Lib.hid (hr.alloc (.cells #[.int .i64 f.ver, .slice A n c] 34)); clear hr
  have HD0 := Lib.hid (hd.alloc (.cells #[.int .i64 f.ver, .slice A n c] 34)); clear hd
  have HL := Lib.hid HD0.out.1
  go_enter Try.func59, Try.ntmps59
  go_wp2_with fail
  generalize w.alloc (.cells #[.int .i64 f.ver, .slice A n c] 34) = w0 at *
  go_loopw [5] (fun i wr => ∃ k : Nat, k ≤ m ∧ i = .int .i64 k ∧ Below w0.heap.size w0 wr ∧ ∀ j, j < k → caseAt f cs j = true) (fun i _ => m - (intOf i).toNat)
  case atStart => exact ⟨0, Nat.zero_le _, rfl, Below.refl _ _, fa_zero⟩
  case round =>
    obtain ⟨wo, rfl⟩ : ∃ wo : World, wo = wr := ⟨_, rfl⟩
    obtain ⟨k, hk, rfl, hbw, hp⟩ := hrel
    have HP := Lib.hid hp; clear hp
    have HX := Lib.hid ((hbw.block _ (heap_lt HX0.out)).trans HX0.out)
    have HB := Lib.hid (HB0.out.trans (hbw.mono HB0.out.size))
    have HR := Lib.hid (HR0.out.below hbw)
    have HD := Lib.hid (HD0.out.below hbw)
    have HBW := Lib.hid hbw; clear hbw
    have X0 : ∀ x : Bl wo, x.wd.cell? ⟨w.heap.size, 0, none⟩ = some (.int .i64 f.ver) := fun x => (blk_cl (k := 0) ((x.below.block _ (heap_lt HX.out)).trans HX.out) rfl).1
    have X1 : ∀ x : Bl wo, x.wd.cell? ⟨w.heap.size, 1, none⟩ = some (.slice A n c) := fun x => (blk_cl (k := 1) ((x.below.block _ (heap_lt HX.out)).trans HX.out) rfl).1
    by_cases hlt : k < m
    · obtain ⟨b, off, rfl, ⟨_, hbl⟩, hc⟩ := RCase.at_ HD.out hlt
      have HK := Lib.hid (show k < cs.length by rw [HL.out]; exact hlt)
      obtain ⟨hsz, hdl⟩ := HC.out.2 k HK.out
      have HCP := Lib.hid (fun (j : Nat) (hj : j < m) (x : Bl wo) => (x.below.cell (p := ⟨b, off + j * 3, none⟩) hbl).trans (by obtain ⟨_, _, _, ⟨e, _⟩, _⟩ := hc j hj; exact e))
      obtain ⟨A', n', c', ⟨c1, c2, c3⟩, hdr, hnc, _⟩ := hc k hlt
      have hn' : n' ≤ 1048576 := by rw [← hdr.1]; exact hdl
      have HRUN := Lib.hid (fun x : Bl wo => runS_any A A' n c n' c' f (nth cs k).st (nth cs k).done _ _ x.wd (HR.out.below x.below) HO.out (hdr.below x.below) hn' hnc)
      have HNM := Lib.hid (fun x : Bl wo => nameS_any (nth cs k).name x.wd hsz)
      have C1 : ∀ x : Bl wo, x.wd.cell? ⟨b, off + k * 3, none⟩ = some (.string (nth cs k).name) := fun x => (x.below.cell (p := ⟨b, off + k * 3, none⟩) hbl).trans c1
      have C2 : ∀ x : Bl wo, x.wd.cell? ⟨b, off + k * 3 + 1, none⟩ = some (.int .i64 (nth cs k).st) := fun x => (x.below.cell (p := ⟨b, off + k * 3 + 1, none⟩) hbl).trans c2
      have C3 : ∀ x : Bl wo, x.wd.cell? ⟨b, off + k * 3 + 2, none⟩ = some (.slice A' n' c') := fun x => (x.below.cell (p := ⟨b, off + k * 3 + 2, none⟩) hbl).trans c3
      clear hc c1 c2 c3 hdr hsz hdl
      rcases case_ways f cs k with h1 | ⟨h1, h2 | ⟨h2, h3 | ⟨h3, h4 | h4⟩⟩⟩
      · have HG : Hid (poolB f cs = false) := poolB_bad HK.out (by simp [caseAt, h1])
        rw [h1] at HNM
        clear h1
        go_wp2_with fail
        refine region_bl (by kernel_rfl) (by kernel_rfl) ?_
        repeat (go_big_quiet_step ((go_at_call 120; exact q_bl_same (HNM.out _))))
        refine wpQuiet_nil ?_
        intro _ hw'
        obtain ⟨x, rfl⟩ := hw'
        have HB2 := Lib.hid (HB.out.trans (x.below.mono HB.out.size))
        go_wp2_with fail
        go_ret
        exact ⟨ret_b HG.out.symm, HB2.out⟩
      · have HG : Hid (poolB f cs = false) := poolB_bad HK.out (by simp [caseAt, h2])
        rw [h1] at HNM
        rw [h2] at HRUN
        clear h1 h2
        go_wp2_with fail
        refine region_bl (by kernel_rfl) (by kernel_rfl) ?_
        repeat (go_big_quiet_step ((first | (go_at_call 120; exact q_bl_same (HNM.out _)) | (go_at_call 121; exact q_bl (HRUN.out _)) | fail "no arm")))
        refine wpQuiet_nil ?_
        intro _ hw'
        obtain ⟨x, rfl⟩ := hw'
        have HB2 := Lib.hid (HB.out.trans (x.below.mono HB.out.size))
        go_wp2_with fail
        go_ret
        exact ⟨ret_b HG.out.symm, HB2.out⟩
      · have HG : Hid (caseAt f cs k = true) := by show _ = _; unfold caseAt; rw [h1, h2, decide_eq_true h3]; rfl
        have h6 : decide ((0 : Int) < (k : Int)) = false := by simp; omega
        have h7 : decide (0 < k) = false := by simp; omega
        rw [h1] at HNM
        rw [h2] at HRUN
        clear h1 h2 h3
        go_wp2_with fail
        refine region_bl (by kernel_rfl) (by kernel_rfl) ?_
        repeat (go_big_quiet_step ((first | (go_at_call 120; exact q_bl_same (HNM.out _)) | (go_at_call 121; exact q_bl (HRUN.out _)) | fail "no arm")))
        refine wpQuiet_nil ?_
        intro _ hw'
        obtain ⟨x, rfl⟩ := hw'
        have HB2 := Lib.hid (HBW.out.trans (x.below.mono HBW.out.size))
        go_wp2_with fail
        go_roundw
        case rel => exact ⟨k + 1, by omega, by go_num, HB2.out, fa_succ HP.out HG.out⟩
        case measure => simp [intOf]; omega
      all_goals
        have D1 := HCP.out (k - 1) (by omega)
        have h6 : decide ((0 : Int) < (k : Int)) = true := by simp; omega
        have h7 : 0 < k := h3
      · have h8 : Op.bytesLess (ByteArray.toList (nth cs (k - 1)).name) (ByteArray.toList (nth cs k).name) = false := h4
        have HG : Hid (poolB f cs = false) := poolB_bad HK.out (by simp [caseAt, h4]; omega)
        rw [h1] at HNM
        rw [h2] at HRUN
        clear h1 h2 h4
        go_wp2_with fail
        refine region_bl (by kernel_rfl) (by kernel_rfl) ?_
        repeat (go_big_quiet_step ((first | (go_at_call 120; exact q_bl_same (HNM.out _)) | (go_at_call 121; exact q_bl (HRUN.out _)) | fail "no arm")))
        refine wpQuiet_nil ?_
        intro _ hw'
        obtain ⟨x, rfl⟩ := hw'
        have HB2 := Lib.hid (HB.out.trans (x.below.mono HB.out.size))
        go_wp2_with fail
        go_ret
        exact ⟨ret_b HG.out.symm, HB2.out⟩
      · have h8 : Op.bytesLess (ByteArray.toList (nth cs (k - 1)).name) (ByteArray.toList (nth cs k).name) = true := h4
        have HG : Hid (caseAt f cs k = true) := by simp [Hid, caseAt, h1, h2, h4]
        rw [h1] at HNM
        rw [h2] at HRUN
        clear h1 h2 h4
        go_wp2_with fail
        refine region_bl (by kernel_rfl) (by kernel_rfl) ?_
        repeat (go_big_quiet_step ((first | (go_at_call 120; exact q_bl_same (HNM.out _)) | (go_at_call 121; exact q_bl (HRUN.out _)) | fail "no arm")))
        refine wpQuiet_nil ?_
        intro _ hw'
        obtain ⟨x, rfl⟩ := hw'
        have HB2 := Lib.hid (HBW.out.trans (x.below.mono HBW.out.size))
        go_wp2_with fail
        go_roundw
        case rel => exact ⟨k + 1, by omega, by go_num, HB2.out, fa_succ HP.out HG.out⟩
        case measure => simp [intOf]; omega
    · obtain rfl : k = m := by omega
      have HALL := Lib.hid (show poolB f cs = (flowB f && decide (k ≤ 8)) by
        unfold poolB; rw [HL.out, allN_true (fun j hj => HP.out j hj)]; rfl)
      have b0 := X0 ⟨wo, Below.refl _ _⟩
      have b1 := X1 ⟨wo, Below.refl _ _⟩
      simp only at b0 b1
      clear X0 X1
      have e8 : decide ((k : Int) ≤ 8) = decide (k ≤ 8) := by rw [decide_eq_decide]; omega
      cases hf : flowB f
      · have HF := Lib.hid hf
        go_wp2_with (go_at_call 60; refine (flowS_any _ _ _ f _ _ HR.out HO.out).mono ?_; rintro e w1 ⟨rfl, hb⟩; rw [HF.out])
        go_ret
        exact ⟨ret_b (by rw [HALL.out, HF.out]; rfl), HB.out.trans (hb.mono HB.out.size)⟩
      · have HF := Lib.hid hf
        go_wp2_with (go_at_call 60; refine (flowS_any _ _ _ f _ _ HR.out HO.out).mono ?_; rintro e w1 ⟨rfl, hb⟩; rw [HF.out])
        go_ret
        exact ⟨ret_b (by rw [HALL.out, HF.out]; simp), HB.out.trans (hb.mono HB.out.size)⟩
end Go.Proofs.Ytakeijgoonagcaa

/- Pools: PoolValid of the program. -/
namespace Go.Proofs.Ytakeijgoonagcaa
open Go.RowKit

set_option maxRecDepth 100000 in
set_option maxHeartbeats 1000000 in
theorem poolI_any (A B : Option Addr) (n c m d : Nat) (f : Flow) (cs : List Case) (lo lo' : Nat) (w : World) (hr : RStep w lo A n f.steps) (hok : okSteps f.steps) (hd : RCase w lo' B m cs) (hcs : okCases cs) :
    Calls Try.prog 35 #[.agg #[.int .i64 f.ver, .slice A n c], .slice B m d] w fun e w' => e = .returned (.bool (poolB f cs)) ∧ Below w.heap.size w w' := by
  have hm : m ≤ 1048576 := by have := hcs.1; rw [hd.1] at this; exact this
  have HO := Lib.hid hok; clear hok
  have HC := Lib.hid hcs; clear hcs
  have HX0 := Lib.hid (heap_new (w := w) (o := .cells #[.int .i64 f.ver, .slice A n c] 34) rfl)
  have HB0 := Lib.hid ((Below.refl w.heap.size w).alloc (Nat.le_refl _) (.cells #[.int .i64 f.ver, .slice A n c] 34))
  have HR0 := Lib.hid (hr.alloc (.cells #[.int .i64 f.ver, .slice A n c] 34)); clear hr
  have HD0 := Lib.hid (hd.alloc (.cells #[.int .i64 f.ver, .slice A n c] 34)); clear hd
  have HL := Lib.hid HD0.out.1
  go_enter Try.func35, Try.ntmps35
  go_wp2_with fail
  refine (flowI_any _ _ _ f _ _ HR0.out HO.out).mono ?_
  rintro e w1 ⟨rfl, hb⟩
  have HX1 := Lib.hid ((hb.block _ (heap_lt HX0.out)).trans HX0.out)
  have HB1 := Lib.hid (HB0.out.trans (hb.mono HB0.out.size))
  have HR1 := Lib.hid (HR0.out.below hb)
  have HD1 := Lib.hid (HD0.out.below hb)
  clear hb HX0 HR0 HD0 HB0
  cases hf : flowB f
  · have HE : Hid (poolB f cs = false) := by show _ = _; unfold poolB; rw [hf]; simp
    clear hf
    go_wp2_with fail
    go_ret
    exact ⟨ret_b HE.out.symm, HB1.out⟩
  have HF := Lib.hid hf; clear hf
  by_cases h8m : m ≤ 8
  case neg =>
    have HE : Hid (poolB f cs = false) := by
      show _ = _
      unfold poolB; rw [HL.out, decide_eq_false h8m]; simp
    have e8 : decide ((8 : Int) < (m : Int)) = true := by rw [decide_eq_true_iff]; omega
    go_wp2_with fail
    go_ret
    exact ⟨ret_b HE.out.symm, HB1.out⟩
  have e8 : decide ((8 : Int) < (m : Int)) = false := by rw [decide_eq_false_iff_not]; omega
  go_wp2_with fail
  go_loopw [17] (fun i wr => ∃ k : Nat, k ≤ m ∧ i = .int .i64 k ∧ Below w1.heap.size w1 wr ∧ ∀ j, j < k → caseAt f cs j = true) (fun i _ => m - (intOf i).toNat)
  case atStart => exact ⟨0, Nat.zero_le _, rfl, Below.refl _ _, fa_zero⟩
  case round =>
    obtain ⟨wo, rfl⟩ : ∃ wo : World, wo = wr := ⟨_, rfl⟩
    obtain ⟨k, hk, rfl, hbw, hp⟩ := hrel
    have HP := Lib.hid hp; clear hp
    have HX := Lib.hid ((hbw.block _ (heap_lt HX1.out)).trans HX1.out)
    have HB := Lib.hid (HB1.out.trans (hbw.mono HB1.out.size))
    have HR := Lib.hid (HR1.out.below hbw)
    have HD := Lib.hid (HD1.out.below hbw)
    have HBW := Lib.hid hbw; clear hbw
    by_cases hlt : k < m
    · obtain ⟨b, off, rfl, ⟨_, hbl⟩, hc⟩ := RCase.at_ HD.out hlt
      have HK := Lib.hid (show k < cs.length by rw [HL.out]; exact hlt)
      obtain ⟨hsz, hdl⟩ := HC.out.2 k HK.out
      have HCP := Lib.hid (fun (j : Nat) (hj : j < m) => (show wo.cell? ⟨b, off + j * 3, none⟩ = some (.string (nth cs j).name) from by obtain ⟨_, _, _, ⟨e, _⟩, _⟩ := hc j hj; exact e))
      obtain ⟨A', n', c', ⟨c1, c2, c3⟩, hdr, hnc, _⟩ := hc k hlt
      have hn' : n' ≤ 1048576 := by rw [← hdr.1]; exact hdl
      have HXk := Lib.hid (heap_old (o := .cells #[.string (nth cs k).name, .int .i64 (nth cs k).st, .slice A' n' c'] 52) HX.out)
      have HYk := Lib.hid (heap_new (w := wo) (o := .cells #[.string (nth cs k).name, .int .i64 (nth cs k).st, .slice A' n' c'] 52) rfl)
      have HBk := Lib.hid (HB.out.alloc HB.out.size (.cells #[.string (nth cs k).name, .int .i64 (nth cs k).st, .slice A' n' c'] 52))
      have HBWk := Lib.hid (HBW.out.alloc HBW.out.size (.cells #[.string (nth cs k).name, .int .i64 (nth cs k).st, .slice A' n' c'] 52))
      have HRk := Lib.hid (HR.out.alloc (.cells #[.string (nth cs k).name, .int .i64 (nth cs k).st, .slice A' n' c'] 52))
      have HDRk := Lib.hid (hdr.alloc (.cells #[.string (nth cs k).name, .int .i64 (nth cs k).st, .slice A' n' c'] 52))
      have HCPk := Lib.hid (fun (j : Nat) (hj : j < m) => (World.cell?_alloc_some wo _ (.cells #[.string (nth cs k).name, .int .i64 (nth cs k).st, .slice A' n' c'] 52) (by rw [HCP.out j hj]; rfl)).trans (HCP.out j hj))
      have hblk : b < (wo.alloc (.cells #[.string (nth cs k).name, .int .i64 (nth cs k).st, .slice A' n' c'] 52)).heap.size := by simp; omega
      clear hc hdr hdl HCP
      go_wp2_with fail
      generalize wo.alloc (.cells #[.string (nth cs k).name, .int .i64 (nth cs k).st, .slice A' n' c'] 52) = wk at *
      clear c1 c2 c3
      have HRUN := Lib.hid (fun x : Bl wk => runI_any A A' n c n' c' f (nth cs k).st (nth cs k).done _ _ x.wd (HRk.out.below x.below) HO.out (HDRk.out.below x.below) hn' hnc)
      have HNM := Lib.hid (fun x : Bl wk => nameI_any (nth cs k).name x.wd hsz)
      have X0 : ∀ x : Bl wk, x.wd.cell? ⟨w.heap.size, 0, none⟩ = some (.int .i64 f.ver) := fun x => (blk_cl (k := 0) ((x.below.block _ (heap_lt HXk.out)).trans HXk.out) rfl).1
      have X1 : ∀ x : Bl wk, x.wd.cell? ⟨w.heap.size, 1, none⟩ = some (.slice A n c) := fun x => (blk_cl (k := 1) ((x.below.block _ (heap_lt HXk.out)).trans HXk.out) rfl).1
      have C1 : ∀ x : Bl wk, x.wd.cell? ⟨wo.heap.size, 0, none⟩ = some (.string (nth cs k).name) := fun x => (blk_cl (k := 0) ((x.below.block _ (heap_lt HYk.out)).trans HYk.out) rfl).1
      have C2 : ∀ x : Bl wk, x.wd.cell? ⟨wo.heap.size, 1, none⟩ = some (.int .i64 (nth cs k).st) := fun x => (blk_cl (k := 1) ((x.below.block _ (heap_lt HYk.out)).trans HYk.out) rfl).1
      have C3 : ∀ x : Bl wk, x.wd.cell? ⟨wo.heap.size, 2, none⟩ = some (.slice A' n' c') := fun x => (blk_cl (k := 2) ((x.below.block _ (heap_lt HYk.out)).trans HYk.out) rfl).1
      rcases case_ways f cs k with h1 | ⟨h1, h2 | ⟨h2, h3 | ⟨h3, h4 | h4⟩⟩⟩
      · have HG : Hid (poolB f cs = false) := poolB_bad HK.out (by simp [caseAt, h1])
        rw [h1] at HNM
        clear h1
        refine region_bl (by kernel_rfl) (by kernel_rfl) ?_
        repeat (go_big_quiet_step ((first | (go_at_call 78; exact q_bl_same (HNM.out _)) | (go_at_call 73; exact q_bl (HRUN.out _)) | fail "no arm")))
        refine wpQuiet_nil ?_
        intro _ hw'
        obtain ⟨x, rfl⟩ := hw'
        have HB2 := Lib.hid (HBk.out.trans (x.below.mono HBk.out.size))
        go_wp2_with fail
        go_ret
        exact ⟨ret_b HG.out.symm, HB2.out⟩
      · have HG : Hid (poolB f cs = false) := poolB_bad HK.out (by simp [caseAt, h2])
        rw [h1] at HNM
        rw [h2] at HRUN
        clear h1 h2
        refine region_bl (by kernel_rfl) (by kernel_rfl) ?_
        repeat (go_big_quiet_step ((first | (go_at_call 78; exact q_bl_same (HNM.out _)) | (go_at_call 73; exact q_bl (HRUN.out _)) | fail "no arm")))
        refine wpQuiet_nil ?_
        intro _ hw'
        obtain ⟨x, rfl⟩ := hw'
        have HB2 := Lib.hid (HBk.out.trans (x.below.mono HBk.out.size))
        go_wp2_with fail
        go_ret
        exact ⟨ret_b HG.out.symm, HB2.out⟩
      · have HG : Hid (caseAt f cs k = true) := by show _ = _; unfold caseAt; rw [h1, h2, decide_eq_true h3]; rfl
        have h6 : decide ((0 : Int) < (k : Int)) = false := by simp; omega
        have h7 : decide (0 < k) = false := by simp; omega
        rw [h1] at HNM
        rw [h2] at HRUN
        clear h1 h2 h3
        refine region_bl (by kernel_rfl) (by kernel_rfl) ?_
        repeat (go_big_quiet_step ((first | (go_at_call 78; exact q_bl_same (HNM.out _)) | (go_at_call 73; exact q_bl (HRUN.out _)) | fail "no arm")))
        refine wpQuiet_nil ?_
        intro _ hw'
        obtain ⟨x, rfl⟩ := hw'
        have HB2 := Lib.hid (HBWk.out.trans (x.below.mono HBWk.out.size))
        go_wp2_with fail
        go_roundw
        case rel => exact ⟨k + 1, by omega, by go_num, HB2.out, fa_succ HP.out HG.out⟩
        case measure => simp [intOf]; omega
      all_goals
        have hd1 := HCPk.out (k - 1) (by omega)
        have D1 : ∀ x : Bl wk, x.wd.cell? ⟨b, off + (k - 1) * 3, none⟩ = some (.string (nth cs (k - 1)).name) := fun x => (x.below.cell (p := ⟨b, off + (k - 1) * 3, none⟩) hblk).trans hd1
        have h6 : decide ((0 : Int) < (k : Int)) = true := by simp; omega
        have h7 : 0 < k := h3
        clear hd1
      · have h8 : (Op.bytesLess (ByteArray.toList (nth cs k).name) (ByteArray.toList (nth cs (k - 1)).name) || ByteArray.toList (nth cs k).name == ByteArray.toList (nth cs (k - 1)).name) = true := by rw [str_le, h4]; rfl
        have HG : Hid (poolB f cs = false) := poolB_bad HK.out (by simp [caseAt, h4]; omega)
        rw [h1] at HNM
        rw [h2] at HRUN
        clear h1 h2 h4
        refine region_bl (by kernel_rfl) (by kernel_rfl) ?_
        repeat (go_big_quiet_step ((first | (go_at_call 78; exact q_bl_same (HNM.out _)) | (go_at_call 73; exact q_bl (HRUN.out _)) | fail "no arm")))
        refine wpQuiet_nil ?_
        intro _ hw'
        obtain ⟨x, rfl⟩ := hw'
        have HB2 := Lib.hid (HBk.out.trans (x.below.mono HBk.out.size))
        go_wp2_with fail
        go_ret
        exact ⟨ret_b HG.out.symm, HB2.out⟩
      · have h8 : (Op.bytesLess (ByteArray.toList (nth cs k).name) (ByteArray.toList (nth cs (k - 1)).name) || ByteArray.toList (nth cs k).name == ByteArray.toList (nth cs (k - 1)).name) = false := by rw [str_le, h4]; rfl
        have HG : Hid (caseAt f cs k = true) := by simp [Hid, caseAt, h1, h2, h4]
        rw [h1] at HNM
        rw [h2] at HRUN
        clear h1 h2 h4
        refine region_bl (by kernel_rfl) (by kernel_rfl) ?_
        repeat (go_big_quiet_step ((first | (go_at_call 78; exact q_bl_same (HNM.out _)) | (go_at_call 73; exact q_bl (HRUN.out _)) | fail "no arm")))
        refine wpQuiet_nil ?_
        intro _ hw'
        obtain ⟨x, rfl⟩ := hw'
        have HB2 := Lib.hid (HBWk.out.trans (x.below.mono HBWk.out.size))
        go_wp2_with fail
        go_roundw
        case rel => exact ⟨k + 1, by omega, by go_num, HB2.out, fa_succ HP.out HG.out⟩
        case measure => simp [intOf]; omega
    · obtain rfl : k = m := by omega
      have HALL : Hid (poolB f cs = true) := by
        show _ = _
        unfold poolB; rw [HL.out, allN_true (fun j hj => HP.out j hj), HF.out, decide_eq_true h8m]; rfl
      go_wp2_with fail
      go_ret
      exact ⟨ret_b HALL.out.symm, HB.out⟩
end Go.Proofs.Ytakeijgoonagcaa

/- Pools: plain laws. -/
namespace Go.Proofs.Ytakeijgoonagcaa

def caseLt (a b : Case) : Prop := strLt a.name b.name = true
theorem poolB_iff {f : Flow} {cs : List Case} : poolB f cs = true ↔ (∀ c ∈ cs, nameB c.name = true ∧ runB f c.st c.done = true) ∧ cs.Pairwise caseLt ∧ flowB f = true ∧ cs.length ≤ 8 := by
  unfold poolB
  rw [Bool.and_eq_true, Bool.and_eq_true, decide_eq_true_iff, allN_iff]
  constructor
  · rintro ⟨h, h1, h2⟩
    refine ⟨fun c hc => ?_, ?_, h1, h2⟩
    · obtain ⟨j, hj, rfl⟩ := nth_of_mem hc
      have := h j hj
      simp only [caseAt, Bool.and_eq_true] at this
      exact ⟨this.1, this.2.1⟩
    · have hlt : ∀ j, j < cs.length → ∀ i, i < j → strLt (nth cs i).name (nth cs j).name = true := by
        intro j
        induction j with
        | zero => intro _ i hi; omega
        | succ j ih =>
          intro hj i hi
          have h3 := h (j + 1) hj
          simp only [caseAt, Bool.and_eq_true, Bool.or_eq_true, decide_eq_true_eq] at h3
          have h4 : strLt (nth cs j).name (nth cs (j + 1)).name = true := by
            rcases h3.2.2 with h4 | h4
            · omega
            · simpa using h4
          by_cases e : i = j
          · rw [e]; exact h4
          · exact strLt_trans (ih (by omega) i (by omega)) h4
      rw [List.pairwise_iff_getElem]
      intro i j hi hj hij
      rw [← nth_eq, ← nth_eq]
      exact hlt j hj i hij
  · rintro ⟨h, hp, h1, h2⟩
    refine ⟨fun j hj => ?_, h1, h2⟩
    obtain ⟨h3, h4⟩ := h _ (mem_nth hj)
    unfold caseAt
    rw [h3, h4]
    by_cases h0 : j = 0
    · simp [h0]
    · have := (List.pairwise_iff_getElem.1 hp) (j - 1) j (by omega) hj (by omega)
      rw [← nth_eq, ← nth_eq] at this
      unfold caseLt at this
      rw [this]; simp

theorem pool_sub {f : Flow} {cs ds : List Case} (h : poolB f cs = true) (hs : ds.Sublist cs) : poolB f ds = true := by
  obtain ⟨h1, h2, h3, h4⟩ := poolB_iff.1 h
  exact poolB_iff.2 ⟨fun c hc => h1 c (hs.subset hc), h2.sublist hs, h3, Nat.le_trans hs.length_le h4⟩
theorem pool_less {f : Flow} {cs : List Case} {k : Nat} (h : poolB f cs = true) : poolB f (cs.take k ++ cs.drop (k + 1)) = true := by
  refine pool_sub h ?_
  have h1 : (cs.take k ++ cs.drop (k + 1)).Sublist (cs.take k ++ cs.drop k) := (List.Sublist.refl _).append (List.drop_sublist_drop_left cs (Nat.le_succ k))
  rwa [List.take_append_drop] at h1
theorem pool_twice {f : Flow} {cs : List Case} {k : Nat} (hk : k < cs.length) : poolB f (cs.take (k + 1) ++ cs.drop k) = false := by
  rw [← Bool.not_eq_true]
  intro h
  obtain ⟨_, h2, _⟩ := poolB_iff.1 h
  rw [List.pairwise_append] at h2
  have h3 := h2.2.2 (nth cs k) (by rw [take_nth hk]; simp) (nth cs k) (by
    rw [List.drop_eq_getElem_cons hk, ← nth_eq hk]; simp)
  unfold caseLt at h3
  rw [strLt_irr] at h3
  cases h3
theorem pool_names {f : Flow} {cs : List Case} (h : poolB f cs = true) {i j : Nat} (hi : i < cs.length) (hj : j < cs.length) (e : (nth cs i).name = (nth cs j).name) : i = j := by
  obtain ⟨_, h2, _⟩ := poolB_iff.1 h
  have hp := List.pairwise_iff_getElem.1 h2
  rw [nth_eq hi, nth_eq hj] at e
  rcases Nat.lt_trichotomy i j with h | h | h
  · exact absurd e (strLt_ne (hp i j hi hj h))
  · exact h
  · exact absurd e.symm (strLt_ne (hp j i hj hi h))
theorem pool_run {f : Flow} {cs : List Case} (h : poolB f cs = true) {k : Nat} (hk : k < cs.length) : runB f (nth cs k).st (nth cs k).done = true := ((poolB_iff.1 h).1 _ (mem_nth hk)).2
theorem pool_len {f : Flow} {cs : List Case} (h : poolB f cs = true) : cs.length ≤ 8 := (poolB_iff.1 h).2.2.2
theorem pool_flow {f : Flow} {cs : List Case} (h : poolB f cs = true) : flowB f = true := (poolB_iff.1 h).2.2.1
theorem run_state {f : Flow} {st : Int} {done : List Str} (h : runB f st done = true) : 0 ≤ st ∧ st ≤ 3 := by
  unfold runB at h
  by_cases h0 : st = 0
  · omega
  by_cases h1 : st = 1
  · omega
  by_cases h2 : st = 2
  · omega
  by_cases h3 : st = 3
  · omega
  rw [if_neg h0, if_neg h2, if_neg h1, if_neg h3] at h
  simp at h

/-- The cases that have not come to an end. -/
def goesB (c : Case) : Bool := decide (c.st = 0) || decide (c.st = 1)
def stayL (cs : List Case) : List Case := cs.filter goesB
def goneL (cs : List Case) : List Str := (cs.filter fun c => !goesB c).map (·.name)
theorem pool_stay {f : Flow} {cs : List Case} (h : poolB f cs = true) : poolB f (stayL cs) = true := pool_sub h List.filter_sublist
theorem stay_twice (cs : List Case) : stayL (stayL cs) = stayL cs := by unfold stayL; rw [List.filter_filter]; simp
theorem gone_stay (cs : List Case) : goneL (stayL cs) = [] := by
  unfold goneL stayL
  rw [List.filter_filter]
  have : (cs.filter fun c => (!goesB c) && goesB c) = [] := by rw [List.filter_eq_nil_iff]; intro c _; cases goesB c <;> simp
  rw [this]; rfl
theorem stay_len (cs : List Case) : (stayL cs).length + (goneL cs).length = cs.length := by
  unfold stayL goneL
  rw [List.length_map]
  induction cs with
  | nil => rfl
  | cons c cs ih =>
    rw [List.filter_cons, List.filter_cons, List.length_cons]
    cases goesB c <;> simp <;> omega

/-- How many cases have a state. -/
def stN (cs : List Case) (s : Int) : Nat := (cs.filter fun c => decide (c.st = s)).length
theorem stN_nil (s : Int) : stN [] s = 0 := rfl
theorem stN_snoc (cs : List Case) (c : Case) (s : Int) : stN (cs ++ [c]) s = stN cs s + if c.st = s then 1 else 0 := by
  unfold stN
  rw [List.filter_append, List.length_append]
  by_cases h : c.st = s <;> simp [h]
theorem stN_le (cs : List Case) (s : Int) : stN cs s ≤ cs.length := List.length_filter_le _ _
theorem stN_sum {cs : List Case} (h : ∀ c ∈ cs, 0 ≤ c.st ∧ c.st ≤ 3) : stN cs 0 + stN cs 1 + stN cs 2 + stN cs 3 = cs.length := by
  induction cs with
  | nil => rfl
  | cons c cs ih =>
    have h1 := ih (fun x hx => h x (List.mem_cons_of_mem _ hx))
    have h2 := h c (List.mem_cons_self ..)
    unfold stN at h1 ⊢
    simp only [List.filter_cons, List.length_cons]
    have h3 : c.st = 0 ∨ c.st = 1 ∨ c.st = 2 ∨ c.st = 3 := by omega
    rcases h3 with h3 | h3 | h3 | h3 <;> simp [h3] <;> omega
theorem stN_stay {cs : List Case} {s : Int} : stN (stayL cs) s = if s = 0 ∨ s = 1 then stN cs s else 0 := by
  unfold stN stayL
  rw [List.filter_filter]
  by_cases h : s = 0 ∨ s = 1
  · rw [if_pos h]
    congr 1
    apply List.filter_congr
    intro c _
    unfold goesB
    by_cases e : c.st = s
    · rcases h with h | h <;> simp [e, h]
    · simp [e]
  · rw [if_neg h]
    have : (cs.filter fun c => decide (c.st = s) && goesB c) = [] := by
      rw [List.filter_eq_nil_iff]
      intro c _
      unfold goesB
      simp
      intro e
      omega
    rw [this]; rfl
end Go.Proofs.Ytakeijgoonagcaa

/- Runs: what can be done next, the reference's side. -/
namespace Go.Proofs.Ytakeijgoonagcaa
open Go.RowKit

/-- A step can be done next. -/
def canB (f : Flow) (st : Int) (done : List Str) (x : Str) : Bool := runB f st done && (decide (st = 0) && hasB (rdyL f.steps done) x)
theorem run_flow {f : Flow} {st : Int} {done : List Str} (h : runB f st done = true) : flowB f = true := by
  unfold runB at h; rw [Bool.and_eq_true] at h; exact h.1
theorem run_ord {f : Flow} {st : Int} {done : List Str} (h : runB f st done = true) : ordB f.steps done = true := by
  unfold runB at h; rw [Bool.and_eq_true, Bool.and_eq_true] at h; exact h.2.1
theorem ord_nil (ss : List Step) : ordB ss [] = true := allN_true fun j hj => absurd hj (by simp)
theorem ord_snoc {ss : List Step} {done : List Str} {x : Str} (hn : (namesOf ss).Nodup) (h : ordB ss done = true) (hx : hasB (rdyL ss done) x = true) : ordB ss (done ++ [x]) = true := by
  refine allN_true fun j hj => ?_
  rw [ordAt_rdy hn]
  rcases Nat.lt_or_ge j done.length with h1 | h1
  · have e1 : nth (done ++ [x]) j = nth done j := by rw [nth_eq hj, nth_eq h1, List.getElem_append_left h1]
    rw [e1, List.take_append_of_le_length (Nat.le_of_lt h1), ← ordAt_rdy hn]
    exact allN_iff.1 h j h1
  · have h2 : j = done.length := by simp at hj; omega
    subst h2
    have e1 : nth (done ++ [x]) done.length = x := by rw [nth_eq hj]; simp
    rw [e1, List.take_append_of_le_length (Nat.le_refl _), List.take_length]
    exact hx
theorem can_ord {f : Flow} {st : Int} {done : List Str} {x : Str} (h : canB f st done x = true) : ordB f.steps (done ++ [x]) = true := by
  unfold canB at h
  simp only [Bool.and_eq_true] at h
  exact ord_snoc (flow_nodup (run_flow h.1)) (run_ord h.1) h.2.2

set_option maxRecDepth 100000 in
theorem runNewS_any (A : Option Addr) (n c : Nat) (f : Flow) (lo : Nat) (w : World) (hr : RStep w lo A n f.steps) (hok : okSteps f.steps) :
    Calls Try.prog 91 #[.agg #[.int .i64 f.ver, .slice A n c]] w fun e w' => ∃ B d, e = .returned (.tuple #[.agg #[.int .i64 0, .slice B 0 d], .bool (flowB f)]) ∧ w'.ownsRow w.heap.size 9 1 (.slice B 0 d) 0 [] ∧ Below w.heap.size w w' := by
  have HR := Lib.hid ((hr.alloc (.cells #[.int .i64 f.ver, .slice A n c] 34)).alloc (.cells #[.int .i64 0, .slice none 0 0] 48)); clear hr
  have HB := Lib.hid (((Below.refl w.heap.size w).alloc (Nat.le_refl _) (.cells #[.int .i64 f.ver, .slice A n c] 34)).alloc (by simp) (.cells #[.int .i64 0, .slice none 0 0] 48))
  have HX := Lib.hid (heap_new (w := w.alloc (.cells #[.int .i64 f.ver, .slice A n c] 34)) (b := w.heap.size + 1) (o := .cells #[.int .i64 0, .slice none 0 0] 48) (by simp))
  go_enter Try.func91, Try.ntmps91
  go_wp2_with fail
  refine (flowS_any _ _ _ f _ _ HR.out hok).mono ?_
  rintro e w1 ⟨rfl, hb⟩
  have HX1 := Lib.hid ((hb.block _ (heap_lt HX.out)).trans HX.out)
  have HB1 := Lib.hid (HB.out.trans (hb.mono HB.out.size))
  clear hb
  have x0 := (blk_cl (k := 0) HX1.out rfl).1
  have x0' := (blk_cl (k := 0) HX1.out rfl).2
  have x1 := (blk_cl (k := 1) HX1.out rfl).1
  have x1' := (blk_cl (k := 1) HX1.out rfl).2
  cases hf : flowB f
  · go_wp2_with fail
    have hres := set21 (u := .slice none 0 0) (set20 (u := .int .i64 0) HX1.out)
    have e0 := (blk_cl (k := 0) hres rfl).1
    have e1 := (blk_cl (k := 1) hres rfl).1
    exact bodyPost_ret (v := .tuple #[.agg #[.int .i64 0, .slice none 0 0], .bool false]) (by simp [results, Try.results91, go_sem, e0, e1]) rfl ⟨_, _, by rw [hf], ⟨rfl, .inl ⟨rfl, rfl⟩⟩, (HB1.out.setCell (p := ⟨w.heap.size + 1, 0, none⟩) (Nat.le_succ _) _).setCell (p := ⟨w.heap.size + 1, 1, none⟩) (Nat.le_succ _) _⟩
  · have hs1 := HB1.out.size
    have HX2 := Lib.hid (heap_old (o := .cells #[] 9) HX1.out)
    clear x0 x0' x1 x1'
    have x0 := (blk_cl (k := 0) HX2.out rfl).1
    have x0' := (blk_cl (k := 0) HX2.out rfl).2
    have x1 := (blk_cl (k := 1) HX2.out rfl).1
    have x1' := (blk_cl (k := 1) HX2.out rfl).2
    go_wp2_with fail
    have hres := set21 (u := .slice (some ⟨w1.heap.size, 0, none⟩) 0 0) (set20 (u := .int .i64 0) HX2.out)
    have e0 := (blk_cl (k := 0) hres rfl).1
    have e1 := (blk_cl (k := 1) hres rfl).1
    have hrow := World.ownsRow_made (base := w.heap.size) (e := 9) (size := 1) w1 #[] 0 hs1 (Nat.zero_le _) rfl
    exact bodyPost_ret (v := .tuple #[.agg #[.int .i64 0, .slice (some ⟨w1.heap.size, 0, none⟩) 0 0], .bool true]) (by simp [results, Try.results91, go_sem, e0, e1]) rfl ⟨_, _, by rw [hf], row_set (row_set hrow HX2.out (by decide)) (set20 HX2.out) (by decide), ((HB1.out.alloc HB1.out.size _).setCell (p := ⟨w.heap.size + 1, 0, none⟩) (Nat.le_succ _) _).setCell (p := ⟨w.heap.size + 1, 1, none⟩) (Nat.le_succ _) _⟩

set_option maxRecDepth 100000 in
set_option maxHeartbeats 1000000 in
theorem canS_any (A B : Option Addr) (n c m d : Nat) (f : Flow) (st : Int) (done : List Str) (x : Str) (lo lo' : Nat) (w : World) (hr : RStep w lo A n f.steps) (hok : okSteps f.steps) (hd : RStr w lo' B m done) (hm : m ≤ 1048576) (hmd : m ≤ d) :
    Calls Try.prog 178 #[.agg #[.int .i64 f.ver, .slice A n c], .agg #[.int .i64 st, .slice B m d], .string x] w fun e w' => e = .returned (.bool (canB f st done x)) ∧ Below w.heap.size w w' := by
  have hn : n ≤ 1048576 := by have := hok.1; rw [hr.1] at this; exact this
  have HX := Lib.hid (heap_old (o := .cells #[.int .i64 st, .slice B m d] 48) (heap_new (w := w) (o := .cells #[.int .i64 f.ver, .slice A n c] 34) rfl))
  have HY := Lib.hid (heap_new (w := w.alloc (.cells #[.int .i64 f.ver, .slice A n c] 34)) (b := w.heap.size + 1) (o := .cells #[.int .i64 st, .slice B m d] 48) (by simp))
  have HB := Lib.hid (((Below.refl w.heap.size w).alloc (Nat.le_refl _) (.cells #[.int .i64 f.ver, .slice A n c] 34)).alloc (by simp) (.cells #[.int .i64 st, .slice B m d] 48))
  have HR := Lib.hid ((hr.alloc (.cells #[.int .i64 f.ver, .slice A n c] 34)).alloc (.cells #[.int .i64 st, .slice B m d] 48)); clear hr
  have HD := Lib.hid ((hd.alloc (.cells #[.int .i64 f.ver, .slice A n c] 34)).alloc (.cells #[.int .i64 st, .slice B m d] 48)); clear hd
  go_enter Try.func178, Try.ntmps178
  go_wp2_with fail
  refine (l2At_any _ _ c f.steps x _ _ HR.out hn).mono ?_
  rintro e w' ⟨rfl, rfl⟩
  generalize (w.alloc (.cells #[.int .i64 f.ver, .slice A n c] 34)).alloc (.cells #[.int .i64 st, .slice B m d] 48) = wk at *
  have X0 : ∀ x : Bl wk, x.wd.cell? ⟨w.heap.size, 0, none⟩ = some (.int .i64 f.ver) := fun x => (blk_cl (k := 0) ((x.below.block _ (heap_lt HX.out)).trans HX.out) rfl).1
  have X1 : ∀ x : Bl wk, x.wd.cell? ⟨w.heap.size, 1, none⟩ = some (.slice A n c) := fun x => (blk_cl (k := 1) ((x.below.block _ (heap_lt HX.out)).trans HX.out) rfl).1
  have Y0 : ∀ x : Bl wk, x.wd.cell? ⟨w.heap.size + 1, 0, none⟩ = some (.int .i64 st) := fun x => (blk_cl (k := 0) ((x.below.block _ (heap_lt HY.out)).trans HY.out) rfl).1
  have Y1 : ∀ x : Bl wk, x.wd.cell? ⟨w.heap.size + 1, 1, none⟩ = some (.slice B m d) := fun x => (blk_cl (k := 1) ((x.below.block _ (heap_lt HY.out)).trans HY.out) rfl).1
  have HRUN := Lib.hid (fun x : Bl wk => runS_any A B n c m d f st done _ _ x.wd (HR.out.below x.below) hok (HD.out.below x.below) hm hmd)
  have BL := Lib.hid (fun x : Bl wk => HB.out.trans (x.below.mono HB.out.size))
  cases hrun : runB f st done
  · have HE : Hid (canB f st done x = false) := by show _ = _; unfold canB; rw [hrun]; rfl
    rw [hrun] at HRUN
    clear hrun
    go_wp2_with fail
    refine region_bl (by kernel_rfl) (by kernel_rfl) ?_
    repeat (go_big_quiet_step ((go_at_call 121; exact q_bl (HRUN.out _))))
    refine wpQuiet_nil ?_
    intro _ hw'
    obtain ⟨x, rfl⟩ := hw'
    go_wp2_with fail
    go_ret
    exact ⟨ret_b HE.out.symm, BL.out x⟩
  rw [hrun] at HRUN
  by_cases hst : st = 0
  · have HE := Lib.hid (show canB f st done x = hasB (rdyL f.steps done) x by unfold canB; rw [hrun, decide_eq_true hst]; rfl)
    have HRD := Lib.hid (rdy_at (flow_nodup (run_flow hrun)) done x)
    subst hst
    clear hrun
    cases hnm : hasB (namesOf f.steps) x
    · have h9 := idx_neg hnm
      have h10 : decide (0 ≤ idxI (namesOf f.steps) x) = false := by rw [decide_eq_false_iff_not]; omega
      have HG : Hid (canB f 0 done x = false) := by show _ = _; rw [HE.out, HRD.out, hnm]; rfl
      clear hnm
      generalize idxI (namesOf f.steps) x = z at *
      go_wp2_with fail
      refine region_bl (by kernel_rfl) (by kernel_rfl) ?_
      repeat (go_big_quiet_step ((go_at_call 121; exact q_bl (HRUN.out _))))
      refine wpQuiet_nil ?_
      intro _ hw'
      obtain ⟨x, rfl⟩ := hw'
      go_wp2_with fail
      go_ret
      exact ⟨ret_b HG.out.symm, BL.out x⟩
    · obtain ⟨hpl, hidx, _⟩ := plc_ex hnm
      have HS := Lib.hid (hok.2 _ hpl).2
      rw [hnm] at HRD
      rw [hidx]
      clear hnm
      generalize plc f.steps x = p at *
      have hpn : p < n := by rw [← HR.out.1]; exact hpl
      have hp0 : decide ((0 : Int) ≤ (p : Int)) = true := by rw [decide_eq_true_iff]; omega
      obtain ⟨b1, off1, rfl, ⟨_, hbr⟩, hc⟩ := RStep.at_ HR.out hpn
      obtain ⟨A', n', c', ⟨_, y2, _⟩, ha, _⟩ := hc p hpn
      clear hc hpl
      have hn' : n' ≤ 1048576 := by have := HS.out.1; rw [ha.1] at this; exact this
      have Y2 : ∀ x : Bl wk, x.wd.cell? ⟨b1, off1 + p * 3 + 1, none⟩ = some (.slice A' n' c') := fun x => (x.below.cell (p := ⟨b1, off1 + p * 3 + 1, none⟩) hbr).trans y2
      have H1 := Lib.hid (fun z : Bl wk => l1At_any _ _ d done x _ _ (HD.out.below z.below) hm)
      have H2 := Lib.hid (fun z : Bl wk => l1Have_any _ _ _ d _ c' done (nth f.steps p).after _ _ _ (HD.out.below z.below) hm (ha.below z.below) hn')
      clear ha y2
      cases hdn : hasB done x
      · have h3 := idx_neg hdn
        have h4 : decide (idxI done x < 0) = true := by rw [decide_eq_true_iff]; exact h3
        have HG := Lib.hid (show canB f 0 done x = haveB done (nth f.steps p).after by rw [HE.out, HRD.out, hdn]; rfl)
        clear hdn
        generalize idxI done x = q at *
        generalize haveB done (nth f.steps p).after = hb at *
        go_wp2_with fail
        refine region_bl (by kernel_rfl) (by kernel_rfl) ?_
        repeat (go_big_quiet_step ((first | (go_at_call 121; exact q_bl (HRUN.out _)) | (go_at_call 152; exact q_bl_same (H1.out _)) | (go_at_call 158; exact q_bl_same (H2.out _)) | fail "no arm")))
        refine wpQuiet_nil ?_
        intro _ hw'
        obtain ⟨x, rfl⟩ := hw'
        go_wp2_with fail
        go_ret
        exact ⟨ret_b HG.out.symm, BL.out x⟩
      · have h3 := idx_pos hdn
        have h4 : decide (idxI done x < 0) = false := by rw [decide_eq_false_iff_not]; omega
        have HG : Hid (canB f 0 done x = false) := by show _ = _; rw [HE.out, HRD.out, hdn]; rfl
        clear hdn
        generalize idxI done x = q at *
        go_wp2_with fail
        refine region_bl (by kernel_rfl) (by kernel_rfl) ?_
        repeat (go_big_quiet_step ((first | (go_at_call 121; exact q_bl (HRUN.out _)) | (go_at_call 152; exact q_bl_same (H1.out _)) | fail "no arm")))
        refine wpQuiet_nil ?_
        intro _ hw'
        obtain ⟨x, rfl⟩ := hw'
        go_wp2_with fail
        go_ret
        exact ⟨ret_b HG.out.symm, BL.out x⟩
  · have HE : Hid (canB f st done x = false) := by show _ = _; unfold canB; rw [decide_eq_false hst]; simp
    have hst' : (st == 0) = false := by rw [beq_eq_false_iff_ne]; exact hst
    clear hrun
    go_wp2_with fail
    refine region_bl (by kernel_rfl) (by kernel_rfl) ?_
    repeat (go_big_quiet_step ((go_at_call 121; exact q_bl (HRUN.out _))))
    refine wpQuiet_nil ?_
    intro _ hw'
    obtain ⟨x, rfl⟩ := hw'
    go_wp2_with fail
    go_ret
    exact ⟨ret_b HE.out.symm, BL.out x⟩
end Go.Proofs.Ytakeijgoonagcaa

/- Runs: a step is done, the reference's side. -/
namespace Go.Proofs.Ytakeijgoonagcaa
open Go.RowKit

/-- A step is done. -/
def doR (f : Flow) (st : Int) (done : List Str) (x : Str) : Int × List Str := if canB f st done x = true then (forthI (done.length + 1) f.steps.length, done ++ [x]) else (0, [])
theorem doR_no {f : Flow} {st : Int} {done : List Str} {x : Str} (h : canB f st done x = false) : doR f st done x = (0, []) := by unfold doR; rw [if_neg (by rw [h]; simp)]
theorem doR_yes {f : Flow} {st : Int} {done : List Str} {x : Str} (h : canB f st done x = true) : doR f st done x = (forthI (done.length + 1) f.steps.length, done ++ [x]) := by unfold doR; rw [if_pos h]
theorem doR_ord (f : Flow) (st : Int) (done : List Str) (x : Str) : ordB f.steps (doR f st done x).2 = true := by
  cases h : canB f st done x
  · rw [doR_no h]; exact ord_nil _
  · rw [doR_yes h]; exact can_ord h
theorem own_capN {w : World} {base : Nat} {e : TypeId} {size n c : Nat} {A : Option Addr} {cs : List Value} (h : w.ownsRow base e size (.slice A n c) n cs) : n ≤ c := by
  rcases h.2 with ⟨hv, h0⟩ | ⟨g, cap, cur, hv, _, _, hnc, _⟩
  · injection hv with _ _ e
    omega
  · injection hv with _ _ e
    omega
theorem own_nil {w : World} {base : Nat} {e : TypeId} {size : Nat} : w.ownsRow base e size (.slice none 0 0) 0 [] := ⟨by simp, .inl ⟨rfl, rfl⟩⟩

theorem row_mono {w : World} {base base' : Nat} {e : TypeId} {size : Nat} {v : Value} {n : Nat} {cs : List Value} (h : w.ownsRow base e size v n cs) (hb : base' ≤ base) : w.ownsRow base' e size v n cs := by
  refine ⟨h.1, ?_⟩
  rcases h.2 with h0 | ⟨g, cap, cur, hv, h1, h2⟩
  · exact .inl h0
  · exact .inr ⟨g, cap, cur, hv, Nat.le_trans hb h1, h2⟩
/-- 'out = append(out, s)' onto a row of the call's own. -/
theorem app_strW {w : World} {ops : Array Oper} {rest : List Oper} {o : Oper} {a : Act} {Q : Exit → Act → World → Prop} (base : Nat) (v : Value) (n : Nat) (cs : List Str) (b : Nat) (s : Str) (hown : w.ownsRow base 9 1 v n (cs.map Value.string))
    (hgd : o.guard = none) (l r : Operand) (ho : o.op = .call { callee := .builtin .append, args := #[l, r], argTypes := #[29, 29] })
    (hs : a.eval l = v) (hx : a.eval r = .slice (some ⟨b, 0, none⟩) 1 1) (hb : w.heap[b]? = some (.cells #[.string s] 9 (0, 0))) (hn : n ≤ 1048576) (hbase : base ≤ w.heap.size)
    (h : ∀ v' w', w'.ownsRow base 9 1 v' (n + 1) ((cs ++ [s]).map Value.string) → w.grownBy w' v.ownBlock → (v'.ownBlock = v.ownBlock ∨ v'.ownBlock = some w.heap.size) → wpList Try.prog ops Q rest (a.put o.dst v') w') : wpList Try.prog ops Q (o :: rest) a w :=
  wpList_plain hgd fun _ hK => by
    refine wapp 29 9 1 16 _ Try.underlying29 info_str rfl (by omega) (by omega) base v n _ [.string s] b hown l r ho hs hx hb rfl ?_ hn hbase ?_
    · intro u hu; simp at hu; subst hu; rfl
    · intro v' w' h1 h2 h3
      exact hK _ _ (h v' w' (by rw [List.map_append]; exact h1) h2 h3)

set_option maxRecDepth 100000 in
set_option maxHeartbeats 1000000 in
theorem doS_any (A B : Option Addr) (n c m d : Nat) (f : Flow) (st : Int) (done : List Str) (x : Str) (lo lo' : Nat) (w : World) (hr : RStep w lo A n f.steps) (hok : okSteps f.steps) (hd : RStr w lo' B m done) (hm : m ≤ 1048576) (hmd : m ≤ d) :
    Calls Try.prog 161 #[.agg #[.int .i64 f.ver, .slice A n c], .agg #[.int .i64 st, .slice B m d], .string x] w fun e w' => ∃ B' n' d', e = .returned (.tuple #[.agg #[.int .i64 (doR f st done x).1, .slice B' n' d'], .bool (canB f st done x)]) ∧
      w'.ownsRow w.heap.size 9 1 (.slice B' n' d') n' ((doR f st done x).2.map Value.string) ∧ Below w.heap.size w w' := by
  have hn : n ≤ 1048576 := by have := hok.1; rw [hr.1] at this; exact this
  have HX := Lib.hid (heap_old (o := .cells #[.int .i64 0, .slice none 0 0] 48) (heap_old (o := .cells #[.int .i64 st, .slice B m d] 48) (heap_new (w := w) (o := .cells #[.int .i64 f.ver, .slice A n c] 34) rfl)))
  have HY := Lib.hid (heap_old (o := .cells #[.int .i64 0, .slice none 0 0] 48) (heap_new (w := w.alloc (.cells #[.int .i64 f.ver, .slice A n c] 34)) (b := w.heap.size + 1) (o := .cells #[.int .i64 st, .slice B m d] 48) (by simp)))
  have HZ := Lib.hid (heap_new (w := (w.alloc (.cells #[.int .i64 f.ver, .slice A n c] 34)).alloc (.cells #[.int .i64 st, .slice B m d] 48)) (b := w.heap.size + 1 + 1) (o := .cells #[.int .i64 0, .slice none 0 0] 48) (by simp))
  have HB := Lib.hid ((((Below.refl w.heap.size w).alloc (Nat.le_refl _) (.cells #[.int .i64 f.ver, .slice A n c] 34)).alloc (by simp) (.cells #[.int .i64 st, .slice B m d] 48)).alloc (by simp; omega) (.cells #[.int .i64 0, .slice none 0 0] 48))
  have HR := Lib.hid (((hr.alloc (.cells #[.int .i64 f.ver, .slice A n c] 34)).alloc (.cells #[.int .i64 st, .slice B m d] 48)).alloc (.cells #[.int .i64 0, .slice none 0 0] 48)); clear hr
  have HD := Lib.hid (((hd.alloc (.cells #[.int .i64 f.ver, .slice A n c] 34)).alloc (.cells #[.int .i64 st, .slice B m d] 48)).alloc (.cells #[.int .i64 0, .slice none 0 0] 48)); clear hd
  have HLm := Lib.hid HD.out.1
  have HLn := Lib.hid HR.out.1
  go_enter Try.func161, Try.ntmps161
  go_wp2_with fail
  refine (canS_any _ _ _ _ _ _ f st done x _ _ _ HR.out hok HD.out hm hmd).mono ?_
  rintro e w1 ⟨rfl, hb⟩
  have HX1 := Lib.hid ((hb.block _ (heap_lt HX.out)).trans HX.out)
  have HY1 := Lib.hid ((hb.block _ (heap_lt HY.out)).trans HY.out)
  have HZ1 := Lib.hid ((hb.block _ (heap_lt HZ.out)).trans HZ.out)
  have HB1 := Lib.hid (HB.out.trans (hb.mono HB.out.size))
  have HD1 := Lib.hid (HD.out.below hb)
  clear hb HX HY HZ HB HD
  have hs1 := heap_lt HZ1.out
  have z0 := (blk_cl (k := 0) HZ1.out rfl).1
  have z0' := (blk_cl (k := 0) HZ1.out rfl).2
  have z1 := (blk_cl (k := 1) HZ1.out rfl).1
  have z1' := (blk_cl (k := 1) HZ1.out rfl).2
  cases hcan : canB f st done x
  · have HE := Lib.hid (doR_no hcan)
    go_wp2_with fail
    have hres := set21 (u := .slice none 0 0) (set20 (u := .int .i64 0) HZ1.out)
    have e0 := (blk_cl (k := 0) hres rfl).1
    have e1 := (blk_cl (k := 1) hres rfl).1
    exact bodyPost_ret (v := .tuple #[.agg #[.int .i64 0, .slice none 0 0], .bool false]) (by simp [results, Try.results161, go_sem, e0, e1]) rfl ⟨none, 0, 0, by rw [HE.out, hcan], by rw [HE.out]; exact own_nil, (HB1.out.setCell (p := ⟨w.heap.size + 1 + 1, 0, none⟩) (by show w.heap.size ≤ w.heap.size + 1 + 1; omega) _).setCell (p := ⟨w.heap.size + 1 + 1, 1, none⟩) (by show w.heap.size ≤ w.heap.size + 1 + 1; omega) _⟩
  · have HE := Lib.hid (doR_yes hcan)
    have hle : m + 1 ≤ 1048576 := by
      have h1 := ord_len (can_ord hcan)
      rw [List.length_append, HLm.out, HLn.out] at h1
      have h2 := List.length_singleton (a := x)
      omega
    have HCAN := Lib.hid hcan; clear hcan
    have y1 := (blk_cl (k := 1) (heap_old (o := .cells #[] 9) HY1.out) rfl).1
    have HN := Lib.hid (own_new (w0 := w) (b := w1.heap.size) HB1.out rfl)
    have HDA := Lib.hid (HD1.out.alloc (.cells #[] 9))
    have HXA := Lib.hid (heap_old (o := .cells #[] 9) HX1.out)
    have HZA := Lib.hid (heap_old (o := .cells #[] 9) HZ1.out)
    go_wp2_with (at_builtin; refine apps_str w _ 0 [] _ B m d done HN.out HDA.out rfl (.tmp 15) (.tmp 17) rfl rfl rfl (by omega) ?_)
    intro v3 w3 how3 hg3
    have HX3 := Lib.hid (grown_blk hg3 HXA.out (by simp [Value.ownBlock]; omega))
    have HZ3 := Lib.hid (grown_blk hg3 HZA.out (by simp [Value.ownBlock]; omega))
    have HO3 := Lib.hid how3; clear how3
    have HN3x := Lib.hid (row_ne HO3.out.row HX3.out (by decide))
    have HN3z := Lib.hid (row_ne HO3.out.row HZ3.out (by decide))
    go_wp2_with (at_builtin; refine app_str w _ m done _ x ?c0 rfl (.tmp 18) (.tmp 20) rfl rfl rfl ?c1 (by omega) ?_)
    case c0 => exact HO3.out.alloc _
    case c1 => exact heap_new rfl
    intro v5 w5 how5 hg5
    replace how5 : Own 9 1 w w5 v5 (m + 1) ((done ++ [x]).map Value.string) := by rw [List.map_append]; exact how5
    have HX5 := Lib.hid (grown_blk hg5 (heap_old HX3.out) HN3x.out)
    have HZ5 := Lib.hid (grown_blk hg5 (heap_old HZ3.out) HN3z.out)
    obtain ⟨A5, c5, rfl, _⟩ := own_str how5.row
    have HO5 := Lib.hid how5; clear how5 hg5 hg3
    have hs5 := heap_lt HZ5.out
    have x1 := fun o => (blk_cl (k := 1) (heap_old (o := o) HX5.out) rfl).1
    have hne : w.heap.size + 1 + 1 ≠ w5.heap.size := by omega
    have y0 := (blk_cl (k := 0) HZ5.out rfl).1
    have y0' := (blk_cl (k := 0) HZ5.out rfl).2
    have y1 := (blk_cl (k := 1) HZ5.out rfl).1
    have y1' := (blk_cl (k := 1) HZ5.out rfl).2
    by_cases hmn : m + 1 = n
    · have e1 : (((m + 1 : Nat) : Int) == (n : Int)) = true := by rw [beq_iff_eq]; omega
      have e2 : (((m : Nat) : Int) + 1 == (n : Int)) = true := by rw [beq_iff_eq]; omega
      have HE2 := Lib.hid (show doR f st done x = (2, done ++ [x]) by rw [HE.out, HLm.out, HLn.out]; unfold forthI; rw [if_pos hmn])
      have HM := Lib.hid hmn; clear hmn
      have z0 := fun o u => (blk_cl (k := 0) (set_ne (b := w5.heap.size) (o := 0) (u := u) (heap_old (o := o) HZ5.out) hne) rfl).1
      have z0' := fun o u => (blk_cl (k := 0) (set_ne (b := w5.heap.size) (o := 0) (u := u) (heap_old (o := o) HZ5.out) hne) rfl).2
      have z1 := fun o u => (blk_cl (k := 1) (set_ne (b := w5.heap.size) (o := 0) (u := u) (heap_old (o := o) HZ5.out) hne) rfl).1
      have z1' := fun o u => (blk_cl (k := 1) (set_ne (b := w5.heap.size) (o := 0) (u := u) (heap_old (o := o) HZ5.out) hne) rfl).2
      go_wp2_with fail
      have hres := heap_old (o := .cells #[.int .i64 2, .slice A5 (m + 1) c5] 48) (set21 (u := .slice A5 (m + 1) c5) (set20 (u := .int .i64 2) HZ5.out))
      have e0 := (blk_cl (k := 0) hres rfl).1
      have e1 := (blk_cl (k := 1) hres rfl).1
      have hbl := (HO5.out.below.setCell (p := ⟨w.heap.size + 1 + 1, 0, none⟩) (by show w.heap.size ≤ w.heap.size + 1 + 1; omega) (.int .i64 2)).setCell (p := ⟨w.heap.size + 1 + 1, 1, none⟩) (by show w.heap.size ≤ w.heap.size + 1 + 1; omega) (.slice A5 (m + 1) c5)
      exact bodyPost_ret (v := .tuple #[.agg #[.int .i64 2, .slice A5 (m + 1) c5], .bool true]) (by simp [results, Try.results161, go_sem, e0, e1]) rfl ⟨_, _, _, by rw [HE2.out, HCAN.out], by rw [HE2.out]; exact (row_set (row_set HO5.out.row HZ5.out (by decide)) (set20 HZ5.out) (by decide)).alloc _, hbl.alloc hbl.size _⟩
    · have e1 : (((m + 1 : Nat) : Int) == (n : Int)) = false := by rw [beq_eq_false_iff_ne]; omega
      have e2 : (((m : Nat) : Int) + 1 == (n : Int)) = false := by rw [beq_eq_false_iff_ne]; omega
      have HE2 := Lib.hid (show doR f st done x = (0, done ++ [x]) by rw [HE.out, HLm.out, HLn.out]; unfold forthI; rw [if_neg hmn])
      clear hmn
      have z0 := fun o => (blk_cl (k := 0) (heap_old (o := o) HZ5.out) rfl).1
      have z0' := fun o => (blk_cl (k := 0) (heap_old (o := o) HZ5.out) rfl).2
      have z1 := fun o => (blk_cl (k := 1) (heap_old (o := o) HZ5.out) rfl).1
      have z1' := fun o => (blk_cl (k := 1) (heap_old (o := o) HZ5.out) rfl).2
      go_wp2_with fail
      have hres := heap_old (o := .cells #[.int .i64 0, .slice A5 (m + 1) c5] 48) (set21 (u := .slice A5 (m + 1) c5) (set20 (u := .int .i64 0) HZ5.out))
      have e0 := (blk_cl (k := 0) hres rfl).1
      have e1 := (blk_cl (k := 1) hres rfl).1
      have hbl := (HO5.out.below.setCell (p := ⟨w.heap.size + 1 + 1, 0, none⟩) (by show w.heap.size ≤ w.heap.size + 1 + 1; omega) (.int .i64 0)).setCell (p := ⟨w.heap.size + 1 + 1, 1, none⟩) (by show w.heap.size ≤ w.heap.size + 1 + 1; omega) (.slice A5 (m + 1) c5)
      exact bodyPost_ret (v := .tuple #[.agg #[.int .i64 0, .slice A5 (m + 1) c5], .bool true]) (by simp [results, Try.results161, go_sem, e0, e1]) rfl ⟨_, _, _, by rw [HE2.out, HCAN.out], by rw [HE2.out]; exact (row_set (row_set HO5.out.row HZ5.out (by decide)) (set20 HZ5.out) (by decide)).alloc _, hbl.alloc hbl.size _⟩
end Go.Proofs.Ytakeijgoonagcaa

/- Runs: a run that goes back, the reference's side. -/
namespace Go.Proofs.Ytakeijgoonagcaa
open Go.RowKit

theorem back_eq (ss : List Step) (done : List Str) (m : Nat) : backI ss done m = if leftN ss done m = m then 3 else 1 := by
  have h := back_left (ss := ss) (done := done) (m := m)
  have h2 := leftN_le ss done m
  split
  · rename_i e; exact h.2.2 e
  · rename_i e; exact h.1.2 (by omega)

set_option maxRecDepth 100000 in
set_option maxHeartbeats 1000000 in
theorem backS_any (A B : Option Addr) (n c m d : Nat) (f : Flow) (done : List Str) (lo lo' : Nat) (w : World) (hr : RStep w lo A n f.steps) (hok : okSteps f.steps) (hd : RStr w lo' B m done) (hm : m ≤ 1048576) (hord : ordB f.steps done = true) :
    Calls Try.prog 126 #[.agg #[.int .i64 f.ver, .slice A n c], .slice B m d] w fun e w' => ∃ B' d', e = .returned (.agg #[.int .i64 (backI f.steps done m), .slice B' m d']) ∧
      w'.ownsRow w.heap.size 9 1 (.slice B' m d') m (done.map Value.string) ∧ Below w.heap.size w w' := by
  have hn : n ≤ 1048576 := by have := hok.1; rw [hr.1] at this; exact this
  have HLm := Lib.hid hd.1
  have HX := Lib.hid (heap_old (o := .cells #[.int .i64 0, .slice none 0 0] 48) (heap_new (w := w) (o := .cells #[.int .i64 f.ver, .slice A n c] 34) rfl))
  have HZ := Lib.hid (heap_new (w := w.alloc (.cells #[.int .i64 f.ver, .slice A n c] 34)) (b := w.heap.size + 1) (o := .cells #[.int .i64 0, .slice none 0 0] 48) (by simp))
  have HB := Lib.hid (((Below.refl w.heap.size w).alloc (Nat.le_refl _) (.cells #[.int .i64 f.ver, .slice A n c] 34)).alloc (by simp) (.cells #[.int .i64 0, .slice none 0 0] 48))
  have HR := Lib.hid ((hr.alloc (.cells #[.int .i64 f.ver, .slice A n c] 34)).alloc (.cells #[.int .i64 0, .slice none 0 0] 48)); clear hr
  have HD := Lib.hid ((hd.alloc (.cells #[.int .i64 f.ver, .slice A n c] 34)).alloc (.cells #[.int .i64 0, .slice none 0 0] 48)); clear hd
  have HE := Lib.hid (back_eq f.steps done m)
  have HLEFT := Lib.hid (fun (w' : World) (hr : RStep w' lo A n f.steps) (hd : RStr w' lo' B m done) => l3Left_any _ _ n c m d f.steps done _ _ _ hr hn hd hm (fun j hj => ord_all hord j (by rw [HLm.out]; exact hj)))
  have hle := leftN_le f.steps done m
  generalize leftN f.steps done m = l at *
  go_enter Try.func126, Try.ntmps126
  have HSZ := Lib.hid (show ((w.alloc (.cells #[.int .i64 f.ver, .slice A n c] 34)).alloc (.cells #[.int .i64 0, .slice none 0 0] 48)).heap.size = w.heap.size + 1 + 1 by simp)
  have HN := Lib.hid (own_new (w0 := w) (b := w.heap.size + 1 + 1) HB.out HSZ.out.symm)
  have HDA := Lib.hid (HD.out.alloc (.cells #[] 9))
  have HXA := Lib.hid (heap_old (o := .cells #[] 9) HX.out)
  have HZA := Lib.hid (heap_old (o := .cells #[] 9) HZ.out)
  go_wp2_with (at_builtin; refine apps_str w _ 0 [] _ B m d done HN.out HDA.out rfl (.tmp 6) (.tmp 7) rfl rfl rfl (by omega) ?_)
  intro v3 w3 how3 hg3
  have HX3 := Lib.hid (grown_blk hg3 HXA.out (by simp [Value.ownBlock]; omega))
  have HZ3 := Lib.hid (grown_blk hg3 HZA.out (by simp [Value.ownBlock]))
  obtain ⟨A3, c3, rfl, _⟩ := own_str how3.row
  have HO3 := Lib.hid how3; clear how3
  have hs3 := heap_lt HZ3.out
  have hne : w.heap.size + 1 ≠ w3.heap.size := by omega
  have hb13 : Below ((w.alloc (.cells #[.int .i64 f.ver, .slice A n c] 34)).alloc (.cells #[.int .i64 0, .slice none 0 0] 48)).heap.size ((w.alloc (.cells #[.int .i64 f.ver, .slice A n c] 34)).alloc (.cells #[.int .i64 0, .slice none 0 0] 48)) w3 := ((Below.refl ((w.alloc (.cells #[.int .i64 f.ver, .slice A n c] 34)).alloc (.cells #[.int .i64 0, .slice none 0 0] 48)).heap.size ((w.alloc (.cells #[.int .i64 f.ver, .slice A n c] 34)).alloc (.cells #[.int .i64 0, .slice none 0 0] 48))).alloc (Nat.le_refl _) (.cells #[] 9)).grown hg3 (by simp) (by rw [HSZ.out]; simp [Value.ownBlock])
  have HRL := Lib.hid (fun o => HLEFT.out (w3.alloc o) ((HR.out.below hb13).alloc o) ((HD.out.below hb13).alloc o))
  clear hb13 hg3
  have x1 := fun o => (blk_cl (k := 1) (heap_old (o := o) HX3.out) rfl).1
  have y0 := (blk_cl (k := 0) HZ3.out rfl).1
  have y0' := (blk_cl (k := 0) HZ3.out rfl).2
  have y1 := (blk_cl (k := 1) HZ3.out rfl).1
  have y1' := (blk_cl (k := 1) HZ3.out rfl).2
  have z0 := fun o => (blk_cl (k := 0) (heap_old (o := o) HZ3.out) rfl).1
  have z0' := fun o => (blk_cl (k := 0) (heap_old (o := o) HZ3.out) rfl).2
  have z1 := fun o => (blk_cl (k := 1) (heap_old (o := o) HZ3.out) rfl).1
  have z1' := fun o => (blk_cl (k := 1) (heap_old (o := o) HZ3.out) rfl).2
  by_cases hlm : l = m
  · have e1 : ((l : Int) == (m : Int)) = true := by rw [beq_iff_eq]; omega
    have HE2 := Lib.hid (show backI f.steps done m = 3 by rw [HE.out, if_pos hlm])
    clear hlm
    have v0 := fun o u => (blk_cl (k := 0) (set_ne (b := w3.heap.size) (o := 0) (u := u) (heap_old (o := o) HZ3.out) hne) rfl).1
    have v0' := fun o u => (blk_cl (k := 0) (set_ne (b := w3.heap.size) (o := 0) (u := u) (heap_old (o := o) HZ3.out) hne) rfl).2
    have v1 := fun o u => (blk_cl (k := 1) (set_ne (b := w3.heap.size) (o := 0) (u := u) (heap_old (o := o) HZ3.out) hne) rfl).1
    have v1' := fun o u => (blk_cl (k := 1) (set_ne (b := w3.heap.size) (o := 0) (u := u) (heap_old (o := o) HZ3.out) hne) rfl).2
    go_wp2_with (go_at_call 156; refine (HRL.out _).mono ?_; rintro e w' ⟨rfl, rfl⟩)
    have hres := heap_old (o := .cells #[.int .i64 3, .slice A3 m c3] 48) (set21 (u := .slice A3 m c3) (set20 (u := .int .i64 3) HZ3.out))
    have e0 := (blk_cl (k := 0) hres rfl).1
    have e1 := (blk_cl (k := 1) hres rfl).1
    have hbl := (HO3.out.below.setCell (p := ⟨w.heap.size + 1, 0, none⟩) (Nat.le_succ _) (.int .i64 3)).setCell (p := ⟨w.heap.size + 1, 1, none⟩) (Nat.le_succ _) (.slice A3 m c3)
    exact bodyPost_ret (v := .agg #[.int .i64 3, .slice A3 m c3]) (by simp [results, Try.results126, go_sem, e0, e1]) rfl ⟨_, _, by rw [HE2.out], (row_set (row_set HO3.out.row HZ3.out (by decide)) (set20 HZ3.out) (by decide)).alloc _, hbl.alloc hbl.size _⟩
  · have e1 : ((l : Int) == (m : Int)) = false := by rw [beq_eq_false_iff_ne]; omega
    have HE2 := Lib.hid (show backI f.steps done m = 1 by rw [HE.out, if_neg hlm])
    clear hlm
    go_wp2_with (go_at_call 156; refine (HRL.out _).mono ?_; rintro e w' ⟨rfl, rfl⟩)
    have hres := heap_old (o := .cells #[.int .i64 1, .slice A3 m c3] 48) (set21 (u := .slice A3 m c3) (set20 (u := .int .i64 1) HZ3.out))
    have e0 := (blk_cl (k := 0) hres rfl).1
    have e1 := (blk_cl (k := 1) hres rfl).1
    have hbl := (HO3.out.below.setCell (p := ⟨w.heap.size + 1, 0, none⟩) (Nat.le_succ _) (.int .i64 1)).setCell (p := ⟨w.heap.size + 1, 1, none⟩) (Nat.le_succ _) (.slice A3 m c3)
    exact bodyPost_ret (v := .agg #[.int .i64 1, .slice A3 m c3]) (by simp [results, Try.results126, go_sem, e0, e1]) rfl ⟨_, _, by rw [HE2.out], (row_set (row_set HO3.out.row HZ3.out (by decide)) (set20 HZ3.out) (by decide)).alloc _, hbl.alloc hbl.size _⟩
end Go.Proofs.Ytakeijgoonagcaa

/- Drawing runs. -/
namespace Go.Proofs.Ytakeijgoonagcaa
open Go.RowKit

/-- What drawing a run leaves. -/
def RunQ (w0 : World) (g q : Nat) (w : World) (e : Ending) (w' : World) : Prop :=
  ∃ (st : Int) (A : Option Addr) (n c : Nat) (xs : List Str), e = .returned (.agg #[.int .i64 st, .slice A n c]) ∧ SStr w' w.heap.size A n xs ∧ n ≤ c ∧ n ≤ 9 ∧ Dr 158 w0 g (q + 100) w' ∧ On g w w'

/-- The head of the loop. -/
structure RunI (w : World) (g q : Nat) (f : Flow) (A : Option Addr) (n c : Nat) (R : Nat) (wr : World) (st : Int) (B : Option Addr) (m d : Nat) (done : List Str) : Prop where
  ord : ordB f.steps done = true
  row : wr.ownsRow (w.heap.size + 2) 9 1 (.slice B m d) m (done.map Value.string)
  dr : Dr 158 w g q wr
  flow : wr.heap[w.heap.size]? = some (.cells #[.int .i64 f.ver, .slice A n c] 34 (0, 0))
  res : wr.heap[w.heap.size + 1]? = some (.cells #[.int .i64 0, .slice none 0 0] 48 (0, 0))
  box : wr.heap[R]? = some (.cells #[.int .i64 st, .slice B m d] 48 (0, 0))
theorem RunI.len {w : World} {g q : Nat} {f : Flow} {A : Option Addr} {n c R : Nat} {wr : World} {st : Int} {B : Option Addr} {m d : Nat} {done : List Str} (h : RunI w g q f A n c R wr st B m d done) : done.length = m := by
  have := h.row.1; simpa using this

set_option maxRecDepth 100000 in
set_option maxHeartbeats 4000000 in
theorem l91Run_any (w0 : World) (g q : Nat) (A : Option Addr) (n c : Nat) (f : Flow) (lo : Nat) (w : World) (h : Dr 158 w0 g q w) (hq : q ≤ 1099511620000) (hr : RStep w lo A n f.steps) (hok : okSteps f.steps) (hn8 : n ≤ 8) (hlo : g < lo) :
    Calls Try.prog 132 #[.pointer (some ⟨g, 0, none⟩), .agg #[.int .i64 f.ver, .slice A n c]] w (RunQ w0 g q w) := by
  have HD := Lib.hid h; clear h
  have hgl := HD.out.lt
  have hd0 := (HD.out.here.alloc (.cells #[.int .i64 f.ver, .slice A n c] 34)).alloc (.cells #[.int .i64 0, .slice none 0 0] 48)
  have HX0 := Lib.hid (heap_old (o := .cells #[.int .i64 0, .slice none 0 0] 48) (heap_new (w := w) (o := .cells #[.int .i64 f.ver, .slice A n c] 34) rfl))
  have HZ0 := Lib.hid (heap_new (w := w.alloc (.cells #[.int .i64 f.ver, .slice A n c] 34)) (b := w.heap.size + 1) (o := .cells #[.int .i64 0, .slice none 0 0] 48) (by simp))
  have HR0 := Lib.hid ((hr.alloc (.cells #[.int .i64 f.ver, .slice A n c] 34)).alloc (.cells #[.int .i64 0, .slice none 0 0] 48))
  have HRW := Lib.hid hr; clear hr
  have HLn := Lib.hid HR0.out.1
  go_enter Try.func132, Try.ntmps132
  go_wp2_with fail
  refine (runNewS_any _ _ _ f _ _ HR0.out hok).mono ?_
  rintro e w1 ⟨B1, d1, rfl, hrow1, hb1⟩
  have hs0 : ((w.alloc (.cells #[.int .i64 f.ver, .slice A n c] 34)).alloc (.cells #[.int .i64 0, .slice none 0 0] 48)).heap.size = w.heap.size + 2 := by simp
  rw [hs0] at hrow1
  have hd1 := hd0.below hb1
  have HX1 := Lib.hid ((hb1.block _ (heap_lt HX0.out)).trans HX0.out)
  have HZ1 := Lib.hid ((hb1.block _ (heap_lt HZ0.out)).trans HZ0.out)
  have hs1 : w.heap.size + 2 ≤ w1.heap.size := by have := hb1.size; rw [hs0] at this; exact this
  clear hb1 hd0 HX0 HZ0 HR0 hs0
  have HX2 := Lib.hid (heap_old (o := .cells #[.int .i64 0, .slice B1 0 d1] 48) HX1.out)
  have HZ2 := Lib.hid (heap_old (o := .cells #[.int .i64 0, .slice B1 0 d1] 48) HZ1.out)
  have HY2 := Lib.hid (heap_new (w := w1) (o := .cells #[.int .i64 0, .slice B1 0 d1] 48) rfl)
  have HROW2 := Lib.hid (hrow1.alloc (.cells #[.int .i64 0, .slice B1 0 d1] 48)); clear hrow1
  have hd2 := hd1.alloc (.cells #[.int .i64 0, .slice B1 0 d1] 48)
  have z0 := (blk_cl (k := 0) HZ2.out rfl).1
  have z0' := (blk_cl (k := 0) HZ2.out rfl).2
  have z1 := (blk_cl (k := 1) HZ2.out rfl).1
  have z1' := (blk_cl (k := 1) HZ2.out rfl).2
  cases hf : flowB f
  · go_wp2_with fail
    have hres := set21 (u := .slice none 0 0) (set20 (u := .int .i64 0) HZ2.out)
    have e0 := (blk_cl (k := 0) hres rfl).1
    have e1 := (blk_cl (k := 1) hres rfl).1
    have hdr := (hd2.set_ (b := w.heap.size + 1) (by omega) (by omega) 0 (.int .i64 0)).set_ (b := w.heap.size + 1) (by omega) (by omega) 1 (.slice none 0 0)
    exact bodyPost_ret (v := .agg #[.int .i64 0, .slice none 0 0]) (by simp [results, Try.results132, go_sem, e0, e1]) rfl ⟨_, _, _, _, [], rfl, ⟨rfl, fun h => absurd h (by omega)⟩, Nat.le_refl _, by omega, (HD.out.trans hdr).more (by omega), hdr.on⟩
  have HF := Lib.hid hf; clear hf
  have x1 := (blk_cl (k := 1) HX2.out rfl).1
  go_wp2_with fail
  refine (pick w g _ _ _ hd2 (by omega) (by omega)).mono ?_
  rintro e w3 ⟨v, rfl, hv0, hv1, hv2, hd3, hon3⟩
  obtain ⟨v, rfl⟩ := Int.eq_ofNat_of_zero_le hv0
  have hvn : v < n + 2 := by have := hv1 (by omega); omega
  clear hv0 hv1 hv2 hd1 hd2
  have HX3 := Lib.hid (hon3.blk HX2.out (by omega))
  have HZ3 := Lib.hid (hon3.blk HZ2.out (by omega))
  have HY3 := Lib.hid (hon3.blk HY2.out (by omega))
  have HROW3 := Lib.hid (row_on HROW2.out hon3 (by omega))
  have HD3 := Lib.hid hd3; clear hd3 hon3 z0 z0' z1 z1' x1 HX1 HZ1 HX2 HZ2 HY2 HROW2
  have hs3 := heap_lt HY3.out
  go_wp2_with fail
  go_loopw [8] (fun i wr => ∃ (k : Nat) (st : Int) (B : Option Addr) (m d : Nat) (done : List Str), k ≤ v ∧ i = .int .i64 k ∧ RunI w g (q + 1 + k) f A n c w1.heap.size wr st B m d done) (fun i _ => v - (intOf i).toNat)
  case atStart => exact ⟨0, 0, B1, 0, d1, [], Nat.zero_le _, rfl, ord_nil _, HROW3.out, HD3.out, HX3.out, HZ3.out, HY3.out⟩
  case round =>
    obtain ⟨wo, rfl⟩ : ∃ wo : World, wo = wr := ⟨_, rfl⟩
    obtain ⟨k, st, B, m, d, done, hk, rfl, hI⟩ := hrel
    have HI := Lib.hid hI; clear hI
    have hmn : m ≤ n := by have h1 := ord_len HI.out.ord; rw [HI.out.len, HLn.out] at h1; exact h1
    have hmd : m ≤ d := own_capN HI.out.row
    obtain ⟨B', d', e', hss⟩ := own_sstr HI.out.row
    injection e' with e1 _ e2
    subst e1; subst e2
    have HS := Lib.hid hss; clear hss
    have hso := HI.out.dr.on.size
    have x0 := (blk_cl (k := 0) HI.out.flow rfl).1
    have x1 := (blk_cl (k := 1) HI.out.flow rfl).1
    have y0 := (blk_cl (k := 0) HI.out.box rfl).1
    have y1 := (blk_cl (k := 1) HI.out.box rfl).1
    by_cases hlt : k < v
    · go_wp2_with fail
      refine (flowReadyS_any _ _ _ _ _ _ f done _ _ _ (HRW.out.on HI.out.dr.on hlo) hok HS.out.hat (by omega)).mono ?_
      rintro e w4 ⟨A4, n4, c4, rfl, h4, hb4⟩
      have HX4 := Lib.hid ((hb4.block _ (heap_lt HI.out.flow)).trans HI.out.flow)
      have HZ4 := Lib.hid ((hb4.block _ (heap_lt HI.out.res)).trans HI.out.res)
      have HY4 := Lib.hid ((hb4.block _ (heap_lt HI.out.box)).trans HI.out.box)
      have HD4 := Lib.hid (HI.out.dr.below hb4)
      have HROW4 := Lib.hid (row_below HI.out.row hb4)
      have HS4 := Lib.hid (HS.out.below hb4)
      have H4 := Lib.hid h4; clear h4
      have hs4 := hb4.size
      clear hb4 x0 x1 y0 y1
      have y0 := (blk_cl (k := 0) HY4.out rfl).1
      by_cases hgo : 0 < n4 ∧ st = 0
      · obtain ⟨hn4, rfl⟩ := hgo
        obtain ⟨b4, off4, rfl, ⟨hb41, hb42⟩, hc4⟩ := RStr.at_ H4.out hn4
        have hn48 : n4 ≤ 8 := by
          have h1 := H4.out.1
          rw [readyF_yes HF.out] at h1
          have h2 := rdyL_len f.steps done
          rw [HLn.out, h1] at h2
          omega
        have HC4 := Lib.hid (fun j (hj : j < n4) => (hc4 j hj).1); clear hc4
        have x0 := (blk_cl (k := 0) HX4.out rfl).1
        have x1 := (blk_cl (k := 1) HX4.out rfl).1
        have y1 := (blk_cl (k := 1) HY4.out rfl).1
        have HSB : Hid (∀ w', On g w4 w' → ((w'.cell? ⟨w.heap.size, 0, none⟩ = some (.int .i64 f.ver) ∧ w'.cell? ⟨w.heap.size, 1, none⟩ = some (.slice A n c)) ∧ (w'.cell? ⟨w1.heap.size, 0, none⟩ = some (.int .i64 0) ∧ w'.cell? ⟨w1.heap.size, 1, none⟩ = some (.slice B m d)) ∧ (∀ j : Nat, w'.cell? ⟨b4, off4 + j, none⟩ = w4.cell? ⟨b4, off4 + j, none⟩)) ∧ On g w4 w') := fun w' h =>
          ⟨⟨⟨(h.cell (heap_lt HX4.out) (by omega)).trans x0, (h.cell (heap_lt HX4.out) (by omega)).trans x1⟩, ⟨(h.cell (heap_lt HY4.out) (by omega)).trans y0, (h.cell (heap_lt HY4.out) (by omega)).trans y1⟩, fun j => h.cell (o := off4 + j) hb42 (by omega)⟩, h⟩
        go_upto_region 10 with fail
        go_cut [10] (fun s10 wx => ∃ (b m' d' : Nat) (st' : Int) (B' : Option Addr) (done' : List Str), s10 = .pointer (some ⟨b, 0, none⟩) ∧ wx.heap[b]? = some (.cells #[.int .i64 st', .slice B' m' d'] 48 (0, 0)) ∧ w4.heap.size ≤ b ∧ wx.ownsRow (w.heap.size + 2) 9 1 (.slice B' m' d') m' (done'.map Value.string) ∧ ordB f.steps done' = true ∧ Dr 158 w4 g (q + 1 + k + 1) wx)
        case first =>
          have hd4 := HD4.out.here
          have hne4 : w4.heap.size ≠ g := by omega
          have hg4 : g < w4.heap.size := by omega
          have HPK := Lib.hid (fun (cur : World) (h : Dr 158 w4 g (q + 1 + k) cur) => (pick w4 g (q + 1 + k) (n4 : Int) cur h (by omega) (by omega)).mono (R' := fun e w' => ∃ v9 : Nat, e = .returned (.int .i64 (v9 : Int)) ∧ v9 < n4 ∧ Dr 158 w4 g (q + 1 + k + 1) w' ∧ w4.cell? ⟨b4, off4 + v9, none⟩ = some (.string (nth (readyF f done) v9)) ∧ On g cur w') (by
            rintro e w' ⟨x, rfl, hx0, hx1, _, hd, hon⟩
            obtain ⟨x, rfl⟩ := Int.eq_ofNat_of_zero_le hx0
            have hx : x < n4 := by have := hx1 (by omega); omega
            exact ⟨x, rfl, hx, hd, HC4.out x hx, hon⟩))
          have HDO := Lib.hid (fun (cur : World) (x : Str) (h : On g w4 cur) (hd : Dr 158 w4 g (q + 1 + k + 1) cur) => (doS_any A B n c m d f 0 done x lo (w.heap.size + 2) cur ((HRW.out.on HD4.out.on hlo).on h hlo) hok ((HS4.out.on h (by omega)).hat) (by omega) hmd).mono (R' := fun e w' => ∃ (B6 : Option Addr) (n6 d6 : Nat), e = .returned (.tuple #[.agg #[.int .i64 (doR f 0 done x).1, .slice B6 n6 d6], .bool (canB f 0 done x)]) ∧
              w'.ownsRow (w.heap.size + 2) 9 1 (.slice B6 n6 d6) n6 ((doR f 0 done x).2.map Value.string) ∧ On g w4 w' ∧ Dr 158 w4 g (q + 1 + k + 1) w' ∧ Below cur.heap.size cur w') (by
            rintro e w' ⟨B6, n6, d6, rfl, hrow, hb⟩
            exact ⟨B6, n6, d6, rfl, row_mono hrow (by have h8 := h.size; have h9 := heap_lt HY4.out; omega), h.trans (On.of_below hb), hd.below hb, hb⟩))
          go_region_held3 (fun w' => ((w'.cell? ⟨w.heap.size, 0, none⟩ = some (.int .i64 f.ver) ∧ w'.cell? ⟨w.heap.size, 1, none⟩ = some (.slice A n c)) ∧ (w'.cell? ⟨w1.heap.size, 0, none⟩ = some (.int .i64 0) ∧ w'.cell? ⟨w1.heap.size, 1, none⟩ = some (.slice B m d)) ∧ (∀ j : Nat, w'.cell? ⟨b4, off4 + j, none⟩ = w4.cell? ⟨b4, off4 + j, none⟩)) ∧ On g w4 w')
            ((refine HSB.out _ ?_; (repeat (first | with_reducible exact hbw | with_reducible exact On.refl _ _ | refine On.setNew ?_ (by first | exact Nat.le_refl _ | omega) _ _ | refine On.drew ?_ | refine On.alloc ?_ _ | fail "x")); done))
            (first
              | (go_at_call 81; refine (HPK.out _ (by repeat (first | with_reducible exact hd4 | apply Dr.drew | apply Dr.alloc))).mono ?_; rintro e w5 ⟨v9, rfl, hv9, hd5, e9, hon5⟩; have hbw : On g w4 w5 := hd5.on; have hs5 := hd5.on.size; (first | (have hz5 := hon5.blk (b := w4.heap.size) (x := .cells #[.int .i64 0, .slice none 0 0] 48) (heap_new rfl) hne4) | skip))
              | (go_at_call 161; refine (HDO.out _ _ (by repeat (first | with_reducible exact hbw | apply On.drew | apply On.alloc)) (by repeat (first | with_reducible exact hd5 | apply Dr.drew | apply Dr.alloc))).mono ?_; rintro e w6 ⟨B6, n6, d6, rfl, hrow6, hon6, hd6, hb6⟩; have hbw := hon6; (first | (have hz6 := (hb6.block _ (heap_lt hz5)).trans hz5; obtain ⟨f0, g0⟩ := blk_cl (k := 0) hz6 rfl; obtain ⟨f1, g1⟩ := blk_cl (k := 1) hz6 rfl; have hz7 := heap_lt hz6) | (have hz6 := (hb6.block w5.heap.size (by simp)).trans (heap_new (w := w5) (o := .cells #[.int .i64 0, .slice none 0 0] 48) rfl); obtain ⟨f0, g0⟩ := blk_cl (k := 0) hz6 rfl; obtain ⟨f1, g1⟩ := blk_cl (k := 1) hz6 rfl; have hz7 := heap_lt hz6) | skip))
              | fail "no arm")
          all_goals
            go_wp2_with fail
            go_meet
            have hord := doR_ord f 0 done (nth (readyF f done) v9)
            first
              | with_reducible exact ⟨_, _, _, _, _, _, rfl, heap_new rfl, hon6.size, hrow6.alloc _, hord, hd6.alloc _⟩
              | with_reducible exact ⟨_, _, _, _, _, _, rfl, set21 (set20 hz6), Nat.le_refl _, row_set (row_set hrow6 hz6 (by decide)) (set20 hz6) (by decide), hord, (hd6.set_ (Nat.le_refl _) hg4 _ _).set_ (Nat.le_refl _) hg4 _ _⟩
              | with_reducible exact ⟨_, _, _, _, _, _, rfl, set21 (set20 hz6), hs5, row_set (row_set hrow6 hz6 (by decide)) (set20 hz6) (by decide), hord, (hd6.set_ hs5 (Nat.lt_of_lt_of_le hg4 hs5) _ _).set_ hs5 (Nat.lt_of_lt_of_le hg4 hs5) _ _⟩
              | fail "x"
        case rest =>
          obtain ⟨b, m', d', st', B', done', rfl, hb, hle, hrow, hord, hdr⟩ := hcut
          have hne : w1.heap.size ≠ g := by omega
          have HYC := Lib.hid (hdr.on.blk HY4.out hne)
          have HXC := Lib.hid (hdr.on.blk HX4.out (by omega))
          have HZC := Lib.hid (hdr.on.blk HZ4.out (by omega))
          have HRC := Lib.hid hrow; clear hrow
          have HDC := Lib.hid (HD4.out.trans hdr); clear hdr
          have b0 := (blk_cl (k := 0) hb rfl).1
          have b1 := (blk_cl (k := 1) hb rfl).1
          have y0 := (blk_cl (k := 0) HYC.out rfl).1
          have y0' := (blk_cl (k := 0) HYC.out rfl).2
          have y1 := (blk_cl (k := 1) HYC.out rfl).1
          have y1' := (blk_cl (k := 1) HYC.out rfl).2
          go_wp2_with fail
          go_roundw
          case rel =>
            refine ⟨k + 1, st', B', m', d', done', by omega, by go_num, hord, row_set (row_set HRC.out HYC.out (by decide)) (set20 HYC.out) (by decide), ?_, set_ne (set_ne HXC.out (by omega)) (by omega), set_ne (set_ne HZC.out (by omega)) (by omega), set21 (set20 HYC.out)⟩
            exact ((HDC.out.set_ (by omega) (by omega) _ _).set_ (by omega) (by omega) _ _).more (by omega)
          case measure => simp [intOf]; omega
      · have hcase : n4 = 0 ∨ (0 < n4 ∧ (st == 0) = false) := by
          rcases Nat.eq_zero_or_pos n4 with h | h
          · exact .inl h
          · refine .inr ⟨h, ?_⟩
            rw [beq_eq_false_iff_ne]; intro e; exact hgo ⟨h, e⟩
        clear hgo
        have HREL := Lib.hid (show ∃ (st' : Int) (B' : Option Addr) (m' d' : Nat) (done' : List Str), RunI w g (q + 1 + (k + 1 : Nat)) f A n c w1.heap.size w4 st' B' m' d' done' from
          ⟨st, B, m, d, done, HI.out.ord, HROW4.out, HD4.out.more (by omega), HX4.out, HZ4.out, HY4.out⟩)
        rcases hcase with rfl | ⟨hn4, hst⟩
        all_goals
          go_wp2_with fail
          go_roundw
          case rel =>
            obtain ⟨st', B', m', d', done', h⟩ := HREL.out
            exact ⟨k + 1, st', B', m', d', done', by omega, by go_num, h⟩
          case measure => simp [intOf]; omega
    · obtain rfl : k = v := by omega
      have hne : w1.heap.size ≠ g := by omega
      have HTAIL : Hid (∀ (wz : World) (st' : Int) (B' : Option Addr) (m' d' : Nat) (done' : List Str), RunI w g (q + 30) f A n c w1.heap.size wz st' B' m' d' done' → m' ≤ n ∧ m' ≤ d') := fun wz st' B' m' d' done' h => by
        refine ⟨?_, own_capN h.row⟩
        have h1 := ord_len h.ord
        rw [h.len, HLn.out] at h1
        exact h1
      by_cases hst : st = 0
      · subst hst
        go_wp2_with fail
        refine (pick w g _ _ _ HI.out.dr (by omega) (by omega)).mono ?_
        rintro e w5 ⟨x, rfl, _, _, _, hd5, hon5⟩
        have HY5 := Lib.hid (hon5.blk HI.out.box hne)
        have HX5 := Lib.hid (hon5.blk HI.out.flow (by omega))
        have HZ5 := Lib.hid (hon5.blk HI.out.res (by omega))
        have HR5 := Lib.hid (row_on HI.out.row hon5 (by omega))
        have HS5 := Lib.hid (HS.out.on hon5 (by omega))
        have hs5 := hon5.size
        clear x0 x1 y0 y1
        by_cases hx : x = 0
        · subst hx
          have x0 := (blk_cl (k := 0) HX5.out rfl).1
          have x1 := (blk_cl (k := 1) HX5.out rfl).1
          have y1 := (blk_cl (k := 1) HY5.out rfl).1
          go_wp2_with fail
          refine (backS_any A B n c m d f done _ _ _ (HRW.out.on hd5.on hlo) hok HS5.out.hat (by omega) HI.out.ord).mono ?_
          rintro e w6 ⟨B6, d6, rfl, hrow6, hb6⟩
          have HY6 := Lib.hid ((hb6.block _ (heap_lt HY5.out)).trans HY5.out)
          have HX6 := Lib.hid ((hb6.block _ (heap_lt HX5.out)).trans HX5.out)
          have HZ6 := Lib.hid ((hb6.block _ (heap_lt HZ5.out)).trans HZ5.out)
          have hd6 := hd5.below hb6
          have HU := Lib.hid (show RunI w g (q + 30) f A n c w1.heap.size ((w6.setCell ⟨w1.heap.size, 0, none⟩ (.int .i64 (backI f.steps done m))).setCell ⟨w1.heap.size, 1, none⟩ (.slice B6 m d6)) (backI f.steps done m) B6 m d6 done from
            ⟨HI.out.ord, row_set (row_set (row_mono hrow6 (by have h9 := heap_lt HY5.out; omega)) HY6.out (by decide)) (set20 HY6.out) (by decide), ((hd6.set_ (by omega) (by omega) _ _).set_ (by omega) (by omega) _ _).more (by omega), set_ne (set_ne HX6.out (by omega)) (by omega), set_ne (set_ne HZ6.out (by omega)) (by omega), set21 (set20 HY6.out)⟩)
          clear hrow6 hb6 hd6 x0 x1 y1
          generalize backI f.steps done m = st' at *
          have y0 := (blk_cl (k := 0) HY6.out rfl).1
          have y0' := (blk_cl (k := 0) HY6.out rfl).2
          have y1 := (blk_cl (k := 1) HY6.out rfl).1
          have y1' := (blk_cl (k := 1) HY6.out rfl).2
          go_wp2_with fail
          refine (pick w g _ _ _ HU.out.dr (by omega) (by omega)).mono ?_
          rintro e w7 ⟨z, rfl, _, _, _, hd7, hon7⟩
          obtain ⟨hmn', hmd'⟩ := HTAIL.out _ _ _ _ _ _ HU.out
          have HY7 := Lib.hid (hon7.blk HU.out.box hne)
          have HZ7 := Lib.hid (hon7.blk HU.out.res (by omega))
          have HR7 := Lib.hid (row_on HU.out.row hon7 (by omega))
          have hs7 : w.heap.size + 2 ≤ w7.heap.size := by have h9 := heap_lt HY7.out; omega
          have HD7 := Lib.hid hd7; clear hd7 hon7
          by_cases hz : z = 0
          · subst hz
            go_wp2_with fail
            refine (pick w g _ _ _ HD7.out (by omega) (by omega)).mono ?_
            rintro e w8 ⟨y, rfl, hy0, hy1, _, hd8, hon8⟩
            have hy6 := hy1 (by omega)
            clear hy1
            have HY8 := Lib.hid (hon8.blk HY7.out hne)
            have HZ8 := Lib.hid (hon8.blk HZ7.out (by omega))
            have HR8 := Lib.hid (row_on HR7.out hon8 (by omega))
            have v0 := (blk_cl (k := 0) HY8.out rfl).1
            have v0' := (blk_cl (k := 0) HY8.out rfl).2
            have v1 := (blk_cl (k := 1) HY8.out rfl).1
            have u0 := (blk_cl (k := 0) HZ8.out rfl).1
            have u0' := (blk_cl (k := 0) HZ8.out rfl).2
            have u1 := (blk_cl (k := 1) HZ8.out rfl).1
            have u1' := (blk_cl (k := 1) HZ8.out rfl).2
            have HZ9 := Lib.hid (set_ne (b := w1.heap.size) (o := 0) (u := .int .i64 (y - 1)) HZ8.out (by omega))
            have t0 := (blk_cl (k := 0) HZ9.out rfl).1
            have t0' := (blk_cl (k := 0) HZ9.out rfl).2
            have t1 := (blk_cl (k := 1) HZ9.out rfl).1
            have t1' := (blk_cl (k := 1) HZ9.out rfl).2
            go_wp2_with fail
            have hres := set21 (u := .slice B6 m d6) (set20 (u := .int .i64 (y - 1)) HZ9.out)
            have e0 := (blk_cl (k := 0) hres rfl).1
            have e1 := (blk_cl (k := 1) hres rfl).1
            have hrow := row_set (o := 1) (u := .slice B6 m d6) (row_set (o := 0) (u := .int .i64 (y - 1)) (row_set (o := 0) (u := .int .i64 (y - 1)) HR8.out HY8.out (by decide)) HZ9.out (by decide)) (set20 HZ9.out) (by decide)
            have hdr := ((hd8.set_ (b := w1.heap.size) (by omega) (by omega) 0 (.int .i64 (y - 1))).set_ (b := w.heap.size + 1) (by omega) (by omega) 0 (.int .i64 (y - 1))).set_ (b := w.heap.size + 1) (by omega) (by omega) 1 (.slice B6 m d6)
            obtain ⟨_, _, e9, hss⟩ := own_sstr hrow
            injection e9 with e8 _ _
            subst e8
            exact bodyPost_ret (v := .agg #[.int .i64 (y - 1), .slice B6 m d6]) (by simp [results, Try.results132, go_sem, e0, e1]) rfl ⟨_, _, _, _, done, rfl, hss.mono (by omega), hmd', by omega, (HD.out.trans hdr).more (by omega), hdr.on⟩
          by_cases hz1 : z = 1
          · subst hz1
            have v1 := (blk_cl (k := 1) HY7.out rfl).1
            have v2 := fun o => (blk_cl (k := 1) (heap_old (o := o) HY7.out) rfl).1
            have HNY := Lib.hid (row_ne HR7.out HY7.out (by decide))
            have HNZ := Lib.hid (row_ne HR7.out HZ7.out (by decide))
            go_wp2_with (at_builtin; refine app_strW (w.heap.size + 2) (.slice B6 m d6) m done w7.heap.size ⟨#[97]⟩ ?c0 rfl (.tmp 80) (.tmp 81) rfl rfl rfl ?c1 (by omega) ?c2 ?_)
            case c0 => exact HR7.out.alloc _
            case c1 => exact heap_new rfl
            case c2 => simp; omega
            intro v9 w9 hrow9 hg9 _
            replace hrow9 : w9.ownsRow (w.heap.size + 2) 9 1 v9 (m + 1) ((done ++ [(⟨#[97]⟩ : Str)]).map Value.string) := by rw [List.map_append]; exact hrow9
            have HY9 := Lib.hid (grown_blk hg9 (heap_old HY7.out) HNY.out)
            have HZ9 := Lib.hid (grown_blk hg9 (heap_old HZ7.out) HNZ.out)
            have hd9 := (HD7.out.alloc (.cells #[.string ⟨#[97]⟩] 9)).grown hg9 (fun b hb => by have h9 := HR7.out.lt b hb; omega)
            obtain ⟨A9, c9, rfl, _⟩ := own_sstr hrow9
            have hc9 := own_capN hrow9
            have v0 := (blk_cl (k := 0) HY9.out rfl).1
            have v0' := (blk_cl (k := 1) HY9.out rfl).2
            have v1 := (blk_cl (k := 1) HY9.out rfl).1
            have u0 := (blk_cl (k := 0) HZ9.out rfl).1
            have u0' := (blk_cl (k := 0) HZ9.out rfl).2
            have u1 := (blk_cl (k := 1) HZ9.out rfl).1
            have u1' := (blk_cl (k := 1) HZ9.out rfl).2
            have HZ8 := Lib.hid (set_ne (b := w1.heap.size) (o := 1) (u := .slice A9 (m + 1) c9) HZ9.out (by omega))
            have t0 := (blk_cl (k := 0) HZ8.out rfl).1
            have t0' := (blk_cl (k := 0) HZ8.out rfl).2
            have t1 := (blk_cl (k := 1) HZ8.out rfl).1
            have t1' := (blk_cl (k := 1) HZ8.out rfl).2
            go_wp2_with fail
            have hres := set21 (u := .slice A9 (m + 1) c9) (set20 (u := .int .i64 st') HZ8.out)
            have e0 := (blk_cl (k := 0) hres rfl).1
            have e1 := (blk_cl (k := 1) hres rfl).1
            have hrow := row_set (o := 1) (u := .slice A9 (m + 1) c9) (row_set (o := 0) (u := .int .i64 st') (row_set (o := 1) (u := .slice A9 (m + 1) c9) hrow9 HY9.out (by decide)) HZ8.out (by decide)) (set20 HZ8.out) (by decide)
            have hdr := ((hd9.set_ (b := w1.heap.size) (by omega) (by omega) 1 (.slice A9 (m + 1) c9)).set_ (b := w.heap.size + 1) (by omega) (by omega) 0 (.int .i64 st')).set_ (b := w.heap.size + 1) (by omega) (by omega) 1 (.slice A9 (m + 1) c9)
            obtain ⟨_, _, e9, hss⟩ := own_sstr hrow
            injection e9 with e8 _ _
            subst e8
            exact bodyPost_ret (v := .agg #[.int .i64 st', .slice A9 (m + 1) c9]) (by simp [results, Try.results132, go_sem, e0, e1]) rfl ⟨_, _, _, _, done ++ [(⟨#[97]⟩ : Str)], rfl, hss.mono (by omega), hc9, by omega, (HD.out.trans hdr).more (by omega), hdr.on⟩
          have q0 : (z == 0) = false := by rw [beq_eq_false_iff_ne]; exact hz
          have q1 : (z == 1) = false := by rw [beq_eq_false_iff_ne]; exact hz1
          have v0 := (blk_cl (k := 0) HY7.out rfl).1
          have v1 := (blk_cl (k := 1) HY7.out rfl).1
          have u0 := (blk_cl (k := 0) HZ7.out rfl).1
          have u0' := (blk_cl (k := 0) HZ7.out rfl).2
          have u1 := (blk_cl (k := 1) HZ7.out rfl).1
          have u1' := (blk_cl (k := 1) HZ7.out rfl).2
          go_wp2_with fail
          have hres := set21 (u := .slice B6 m d6) (set20 (u := .int .i64 st') HZ7.out)
          have e0 := (blk_cl (k := 0) hres rfl).1
          have e1 := (blk_cl (k := 1) hres rfl).1
          have hrow := row_set (o := 1) (u := .slice B6 m d6) (row_set (o := 0) (u := .int .i64 st') HR7.out HZ7.out (by decide)) (set20 HZ7.out) (by decide)
          have hdr := (HD7.out.set_ (b := w.heap.size + 1) (by omega) (by omega) 0 (.int .i64 st')).set_ (b := w.heap.size + 1) (by omega) (by omega) 1 (.slice B6 m d6)
          obtain ⟨_, _, e9, hss⟩ := own_sstr hrow
          injection e9 with e8 _ _
          subst e8
          exact bodyPost_ret (v := .agg #[.int .i64 st', .slice B6 m d6]) (by simp [results, Try.results132, go_sem, e0, e1]) rfl ⟨_, _, _, _, done, rfl, hss.mono (by omega), hmd', by omega, (HD.out.trans hdr).more (by omega), hdr.on⟩
        · have hx2 : (x == 0) = false := by rw [beq_eq_false_iff_ne]; exact hx
          have HU := Lib.hid (show RunI w g (q + 30) f A n c w1.heap.size w5 0 B m d done from ⟨HI.out.ord, HR5.out, hd5.more (by omega), HX5.out, HZ5.out, HY5.out⟩)
          go_wp2_with fail
          refine (pick w g _ _ _ HU.out.dr (by omega) (by omega)).mono ?_
          rintro e w7 ⟨z, rfl, _, _, _, hd7, hon7⟩
          obtain ⟨hmn', hmd'⟩ := HTAIL.out _ _ _ _ _ _ HU.out
          have HY7 := Lib.hid (hon7.blk HU.out.box hne)
          have HZ7 := Lib.hid (hon7.blk HU.out.res (by omega))
          have HR7 := Lib.hid (row_on HU.out.row hon7 (by omega))
          have hs7 : w.heap.size + 2 ≤ w7.heap.size := by have h9 := heap_lt HY7.out; omega
          have HD7 := Lib.hid hd7; clear hd7 hon7
          by_cases hz : z = 0
          · subst hz
            go_wp2_with fail
            refine (pick w g _ _ _ HD7.out (by omega) (by omega)).mono ?_
            rintro e w8 ⟨y, rfl, hy0, hy1, _, hd8, hon8⟩
            have hy6 := hy1 (by omega)
            clear hy1
            have HY8 := Lib.hid (hon8.blk HY7.out hne)
            have HZ8 := Lib.hid (hon8.blk HZ7.out (by omega))
            have HR8 := Lib.hid (row_on HR7.out hon8 (by omega))
            have v0 := (blk_cl (k := 0) HY8.out rfl).1
            have v0' := (blk_cl (k := 0) HY8.out rfl).2
            have v1 := (blk_cl (k := 1) HY8.out rfl).1
            have u0 := (blk_cl (k := 0) HZ8.out rfl).1
            have u0' := (blk_cl (k := 0) HZ8.out rfl).2
            have u1 := (blk_cl (k := 1) HZ8.out rfl).1
            have u1' := (blk_cl (k := 1) HZ8.out rfl).2
            have HZ9 := Lib.hid (set_ne (b := w1.heap.size) (o := 0) (u := .int .i64 (y - 1)) HZ8.out (by omega))
            have t0 := (blk_cl (k := 0) HZ9.out rfl).1
            have t0' := (blk_cl (k := 0) HZ9.out rfl).2
            have t1 := (blk_cl (k := 1) HZ9.out rfl).1
            have t1' := (blk_cl (k := 1) HZ9.out rfl).2
            go_wp2_with fail
            have hres := set21 (u := .slice B m d) (set20 (u := .int .i64 (y - 1)) HZ9.out)
            have e0 := (blk_cl (k := 0) hres rfl).1
            have e1 := (blk_cl (k := 1) hres rfl).1
            have hrow := row_set (o := 1) (u := .slice B m d) (row_set (o := 0) (u := .int .i64 (y - 1)) (row_set (o := 0) (u := .int .i64 (y - 1)) HR8.out HY8.out (by decide)) HZ9.out (by decide)) (set20 HZ9.out) (by decide)
            have hdr := ((hd8.set_ (b := w1.heap.size) (by omega) (by omega) 0 (.int .i64 (y - 1))).set_ (b := w.heap.size + 1) (by omega) (by omega) 0 (.int .i64 (y - 1))).set_ (b := w.heap.size + 1) (by omega) (by omega) 1 (.slice B m d)
            obtain ⟨_, _, e9, hss⟩ := own_sstr hrow
            injection e9 with e8 _ _
            subst e8
            exact bodyPost_ret (v := .agg #[.int .i64 (y - 1), .slice B m d]) (by simp [results, Try.results132, go_sem, e0, e1]) rfl ⟨_, _, _, _, done, rfl, hss.mono (by omega), hmd', by omega, (HD.out.trans hdr).more (by omega), hdr.on⟩
          by_cases hz1 : z = 1
          · subst hz1
            have v1 := (blk_cl (k := 1) HY7.out rfl).1
            have v2 := fun o => (blk_cl (k := 1) (heap_old (o := o) HY7.out) rfl).1
            have HNY := Lib.hid (row_ne HR7.out HY7.out (by decide))
            have HNZ := Lib.hid (row_ne HR7.out HZ7.out (by decide))
            go_wp2_with (at_builtin; refine app_strW (w.heap.size + 2) (.slice B m d) m done w7.heap.size ⟨#[97]⟩ ?c0 rfl (.tmp 80) (.tmp 81) rfl rfl rfl ?c1 (by omega) ?c2 ?_)
            case c0 => exact HR7.out.alloc _
            case c1 => exact heap_new rfl
            case c2 => simp; omega
            intro v9 w9 hrow9 hg9 _
            replace hrow9 : w9.ownsRow (w.heap.size + 2) 9 1 v9 (m + 1) ((done ++ [(⟨#[97]⟩ : Str)]).map Value.string) := by rw [List.map_append]; exact hrow9
            have HY9 := Lib.hid (grown_blk hg9 (heap_old HY7.out) HNY.out)
            have HZ9 := Lib.hid (grown_blk hg9 (heap_old HZ7.out) HNZ.out)
            have hd9 := (HD7.out.alloc (.cells #[.string ⟨#[97]⟩] 9)).grown hg9 (fun b hb => by have h9 := HR7.out.lt b hb; omega)
            obtain ⟨A9, c9, rfl, _⟩ := own_sstr hrow9
            have hc9 := own_capN hrow9
            have v0 := (blk_cl (k := 0) HY9.out rfl).1
            have v0' := (blk_cl (k := 1) HY9.out rfl).2
            have v1 := (blk_cl (k := 1) HY9.out rfl).1
            have u0 := (blk_cl (k := 0) HZ9.out rfl).1
            have u0' := (blk_cl (k := 0) HZ9.out rfl).2
            have u1 := (blk_cl (k := 1) HZ9.out rfl).1
            have u1' := (blk_cl (k := 1) HZ9.out rfl).2
            have HZ8 := Lib.hid (set_ne (b := w1.heap.size) (o := 1) (u := .slice A9 (m + 1) c9) HZ9.out (by omega))
            have t0 := (blk_cl (k := 0) HZ8.out rfl).1
            have t0' := (blk_cl (k := 0) HZ8.out rfl).2
            have t1 := (blk_cl (k := 1) HZ8.out rfl).1
            have t1' := (blk_cl (k := 1) HZ8.out rfl).2
            go_wp2_with fail
            have hres := set21 (u := .slice A9 (m + 1) c9) (set20 (u := .int .i64 0) HZ8.out)
            have e0 := (blk_cl (k := 0) hres rfl).1
            have e1 := (blk_cl (k := 1) hres rfl).1
            have hrow := row_set (o := 1) (u := .slice A9 (m + 1) c9) (row_set (o := 0) (u := .int .i64 0) (row_set (o := 1) (u := .slice A9 (m + 1) c9) hrow9 HY9.out (by decide)) HZ8.out (by decide)) (set20 HZ8.out) (by decide)
            have hdr := ((hd9.set_ (b := w1.heap.size) (by omega) (by omega) 1 (.slice A9 (m + 1) c9)).set_ (b := w.heap.size + 1) (by omega) (by omega) 0 (.int .i64 0)).set_ (b := w.heap.size + 1) (by omega) (by omega) 1 (.slice A9 (m + 1) c9)
            obtain ⟨_, _, e9, hss⟩ := own_sstr hrow
            injection e9 with e8 _ _
            subst e8
            exact bodyPost_ret (v := .agg #[.int .i64 0, .slice A9 (m + 1) c9]) (by simp [results, Try.results132, go_sem, e0, e1]) rfl ⟨_, _, _, _, done ++ [(⟨#[97]⟩ : Str)], rfl, hss.mono (by omega), hc9, by omega, (HD.out.trans hdr).more (by omega), hdr.on⟩
          have q0 : (z == 0) = false := by rw [beq_eq_false_iff_ne]; exact hz
          have q1 : (z == 1) = false := by rw [beq_eq_false_iff_ne]; exact hz1
          have v0 := (blk_cl (k := 0) HY7.out rfl).1
          have v1 := (blk_cl (k := 1) HY7.out rfl).1
          have u0 := (blk_cl (k := 0) HZ7.out rfl).1
          have u0' := (blk_cl (k := 0) HZ7.out rfl).2
          have u1 := (blk_cl (k := 1) HZ7.out rfl).1
          have u1' := (blk_cl (k := 1) HZ7.out rfl).2
          go_wp2_with fail
          have hres := set21 (u := .slice B m d) (set20 (u := .int .i64 0) HZ7.out)
          have e0 := (blk_cl (k := 0) hres rfl).1
          have e1 := (blk_cl (k := 1) hres rfl).1
          have hrow := row_set (o := 1) (u := .slice B m d) (row_set (o := 0) (u := .int .i64 0) HR7.out HZ7.out (by decide)) (set20 HZ7.out) (by decide)
          have hdr := (HD7.out.set_ (b := w.heap.size + 1) (by omega) (by omega) 0 (.int .i64 0)).set_ (b := w.heap.size + 1) (by omega) (by omega) 1 (.slice B m d)
          obtain ⟨_, _, e9, hss⟩ := own_sstr hrow
          injection e9 with e8 _ _
          subst e8
          exact bodyPost_ret (v := .agg #[.int .i64 0, .slice B m d]) (by simp [results, Try.results132, go_sem, e0, e1]) rfl ⟨_, _, _, _, done, rfl, hss.mono (by omega), hmd', by omega, (HD.out.trans hdr).more (by omega), hdr.on⟩
      · have hst2 : (st == 0) = false := by rw [beq_eq_false_iff_ne]; exact hst
        have HU := Lib.hid (show RunI w g (q + 30) f A n c w1.heap.size wo st B m d done from ⟨HI.out.ord, HI.out.row, HI.out.dr.more (by omega), HI.out.flow, HI.out.res, HI.out.box⟩)
        go_wp2_with fail
        refine (pick w g _ _ _ HU.out.dr (by omega) (by omega)).mono ?_
        rintro e w7 ⟨z, rfl, _, _, _, hd7, hon7⟩
        obtain ⟨hmn', hmd'⟩ := HTAIL.out _ _ _ _ _ _ HU.out
        have HY7 := Lib.hid (hon7.blk HU.out.box hne)
        have HZ7 := Lib.hid (hon7.blk HU.out.res (by omega))
        have HR7 := Lib.hid (row_on HU.out.row hon7 (by omega))
        have hs7 : w.heap.size + 2 ≤ w7.heap.size := by have h9 := heap_lt HY7.out; omega
        have HD7 := Lib.hid hd7; clear hd7 hon7
        by_cases hz : z = 0
        · subst hz
          go_wp2_with fail
          refine (pick w g _ _ _ HD7.out (by omega) (by omega)).mono ?_
          rintro e w8 ⟨y, rfl, hy0, hy1, _, hd8, hon8⟩
          have hy6 := hy1 (by omega)
          clear hy1
          have HY8 := Lib.hid (hon8.blk HY7.out hne)
          have HZ8 := Lib.hid (hon8.blk HZ7.out (by omega))
          have HR8 := Lib.hid (row_on HR7.out hon8 (by omega))
          have v0 := (blk_cl (k := 0) HY8.out rfl).1
          have v0' := (blk_cl (k := 0) HY8.out rfl).2
          have v1 := (blk_cl (k := 1) HY8.out rfl).1
          have u0 := (blk_cl (k := 0) HZ8.out rfl).1
          have u0' := (blk_cl (k := 0) HZ8.out rfl).2
          have u1 := (blk_cl (k := 1) HZ8.out rfl).1
          have u1' := (blk_cl (k := 1) HZ8.out rfl).2
          have HZ9 := Lib.hid (set_ne (b := w1.heap.size) (o := 0) (u := .int .i64 (y - 1)) HZ8.out (by omega))
          have t0 := (blk_cl (k := 0) HZ9.out rfl).1
          have t0' := (blk_cl (k := 0) HZ9.out rfl).2
          have t1 := (blk_cl (k := 1) HZ9.out rfl).1
          have t1' := (blk_cl (k := 1) HZ9.out rfl).2
          go_wp2_with fail
          have hres := set21 (u := .slice B m d) (set20 (u := .int .i64 (y - 1)) HZ9.out)
          have e0 := (blk_cl (k := 0) hres rfl).1
          have e1 := (blk_cl (k := 1) hres rfl).1
          have hrow := row_set (o := 1) (u := .slice B m d) (row_set (o := 0) (u := .int .i64 (y - 1)) (row_set (o := 0) (u := .int .i64 (y - 1)) HR8.out HY8.out (by decide)) HZ9.out (by decide)) (set20 HZ9.out) (by decide)
          have hdr := ((hd8.set_ (b := w1.heap.size) (by omega) (by omega) 0 (.int .i64 (y - 1))).set_ (b := w.heap.size + 1) (by omega) (by omega) 0 (.int .i64 (y - 1))).set_ (b := w.heap.size + 1) (by omega) (by omega) 1 (.slice B m d)
          obtain ⟨_, _, e9, hss⟩ := own_sstr hrow
          injection e9 with e8 _ _
          subst e8
          exact bodyPost_ret (v := .agg #[.int .i64 (y - 1), .slice B m d]) (by simp [results, Try.results132, go_sem, e0, e1]) rfl ⟨_, _, _, _, done, rfl, hss.mono (by omega), hmd', by omega, (HD.out.trans hdr).more (by omega), hdr.on⟩
        by_cases hz1 : z = 1
        · subst hz1
          have v1 := (blk_cl (k := 1) HY7.out rfl).1
          have v2 := fun o => (blk_cl (k := 1) (heap_old (o := o) HY7.out) rfl).1
          have HNY := Lib.hid (row_ne HR7.out HY7.out (by decide))
          have HNZ := Lib.hid (row_ne HR7.out HZ7.out (by decide))
          go_wp2_with (at_builtin; refine app_strW (w.heap.size + 2) (.slice B m d) m done w7.heap.size ⟨#[97]⟩ ?c0 rfl (.tmp 80) (.tmp 81) rfl rfl rfl ?c1 (by omega) ?c2 ?_)
          case c0 => exact HR7.out.alloc _
          case c1 => exact heap_new rfl
          case c2 => simp; omega
          intro v9 w9 hrow9 hg9 _
          replace hrow9 : w9.ownsRow (w.heap.size + 2) 9 1 v9 (m + 1) ((done ++ [(⟨#[97]⟩ : Str)]).map Value.string) := by rw [List.map_append]; exact hrow9
          have HY9 := Lib.hid (grown_blk hg9 (heap_old HY7.out) HNY.out)
          have HZ9 := Lib.hid (grown_blk hg9 (heap_old HZ7.out) HNZ.out)
          have hd9 := (HD7.out.alloc (.cells #[.string ⟨#[97]⟩] 9)).grown hg9 (fun b hb => by have h9 := HR7.out.lt b hb; omega)
          obtain ⟨A9, c9, rfl, _⟩ := own_sstr hrow9
          have hc9 := own_capN hrow9
          have v0 := (blk_cl (k := 0) HY9.out rfl).1
          have v0' := (blk_cl (k := 1) HY9.out rfl).2
          have v1 := (blk_cl (k := 1) HY9.out rfl).1
          have u0 := (blk_cl (k := 0) HZ9.out rfl).1
          have u0' := (blk_cl (k := 0) HZ9.out rfl).2
          have u1 := (blk_cl (k := 1) HZ9.out rfl).1
          have u1' := (blk_cl (k := 1) HZ9.out rfl).2
          have HZ8 := Lib.hid (set_ne (b := w1.heap.size) (o := 1) (u := .slice A9 (m + 1) c9) HZ9.out (by omega))
          have t0 := (blk_cl (k := 0) HZ8.out rfl).1
          have t0' := (blk_cl (k := 0) HZ8.out rfl).2
          have t1 := (blk_cl (k := 1) HZ8.out rfl).1
          have t1' := (blk_cl (k := 1) HZ8.out rfl).2
          go_wp2_with fail
          have hres := set21 (u := .slice A9 (m + 1) c9) (set20 (u := .int .i64 st) HZ8.out)
          have e0 := (blk_cl (k := 0) hres rfl).1
          have e1 := (blk_cl (k := 1) hres rfl).1
          have hrow := row_set (o := 1) (u := .slice A9 (m + 1) c9) (row_set (o := 0) (u := .int .i64 st) (row_set (o := 1) (u := .slice A9 (m + 1) c9) hrow9 HY9.out (by decide)) HZ8.out (by decide)) (set20 HZ8.out) (by decide)
          have hdr := ((hd9.set_ (b := w1.heap.size) (by omega) (by omega) 1 (.slice A9 (m + 1) c9)).set_ (b := w.heap.size + 1) (by omega) (by omega) 0 (.int .i64 st)).set_ (b := w.heap.size + 1) (by omega) (by omega) 1 (.slice A9 (m + 1) c9)
          obtain ⟨_, _, e9, hss⟩ := own_sstr hrow
          injection e9 with e8 _ _
          subst e8
          exact bodyPost_ret (v := .agg #[.int .i64 st, .slice A9 (m + 1) c9]) (by simp [results, Try.results132, go_sem, e0, e1]) rfl ⟨_, _, _, _, done ++ [(⟨#[97]⟩ : Str)], rfl, hss.mono (by omega), hc9, by omega, (HD.out.trans hdr).more (by omega), hdr.on⟩
        have q0 : (z == 0) = false := by rw [beq_eq_false_iff_ne]; exact hz
        have q1 : (z == 1) = false := by rw [beq_eq_false_iff_ne]; exact hz1
        have v0 := (blk_cl (k := 0) HY7.out rfl).1
        have v1 := (blk_cl (k := 1) HY7.out rfl).1
        have u0 := (blk_cl (k := 0) HZ7.out rfl).1
        have u0' := (blk_cl (k := 0) HZ7.out rfl).2
        have u1 := (blk_cl (k := 1) HZ7.out rfl).1
        have u1' := (blk_cl (k := 1) HZ7.out rfl).2
        go_wp2_with fail
        have hres := set21 (u := .slice B m d) (set20 (u := .int .i64 st) HZ7.out)
        have e0 := (blk_cl (k := 0) hres rfl).1
        have e1 := (blk_cl (k := 1) hres rfl).1
        have hrow := row_set (o := 1) (u := .slice B m d) (row_set (o := 0) (u := .int .i64 st) HR7.out HZ7.out (by decide)) (set20 HZ7.out) (by decide)
        have hdr := (HD7.out.set_ (b := w.heap.size + 1) (by omega) (by omega) 0 (.int .i64 st)).set_ (b := w.heap.size + 1) (by omega) (by omega) 1 (.slice B m d)
        obtain ⟨_, _, e9, hss⟩ := own_sstr hrow
        injection e9 with e8 _ _
        subst e8
        exact bodyPost_ret (v := .agg #[.int .i64 st, .slice B m d]) (by simp [results, Try.results132, go_sem, e0, e1]) rfl ⟨_, _, _, _, done, rfl, hss.mono (by omega), hmd', by omega, (HD.out.trans hdr).more (by omega), hdr.on⟩
end Go.Proofs.Ytakeijgoonagcaa

/- Rows of cases of the call's own. -/
namespace Go.Proofs.Ytakeijgoonagcaa
open Go.RowKit

def ccells (p : Case × Value) : List Value := [.string p.1.name, .int .i64 p.1.st, p.2]
theorem ccells_len (p : Case × Value) : (ccells p).length = 3 := rfl
/-- A row of cases of the call's own, their lists too. -/
def KRow (w : World) (base : Nat) (v : Value) (n : Nat) (ss : List Case) : Prop :=
  ∃ ps : List (Case × Value), ps.map (·.1) = ss ∧ w.ownsRow base 52 3 v n (ps.flatMap ccells) ∧ ∀ p ∈ ps, ∃ A m c, p.2 = .slice A m c ∧ SStr w base A m p.1.done ∧ m ≤ c
theorem KRow.len {w : World} {base n : Nat} {v : Value} {ss : List Case} (h : KRow w base v n ss) : ss.length = n := by
  obtain ⟨ps, rfl, h1, _⟩ := h
  have := h1.1
  rw [flat_len ccells_len] at this
  simp; omega
theorem KRow.kept {w w' : World} {base n : Nat} {v : Value} {ss : List Case} (h : KRow w base v n ss) (hk : ∀ b cs t, base ≤ b → w.heap[b]? = some (.cells cs t (0, 0)) → t = 9 ∨ t = 52 → w'.heap[b]? = w.heap[b]?) : KRow w' base v n ss := by
  obtain ⟨ps, e, h1, h2⟩ := h
  refine ⟨ps, e, ?_, fun p hp => ?_⟩
  · refine ⟨h1.1, ?_⟩
    rcases h1.2 with hn | ⟨g, cap, cur, hv, hb, hg, hr⟩
    · exact .inl hn
    · exact .inr ⟨g, cap, cur, hv, hb, (hk g cur _ hb hg (.inr rfl)).trans hg, hr⟩
  · obtain ⟨A, m, c, e2, h3, h4⟩ := h2 p hp
    exact ⟨A, m, c, e2, h3.kept fun b cs hb hc => hk b cs _ hb hc (.inl rfl), h4⟩
theorem KRow.on {w w' : World} {base n g : Nat} {v : Value} {ss : List Case} (h : KRow w base v n ss) (ho : On g w w') (hg : g < base) : KRow w' base v n ss :=
  h.kept fun b cs _ hb hc _ => ho.block b (heap_lt hc) (by intro e; injection e; omega)
theorem KRow.below {w w' : World} {base n : Nat} {v : Value} {ss : List Case} (h : KRow w base v n ss) (hb : Below w.heap.size w w') : KRow w' base v n ss :=
  h.kept fun b _ _ _ hc _ => hb.block b (heap_lt hc)
theorem KRow.set {w : World} {base n b o : Nat} {v u : Value} {ss : List Case} {cs : Array Value} {t : TypeId} (h : KRow w base v n ss) (hb : w.heap[b]? = some (.cells cs t (0, 0))) (h1 : t ≠ 9) (h2 : t ≠ 52) :
    KRow (w.setCell ⟨b, o, none⟩ u) base v n ss :=
  h.kept fun b' cs' t' _ hc ht => Below.heap_setCell w ⟨b, o, none⟩ u b' (by
    intro e
    subst e
    rw [hc] at hb
    have := Option.some.inj hb
    injection this with _ e2
    rcases ht with ht | ht <;> subst ht
    · exact h1 e2.symm
    · exact h2 e2.symm)
theorem KRow.made {w : World} {base b : Nat} (hb : base ≤ w.heap.size) (e : b = w.heap.size) : KRow (w.alloc (.cells #[] 52)) base (.slice (some ⟨b, 0, none⟩) 0 0) 0 [] := by
  subst e
  exact ⟨[], rfl, World.ownsRow_made w #[] 0 hb (Nat.zero_le _) rfl, fun p hp => by cases hp⟩
theorem KRow.lt {w : World} {base n b : Nat} {A : Option Addr} {c : Nat} {ss : List Case} (h : KRow w base (.slice A n c) n ss) (hA : (Value.slice A n c).ownBlock = some b) : base ≤ b ∧ b < w.heap.size := by
  obtain ⟨ps, _, h1, _⟩ := h
  exact h1.lt b hA
theorem KRow.ne {w : World} {base n b : Nat} {v : Value} {ss : List Case} {cs : Array Value} {t : TypeId} {fr : Nat × Nat} (h : KRow w base v n ss) (hb : w.heap[b]? = some (.cells cs t fr)) (ht : 52 ≠ t) : v.ownBlock ≠ some b := by
  obtain ⟨ps, _, h1, _⟩ := h
  exact row_ne h1 hb ht
theorem KRow.hat {w : World} {base n : Nat} {v : Value} {ss : List Case} (h : KRow w base v n ss) : ∃ A c, v = .slice A n c ∧ RCase w base A n ss := by
  have hl := h.len
  obtain ⟨ps, rfl, h1, h2⟩ := h
  obtain ⟨A, c, hv, hf⟩ := own_form h1
  refine ⟨A, c, hv, hl, fun hn => ?_⟩
  obtain ⟨b, e1, b1, b2, hc⟩ := hf hn
  rw [List.length_map] at hl
  refine ⟨b, 0, e1, b1, b2, fun k hk => ?_⟩
  have h3 : ∀ i u, i < 3 → (ccells (ps[k]'(by omega)))[i]? = some u → Cl w b (0 + k * 3 + i) u := fun i u hi hu => by
    have e2 := flat_at (α := Case × Value) (f := ccells) ccells_len ps k i (by omega) hi
    rw [nth_eq (by omega)] at e2
    have := hc (k * 3 + i) u (by rw [e2]; exact hu)
    rwa [Nat.zero_add]
  obtain ⟨A', m, c', e2, h4, h5⟩ := h2 (ps[k]'(by omega)) (List.getElem_mem _)
  have e3 : nth (ps.map (·.1)) k = (ps[k]'(by omega)).1 := by rw [nth_eq (by rw [List.length_map]; omega)]; simp
  rw [e3]
  exact ⟨h3 0 _ (by omega) rfl, h3 1 _ (by omega) rfl, ⟨A', m, c', by have := h3 2 _ (by omega) rfl; rw [e2] at this; exact this, h4.hat, h5⟩⟩

/-- 'out = append(out, s)', at one operation. -/
theorem wapp_case {w : World} {o : Oper} {a : Act} {K : Act → World → Prop} {Q : Exit → Act → World → Prop} (base : Nat) (v : Value) (n : Nat) (ss : List Case) (b : Nat) (s : Case) (A : Option Addr) (m c : Nat) (hown : KRow w base v n ss) (hs0 : SStr w base A m s.done) (hmc : m ≤ c)
    (l x : Operand) (ho : o.op = .call { callee := .builtin .append, args := #[l, x], argTypes := #[28, 28] })
    (hs : a.eval l = v) (hx : a.eval x = .slice (some ⟨b, 0, none⟩) 1 1) (hb : w.heap[b]? = some (.cells #[.string s.name, .int .i64 s.st, .slice A m c] 52 (0, 0))) (hn : n ≤ 1048576) (hbase : base ≤ w.heap.size)
    (h : ∀ v' w', KRow w' base v' (n + 1) (ss ++ [s]) → w.grownBy w' v.ownBlock → (v'.ownBlock = v.ownBlock ∨ v'.ownBlock = some w.heap.size) → K (a.put o.dst v') w') : o.wp Try.prog a w K Q := by
  have hN : ∀ (b : Nat) (cs : Array Value), w.heap[b]? = some (Obj.cells cs 9 (0, 0)) → v.ownBlock ≠ some b := fun b cs hc => hown.ne hc (by decide)
  obtain ⟨ps, rfl, h1, h2⟩ := hown
  refine wapp 28 52 3 48 _ Try.underlying28 info_case rfl (by omega) (by omega) base v n _ (ccells (s, .slice A m c)) b h1 l x ho hs hx hb rfl ?_ hn hbase ?_
  · intro u hu; simp [ccells] at hu; rcases hu with rfl | rfl | rfl <;> rfl
  · intro v' w' h3 h4 h5
    have hk : ∀ b cs, base ≤ b → w.heap[b]? = some (.cells cs 9 (0, 0)) → w'.heap[b]? = w.heap[b]? := fun b cs _ hc => h4.block b (heap_lt hc) (Ne.symm (hN b cs hc))
    refine h v' w' ⟨ps ++ [(s, .slice A m c)], by simp, by rw [List.flatMap_append]; simpa using h3, fun p hp => ?_⟩ h4 h5
    rcases List.mem_append.1 hp with hp | hp
    · obtain ⟨A', m', c', e, h6, h7⟩ := h2 p hp
      exact ⟨A', m', c', e, h6.kept hk, h7⟩
    · rw [List.mem_singleton] at hp
      subst hp
      exact ⟨A, m, c, rfl, hs0.kept hk, hmc⟩
/-- The same ahead of what follows. -/
theorem app_caseW {w : World} {ops : Array Oper} {rest : List Oper} {o : Oper} {a : Act} {Q : Exit → Act → World → Prop} (base : Nat) (v : Value) (n : Nat) (ss : List Case) (b : Nat) (s : Case) (A : Option Addr) (m c : Nat) (hown : KRow w base v n ss) (hs0 : SStr w base A m s.done) (hmc : m ≤ c)
    (hgd : o.guard = none) (l x : Operand) (ho : o.op = .call { callee := .builtin .append, args := #[l, x], argTypes := #[28, 28] })
    (hs : a.eval l = v) (hx : a.eval x = .slice (some ⟨b, 0, none⟩) 1 1) (hb : w.heap[b]? = some (.cells #[.string s.name, .int .i64 s.st, .slice A m c] 52 (0, 0))) (hn : n ≤ 1048576) (hbase : base ≤ w.heap.size)
    (h : ∀ v' w', KRow w' base v' (n + 1) (ss ++ [s]) → w.grownBy w' v.ownBlock → (v'.ownBlock = v.ownBlock ∨ v'.ownBlock = some w.heap.size) → wpList Try.prog ops Q rest (a.put o.dst v') w') : wpList Try.prog ops Q (o :: rest) a w :=
  wpList_plain hgd fun _ hK => wapp_case base v n ss b s A m c hown hs0 hmc l x ho hs hx hb hn hbase fun v' w' h1 h2 h3 => hK _ _ (h v' w' h1 h2 h3)

/-- The same as one step of a region. -/
theorem case_step {w : World} {ops : Array Oper} {o : Oper} {a : Act} {K : Act → World → Prop} {Q : Exit → Act → World → Prop} {E : Prop} (base : Nat) (v : Value) (n : Nat) (ss : List Case) (b : Nat) (s : Case) (A : Option Addr) (m c : Nat) (hown : KRow w base v n ss) (hs0 : SStr w base A m s.done) (hmc : m ≤ c)
    (hgd : o.guard = none) (l x : Operand) (ho : o.op = .call { callee := .builtin .append, args := #[l, x], argTypes := #[28, 28] })
    (hs : a.eval l = v) (hx : a.eval x = .slice (some ⟨b, 0, none⟩) 1 1) (hb : w.heap[b]? = some (.cells #[.string s.name, .int .i64 s.st, .slice A m c] 52 (0, 0))) (hn : n ≤ 1048576) (hbase : base ≤ w.heap.size)
    (h : ∀ v' w', KRow w' base v' (n + 1) (ss ++ [s]) → w.grownBy w' v.ownBlock → (v'.ownBlock = v.ownBlock ∨ v'.ownBlock = some w.heap.size) → K (a.put o.dst v') w') :
    if Region.wanted o (yielded ops a.tmps) = true then Oper.wp Try.prog o a w K Q else E := by
  have hw : Region.wanted o (yielded ops a.tmps) = true := by simp [Region.wanted, hgd]
  rw [if_pos hw]
  exact wapp_case base v n ss b s A m c hown hs0 hmc l x ho hs hx hb hn hbase h
theorem KRow.nil {w : World} {base : Nat} : KRow w base (.slice none 0 0) 0 [] := ⟨[], rfl, ⟨rfl, .inl ⟨rfl, rfl⟩⟩, fun p hp => by cases hp⟩
theorem KRow.alloc {w : World} {base n : Nat} {v : Value} {ss : List Case} (h : KRow w base v n ss) (o : Obj) : KRow (w.alloc o) base v n ss := h.below ((Below.refl _ _).alloc (Nat.le_refl _) o)
theorem KRow.drew {w : World} {base n : Nat} {v : Value} {ss : List Case} (h : KRow w base v n ss) : KRow w.drew base v n ss := h.below (Below.refl _ _).drew
theorem SStr.alloc {w : World} {base n : Nat} {A : Option Addr} {xs : List Str} (h : SStr w base A n xs) (o : Obj) : SStr (w.alloc o) base A n xs := h.below ((Below.refl _ _).alloc (Nat.le_refl _) o)
theorem SStr.drew {w : World} {base n : Nat} {A : Option Addr} {xs : List Str} (h : SStr w base A n xs) : SStr w.drew base A n xs := h.below (Below.refl _ _).drew
theorem okCases_app {ss : List Case} {s : Case} (h : okCases ss) (hl : ss.length ≤ 1000) (hs : s.name.size ≤ maxLen ∧ s.done.length ≤ 1048576) : okCases (ss ++ [s]) := by
  refine ⟨by simp; omega, fun j hj => ?_⟩
  rcases Nat.lt_or_ge j ss.length with h1 | h1
  · have e : nth (ss ++ [s]) j = nth ss j := by rw [nth_eq hj, nth_eq h1, List.getElem_append_left h1]
    rw [e]; exact h.2 j h1
  · have h2 : j = ss.length := by simp at hj; omega
    subst h2
    have e : nth (ss ++ [s]) ss.length = s := by rw [nth_eq hj]; simp
    rw [e]; exact hs
theorem okCases_nil : okCases [] := ⟨by simp, fun j hj => absurd hj (by simp)⟩
theorem okCases_iff {ss : List Case} : okCases ss ↔ ss.length ≤ 1048576 ∧ ∀ c ∈ ss, c.name.size ≤ maxLen ∧ c.done.length ≤ 1048576 := by
  constructor
  · rintro ⟨h1, h2⟩
    refine ⟨h1, fun c hc => ?_⟩
    obtain ⟨j, hj, rfl⟩ := nth_of_mem hc
    exact h2 j hj
  · rintro ⟨h1, h2⟩
    exact ⟨h1, fun j hj => h2 _ (mem_nth hj)⟩
theorem okCases_sub {ss ts : List Case} (h : okCases ss) (hl : ts.length ≤ 1048576) (hs : ∀ c ∈ ts, c ∈ ss) : okCases ts := okCases_iff.2 ⟨hl, fun c hc => (okCases_iff.1 h).2 c (hs c hc)⟩
end Go.Proofs.Ytakeijgoonagcaa

/- Lists of cases appended to rows of the call's own. -/
namespace Go.Proofs.Ytakeijgoonagcaa
open Go.RowKit

theorem RH.drop {α : Type} [Inhabited α] {E : Elem α} {w : World} {lo hi b off n : Nat} {xs : List α} (h : RH E w lo hi (some ⟨b, off, none⟩) n xs) {k : Nat} (hk : k ≤ n) : RH E w lo hi (some ⟨b, off + k * E.size, none⟩) (n - k) (xs.drop k) :=
  ⟨by rw [List.length_drop, h.1], fun hn => by
    obtain ⟨b', off', e, h1, h2, hc⟩ := h.2 (by omega)
    injection e with e; injection e with e1 e2
    subst e1; subst e2
    refine ⟨b, _, rfl, h1, h2, fun j hj => ?_⟩
    have hx : nth (xs.drop k) j = nth xs (k + j) := by
      rw [nth_eq (by rw [List.length_drop, h.1]; omega), nth_eq (by rw [h.1]; omega), List.getElem_drop]
    rw [hx, Nat.add_assoc, ← Nat.add_mul]
    exact hc (k + j) (by omega)⟩

theorem RCase.hat {w : World} {lo hi n : Nat} {A : Option Addr} {xs : List Case} {k : Nat} (h : RH caseE w lo hi A n xs) (hk : k < n) :
    ∃ b off, A = some ⟨b, off, none⟩ ∧ (lo ≤ b ∧ b < hi) ∧ ∀ j, j < n → ∃ A' n' c',
      (w.cell? ⟨b, off + j * 3, none⟩ = some (.string (nth xs j).name) ∧ w.cell? ⟨b, off + j * 3 + 1, none⟩ = some (.int .i64 (nth xs j).st) ∧ w.cell? ⟨b, off + j * 3 + 2, none⟩ = some (.slice A' n' c')) ∧
      RH strE w lo hi A' n' (nth xs j).done ∧ n' ≤ c' := by
  obtain ⟨b, off, e, h1, h2, hc⟩ := h.2 (by omega)
  refine ⟨b, off, e, ⟨h1, h2⟩, fun j hj => ?_⟩
  obtain ⟨⟨c1, f1⟩, ⟨c2, f2⟩, ⟨A', n', c', ⟨c3, f3⟩, h5, h6⟩⟩ := hc j hj
  exact ⟨A', n', c', ⟨c1, c2, c3⟩, h5, h6⟩
theorem news_case {w : World} {lo hi m : Nat} {A : Option Addr} {ss : List Case} (hr : RH caseE w lo hi A m ss) :
    ∃ ps : List (Case × Value), ps.map (·.1) = ss ∧ (0 < m → ∃ ad, A = some ad ∧ ∀ j u, (ps.flatMap ccells)[j]? = some u → w.cell? (ad.add j) = some u) ∧
      ∀ p ∈ ps, ∃ A' n' c', p.2 = .slice A' n' c' ∧ RH strE w lo hi A' n' p.1.done ∧ n' ≤ c' := by
  have each : ∀ j : Nat, ∃ v : Value, j < m → ∀ b off, A = some ⟨b, off, none⟩ → (∃ A' n' c', v = .slice A' n' c' ∧ RH strE w lo hi A' n' (nth ss j).done ∧ n' ≤ c') ∧
      w.cell? ⟨b, off + j * 3, none⟩ = some (.string (nth ss j).name) ∧ w.cell? ⟨b, off + j * 3 + 1, none⟩ = some (.int .i64 (nth ss j).st) ∧ w.cell? ⟨b, off + j * 3 + 2, none⟩ = some v := by
    intro j
    by_cases hj : j < m
    · obtain ⟨b, off, e, _, hc⟩ := RCase.hat hr hj
      obtain ⟨A', n', c', ⟨c1, c2, c3⟩, h5, h6⟩ := hc j hj
      refine ⟨.slice A' n' c', fun _ b' off' e' => ?_⟩
      rw [e] at e'
      injection e' with e'; injection e' with e1 e2
      subst e1; subst e2
      exact ⟨⟨A', n', c', rfl, h5, h6⟩, c1, c2, c3⟩
    · exact ⟨undef, fun h => absurd h hj⟩
  obtain ⟨V, hV⟩ : ∃ V : Nat → Value, ∀ j, j < m → ∀ b off, A = some ⟨b, off, none⟩ → (∃ A' n' c', V j = .slice A' n' c' ∧ RH strE w lo hi A' n' (nth ss j).done ∧ n' ≤ c') ∧
      w.cell? ⟨b, off + j * 3, none⟩ = some (.string (nth ss j).name) ∧ w.cell? ⟨b, off + j * 3 + 1, none⟩ = some (.int .i64 (nth ss j).st) ∧ w.cell? ⟨b, off + j * 3 + 2, none⟩ = some (V j) :=
    ⟨fun j => Classical.choose (each j), fun j => Classical.choose_spec (each j)⟩
  have hl := hr.1
  refine ⟨(List.range m).map fun j => (nth ss j, V j), ?_, fun hm => ?_, fun p hp => ?_⟩
  · refine list_ext (by simp [hl]) fun j hj => ?_
    have hj' : j < m := by simpa using hj
    rw [nth_eq hj]; simp
  · obtain ⟨b, off, e, _, _, _⟩ := hr.2 hm
    refine ⟨_, e, fun j u hu => ?_⟩
    have hlen : ((List.range m).map fun j => (nth ss j, V j)).length = m := by simp
    have hj : j < m * 3 := by
      rcases Nat.lt_or_ge j (m * 3) with h | h
      · exact h
      · rw [List.getElem?_eq_none (by rw [flat_len ccells_len, hlen]; exact h)] at hu; cases hu
    obtain ⟨_, h1, h2, h3⟩ := hV (j / 3) (by omega) b off e
    have e2 := flat_at (α := Case × Value) (f := ccells) ccells_len ((List.range m).map fun j => (nth ss j, V j)) (j / 3) (j % 3) (by rw [hlen]; omega) (Nat.mod_lt _ (by omega))
    have e3 : j / 3 * 3 + j % 3 = j := by omega
    rw [e3] at e2
    have e4 : nth ((List.range m).map fun j => (nth ss j, V j)) (j / 3) = (nth ss (j / 3), V (j / 3)) := by rw [nth_eq (by rw [hlen]; omega)]; simp
    rw [e4] at e2
    rw [e2] at hu
    have e5 : (⟨b, off, none⟩ : Addr).add j = ⟨b, off + j, none⟩ := by unfold Addr.add; split <;> simp_all
    rw [e5]
    have h4 : j % 3 = 0 ∨ j % 3 = 1 ∨ j % 3 = 2 := by omega
    rcases h4 with h4 | h4 | h4
    · rw [h4] at hu
      have : u = .string (nth ss (j / 3)).name := by simpa [ccells] using hu.symm
      rw [this, ← h1]; congr 2; omega
    · rw [h4] at hu
      have : u = .int .i64 (nth ss (j / 3)).st := by simpa [ccells] using hu.symm
      rw [this, ← h2]; congr 2; omega
    · rw [h4] at hu
      have : u = V (j / 3) := by simpa [ccells] using hu.symm
      rw [this, ← h3]; congr 2; omega
  · obtain ⟨j, hj, rfl⟩ := List.mem_map.1 hp
    have hj' : j < m := List.mem_range.1 hj
    obtain ⟨b, off, e, _, _, _⟩ := hr.2 (by omega)
    exact (hV j hj' b off e).1

/-- A row of cases of the call's own whose lists lie below. -/
def HKRow (w : World) (base lo : Nat) (v : Value) (n : Nat) (ss : List Case) : Prop :=
  ∃ ps : List (Case × Value), ps.map (·.1) = ss ∧ w.ownsRow base 52 3 v n (ps.flatMap ccells) ∧ ∀ p ∈ ps, ∃ A m c, p.2 = .slice A m c ∧ RH strE w lo base A m p.1.done ∧ m ≤ c
theorem HKRow.alloc {w : World} {base lo n : Nat} {v : Value} {ss : List Case} (h : HKRow w base lo v n ss) (hb : base ≤ w.heap.size) (o : Obj) : HKRow (w.alloc o) base lo v n ss := by
  obtain ⟨ps, e, h1, h2⟩ := h
  refine ⟨ps, e, h1.alloc o, fun p hp => ?_⟩
  obtain ⟨A, m, c, e2, h3, h4⟩ := h2 p hp
  exact ⟨A, m, c, e2, h3.below ((Below.refl base w).alloc hb o) (Nat.le_refl _), h4⟩
theorem HKRow.new {w : World} {base lo b : Nat} (hb : base ≤ w.heap.size) (e : b = w.heap.size) : HKRow (w.alloc (.cells #[] 52)) base lo (.slice (some ⟨b, 0, none⟩) 0 0) 0 [] := by
  subst e
  exact ⟨[], rfl, World.ownsRow_made w #[] 0 hb (Nat.zero_le _) rfl, fun p hp => by cases hp⟩
theorem HKRow.len {w : World} {base lo n : Nat} {v : Value} {ss : List Case} (h : HKRow w base lo v n ss) : ss.length = n := by
  obtain ⟨ps, rfl, h1, _⟩ := h
  have := h1.1
  rw [flat_len ccells_len] at this
  simp; omega
theorem HKRow.hat {w : World} {base lo n : Nat} {v : Value} {ss : List Case} (h : HKRow w base lo v n ss) (hlo : lo ≤ base) (hbase : base ≤ w.heap.size) : ∃ A c, v = .slice A n c ∧ RCase w lo A n ss := by
  have hl := h.len
  obtain ⟨ps, rfl, h1, h2⟩ := h
  obtain ⟨A, c, hv, hf⟩ := own_form h1
  refine ⟨A, c, hv, hl, fun hn => ?_⟩
  obtain ⟨b, e1, b1, b2, hc⟩ := hf hn
  rw [List.length_map] at hl
  refine ⟨b, 0, e1, by omega, b2, fun k hk => ?_⟩
  have h3 : ∀ i u, i < 3 → (ccells (ps[k]'(by omega)))[i]? = some u → Cl w b (0 + k * 3 + i) u := fun i u hi hu => by
    have e2 := flat_at (α := Case × Value) (f := ccells) ccells_len ps k i (by omega) hi
    rw [nth_eq (by omega)] at e2
    have := hc (k * 3 + i) u (by rw [e2]; exact hu)
    rwa [Nat.zero_add]
  obtain ⟨A', m, c', e2, h4, h5⟩ := h2 (ps[k]'(by omega)) (List.getElem_mem _)
  have e3 : nth (ps.map (·.1)) k = (ps[k]'(by omega)).1 := by rw [nth_eq (by rw [List.length_map]; omega)]; simp
  rw [e3]
  exact ⟨h3 0 _ (by omega) rfl, h3 1 _ (by omega) rfl, ⟨A', m, c', by have := h3 2 _ (by omega) rfl; rw [e2] at this; exact this, h4.up hbase, h5⟩⟩

/-- 'append(out, cases...)', one step of a region. -/
theorem cases_step {w : World} {ops : Array Oper} {o : Oper} {a : Act} {K : Act → World → Prop} {Q : Exit → Act → World → Prop} {E : Prop} (base lo : Nat) (v : Value) (n : Nat) (ts : List Case) (A : Option Addr) (m c : Nat) (ss : List Case) (hown : HKRow w base lo v n ts)
    (hr : RH caseE w lo base A m ss) (hgd : o.guard = none) (l x : Operand) (ho : o.op = .call { callee := .builtin .append, args := #[l, x], argTypes := #[28, 28] })
    (hs : a.eval l = v) (hx : a.eval x = .slice A m c) (hn : n + m ≤ 1048576) (hbase : base ≤ w.heap.size)
    (h : ∀ v' w', HKRow w' base lo v' (n + m) (ts ++ ss) → w.grownBy w' v.ownBlock → Below base w w' → K (a.put o.dst v') w') :
    if Region.wanted o (yielded ops a.tmps) = true then Oper.wp Try.prog o a w K Q else E := by
  have hw : Region.wanted o (yielded ops a.tmps) = true := by simp [Region.wanted, hgd]
  rw [if_pos hw]
  obtain ⟨ps, e, h1, h2⟩ := news_case hr
  obtain ⟨qs, eq, g1, g2⟩ := hown
  have hpl : ps.length = m := by rw [← hr.1, ← e, List.length_map]
  refine wappl 28 52 3 48 _ Try.underlying28 info_case rfl (by omega) (by omega) base v n _ (ps.flatMap ccells) A m c g1 l x ho hs hx (by rw [flat_len ccells_len, hpl]) h1 ?_ (by omega) hbase fun v' w' h3 h4 _ => ?_
  · intro u hu
    obtain ⟨p, hp, hu⟩ := List.mem_flatMap.1 hu
    obtain ⟨A', n', c', e2, _⟩ := h2 p hp
    simp [ccells, e2] at hu
    rcases hu with rfl | rfl | rfl <;> rfl
  · have hbel : Below base w w' := (Below.refl base w).grown h4 hbase (fun k hk => (g1.lt k hk).1)
    refine h v' w' ⟨qs ++ ps, by rw [List.map_append, e, eq], by rw [List.flatMap_append]; exact h3, fun p hp => ?_⟩ h4 hbel
    rcases List.mem_append.1 hp with hp | hp
    · obtain ⟨A', n', c', e2, h5, h6⟩ := g2 p hp
      exact ⟨A', n', c', e2, h5.below hbel (Nat.le_refl _), h6⟩
    · obtain ⟨A', n', c', e2, h5, h6⟩ := h2 p hp
      exact ⟨A', n', c', e2, h5.below hbel (Nat.le_refl _), h6⟩
end Go.Proofs.Ytakeijgoonagcaa

/- Drawing pools. -/
namespace Go.Proofs.Ytakeijgoonagcaa
open Go.RowKit

def nm9 : Array Value := #[.string ⟨#[97]⟩, .string ⟨#[98]⟩, .string ⟨#[99]⟩, .string ⟨#[100]⟩, .string ⟨#[101]⟩, .string ⟨#[102]⟩, .string ⟨#[103]⟩, .string ⟨#[104]⟩, .string ⟨#[105]⟩]
theorem nm9_at (k : Nat) (hk : k < 9) : ∃ s : Str, nm9[k]? = some (.string s) ∧ s.size ≤ 5 := by
  match k, hk with
  | 0, _ => exact ⟨⟨#[97]⟩, rfl, by decide⟩
  | 1, _ => exact ⟨⟨#[98]⟩, rfl, by decide⟩
  | 2, _ => exact ⟨⟨#[99]⟩, rfl, by decide⟩
  | 3, _ => exact ⟨⟨#[100]⟩, rfl, by decide⟩
  | 4, _ => exact ⟨⟨#[101]⟩, rfl, by decide⟩
  | 5, _ => exact ⟨⟨#[102]⟩, rfl, by decide⟩
  | 6, _ => exact ⟨⟨#[103]⟩, rfl, by decide⟩
  | 7, _ => exact ⟨⟨#[104]⟩, rfl, by decide⟩
  | 8, _ => exact ⟨⟨#[105]⟩, rfl, by decide⟩

theorem KRow.form {w : World} {base n : Nat} {v : Value} {cs : List Case} (h : KRow w base v n cs) (hn : 0 < n) : ∃ b c, v = .slice (some ⟨b, 0, none⟩) n c ∧ base ≤ b ∧ b < w.heap.size ∧ n ≤ c := by
  obtain ⟨ps, _, h1, _⟩ := h
  obtain ⟨A, c, hv, hf⟩ := own_form h1
  obtain ⟨b, e1, b1, b2, _⟩ := hf hn
  subst e1
  subst hv
  exact ⟨b, c, rfl, b1, b2, own_capN h1⟩
theorem KRow.cap {w : World} {base n c : Nat} {A : Option Addr} {cs : List Case} (h : KRow w base (.slice A n c) n cs) : n ≤ c := by
  obtain ⟨ps, _, h1, _⟩ := h
  exact own_capN h1
/-- A case's name is written. -/
theorem KRow.setName {w : World} {base n j b c : Nat} {cs : List Case} (h : KRow w base (.slice (some ⟨b, 0, none⟩) n c) n cs) (hj : j < n) (s : Str) :
    RCase (w.setCell ⟨b, j * 3, none⟩ (.string s)) base (some ⟨b, 0, none⟩) n (cs.set j { nth cs j with name := s }) := by
  have hl := h.len
  obtain ⟨ps, rfl, h1, h2⟩ := h
  obtain ⟨A, c', hv, hf⟩ := own_form h1
  injection hv with hA _ _
  subst hA
  refine ⟨by rw [List.length_set]; exact hl, fun hn => ?_⟩
  obtain ⟨b', e1, b1, b2, hc⟩ := hf hn
  injection e1 with e1; injection e1 with e1
  subst e1
  refine ⟨b, 0, rfl, b1, by simpa using b2, fun k hk => ?_⟩
  have hl2 : ps.length = n := by simpa using hl
  have h3 : ∀ i u, i < 3 → (ccells (ps[k]'(by omega)))[i]? = some u → Cl w b (0 + k * 3 + i) u := fun i u hi hu => by
    have e2 := flat_at (α := Case × Value) (f := ccells) ccells_len ps k i (by omega) hi
    rw [nth_eq (by omega)] at e2
    have := hc (k * 3 + i) u (by rw [e2]; exact hu)
    rwa [Nat.zero_add]
  obtain ⟨A', m, c', e2, h4, h5⟩ := h2 (ps[k]'(by omega)) (List.getElem_mem _)
  have e3 : nth (ps.map (·.1)) k = (ps[k]'(by omega)).1 := by rw [nth_eq (by rw [List.length_map]; omega)]; simp
  have c1 := h3 0 _ (by omega) rfl
  have c2 := h3 1 _ (by omega) rfl
  have c3 := h3 2 _ (by omega) rfl
  have hss : SStr (w.setCell ⟨b, j * 3, none⟩ (.string s)) base A' m (ps[k]'(by omega)).1.done := h4.kept fun b' cs' _ hc' => Below.heap_setCell w ⟨b, j * 3, none⟩ (.string s) b' (by
    intro e
    have hne := row_ne h1 hc' (by decide)
    apply hne
    rw [e]
    rfl)
  rw [e2] at c3
  have hsz : (w.setCell ⟨b, j * 3, none⟩ (.string s)).heap.size = w.heap.size := by simp
  have hrh : RH strE (w.setCell ⟨b, j * 3, none⟩ (.string s)) base (w.setCell ⟨b, j * 3, none⟩ (.string s)).heap.size A' m (ps[k]'(by omega)).1.done := hss.hat
  rw [nth_set (by rw [List.length_map, hl2]; exact hj)]
  by_cases hkj : k = j
  · subst hkj
    rw [if_pos rfl, e3]
    have d1 : Cl (w.setCell ⟨b, k * 3, none⟩ (.string s)) b (0 + k * 3) (.string s) := by
      rw [Nat.zero_add]
      rw [Nat.zero_add, Nat.add_zero] at c1
      exact c1.set_same
    exact ⟨d1, c2.set_other (.inr (by omega)), ⟨A', m, c', c3.set_other (.inr (by omega)), hrh, h5⟩⟩
  · rw [if_neg hkj, e3]
    exact ⟨c1.set_other (.inr (by omega)), c2.set_other (.inr (by omega)), ⟨A', m, c', c3.set_other (.inr (by omega)), hrh, h5⟩⟩
theorem okCases_name {cs : List Case} {j : Nat} {s : Str} (h : okCases cs) (hj : j < cs.length) (hs : s.size ≤ maxLen) : okCases (cs.set j { nth cs j with name := s }) := by
  refine ⟨by rw [List.length_set]; exact h.1, fun i hi => ?_⟩
  rw [List.length_set] at hi
  rw [nth_set hj]
  split
  · exact ⟨hs, (h.2 j hj).2⟩
  · exact h.2 i hi

/-- What drawing a pool leaves. -/
def PoolQ (w0 : World) (g q : Nat) (w : World) (e : Ending) (w' : World) : Prop :=
  ∃ (v : Int) (A : Option Addr) (n c : Nat) (ss : List Step) (B : Option Addr) (m d : Nat) (cs : List Case), e = .returned (.tuple #[.agg #[.int .i64 v, .slice A n c], .slice B m d]) ∧
    RStep w' w.heap.size A n ss ∧ okSteps ss ∧ 1 ≤ n ∧ n ≤ 6 ∧ RCase w' w.heap.size B m cs ∧ okCases cs ∧ m ≤ d ∧ m ≤ 9 ∧ Dr 158 w0 g (q + 2000) w' ∧ On g w w'

/-- The head of the loop. -/
structure PoolI (w1 : World) (g q : Nat) (ver : Int) (A : Option Addr) (n c : Nat) (wr : World) (k m : Nat) (v : Value) (cs : List Case) : Prop where
  km : m ≤ k
  ok : okCases cs
  row : KRow wr (w1.heap.size + 1) v m cs
  dr : Dr 158 w1 g (q + 110 * k) wr
  box : wr.heap[w1.heap.size]? = some (.cells #[.int .i64 ver, .slice A n c] 34 (0, 0))
  nms : wr.heap[w1.heap.size + 1 + 1]? = some (.cells nm9 9 (0, 0))

set_option maxRecDepth 100000 in
set_option maxHeartbeats 4000000 in
theorem l92Pool_any (w0 : World) (g q : Nat) (w : World) (h : Dr 158 w0 g q w) (hq : q ≤ 1099511600000) :
    Calls Try.prog 71 #[.pointer (some ⟨g, 0, none⟩)] w (PoolQ w0 g q w) := by
  have HD := Lib.hid h; clear h
  have hgl := HD.out.lt
  have hd0 := HD.out.here.alloc (.cells #[.int .i64 0, .slice none 0 0] 34)
  go_enter Try.func71, Try.ntmps71
  go_wp2_with fail
  refine (l91Flow_any w g q _ hd0 (by omega)).mono ?_
  rintro e w1 ⟨ver, A, n, c, ss, rfl, hs, hok, hn1, hn6, hd1, hon1⟩
  have hs1 := hon1.size
  rw [show (w.alloc (.cells #[.int .i64 0, .slice none 0 0] 34)).heap.size = w.heap.size + 1 by simp] at hs1 hs
  have HRES := Lib.hid (hon1.blk (b := w.heap.size) (heap_new rfl) (by omega))
  have HS1 := Lib.hid hs; clear hs hon1 hd0
  have HOK := Lib.hid hok; clear hok
  have HD1 := Lib.hid hd1; clear hd1
  go_wp2_with fail
  go_loopw [5, 7] (fun o i wr => ∃ (k m : Nat) (cs : List Case), k ≤ 9 ∧ i = .int .i64 k ∧ PoolI w1 g (q + 100) ver A n c wr k m o cs) (fun _ i _ => 9 - (intOf i).toNat)
  case atStart =>
    refine ⟨0, 0, [], by omega, rfl, Nat.le_refl _, okCases_nil, ?_, ?_, ?_, ?_⟩
    · exact (KRow.made (w := w1.alloc (.cells #[.int .i64 ver, .slice A n c] 34)) (by simp) (by simp)).alloc _
    · exact ((((HD1.out.here.alloc _).alloc _).alloc _)).more (by omega)
    · exact heap_old (heap_old (heap_new rfl))
    · exact heap_new (by simp)
  case round =>
    obtain ⟨wo, rfl⟩ : ∃ wo : World, wo = wr := ⟨_, rfl⟩
    obtain ⟨k, m, cs, hk, rfl, hI⟩ := hrel
    have HI := Lib.hid hI; clear hI
    obtain ⟨Bv, dv, rfl, hrc⟩ := HI.out.row.hat
    have HRC := Lib.hid hrc; clear hrc
    have hso := HI.out.dr.on.size
    have hlF := heap_lt HI.out.nms
    have hgF : g < w1.heap.size := by omega
    have HST := Lib.hid (HS1.out.on HI.out.dr.on (by omega))
    by_cases hlt : k < 9
    · obtain ⟨s, hs1', hs2⟩ := nm9_at k hlt
      have HC1 := Lib.hid (blk_cl HI.out.nms hs1').1
      clear hs1'
      have HSKIP := Lib.hid (fun (wz : World) (q' : Nat) (hd : Dr 158 wo g q' wz) (hq' : q' ≤ q + 100 + 110 * k + 105) => (show PoolI w1 g (q + 100) ver A n c wz (k + 1) m (.slice Bv m dv) cs from
        ⟨by have := HI.out.km; omega, HI.out.ok, HI.out.row.on hd.on (by omega), (HI.out.dr.trans hd).more (by omega), hd.on.blk HI.out.box (by omega), hd.on.blk HI.out.nms (by omega)⟩))
      go_wp2_with fail
      refine (pick wo g _ _ _ HI.out.dr.here (by omega) (by omega)).mono ?_
      rintro e w2 ⟨x, rfl, _, _, _, hd2, hon2⟩
      by_cases hgo : x = 0 ∧ m < 8
      · obtain ⟨rfl, hm8⟩ := hgo
        have HD2 := Lib.hid hd2; clear hd2 hon2
        have HX2 := Lib.hid (HD2.out.on.blk HI.out.box (by omega))
        have hs2 := HD2.out.on.size
        have x0 := (blk_cl (k := 0) HX2.out rfl).1
        have x1 := (blk_cl (k := 1) HX2.out rfl).1
        go_wp2_with fail
        refine (l91Run_any wo g _ A n c ⟨ver, ss⟩ (w.heap.size + 1) w2 HD2.out (by omega) (HST.out.on HD2.out.on (by omega)) HOK.out (by omega) (by omega)).mono ?_
        rintro e w3 ⟨st, A3, n3, c3, xs, rfl, hss3, hnc3, hn39, hd3, hon3⟩
        have HX3 := Lib.hid (heap_old (o := .cells #[.int .i64 st, .slice A3 n3 c3] 48) (hon3.blk HX2.out (by omega)))
        have HY3 := Lib.hid (heap_new (w := w3) (o := .cells #[.int .i64 st, .slice A3 n3 c3] 48) rfl)
        have HD3 := Lib.hid (hd3.alloc (.cells #[.int .i64 st, .slice A3 n3 c3] 48))
        have HSS3 := Lib.hid (hss3.alloc (.cells #[.int .i64 st, .slice A3 n3 c3] 48))
        have hs3 := hon3.size
        clear x0 x1 hss3 hd3 hon3
        have x0 := (blk_cl (k := 0) HX3.out rfl).1
        have x1 := (blk_cl (k := 1) HX3.out rfl).1
        go_wp2_with fail
        refine (runS_any _ _ _ _ _ _ ⟨ver, ss⟩ st xs (w.heap.size + 1) _ _ (HST.out.on HD3.out.on (by omega)) HOK.out HSS3.out.hat (by omega) hnc3).mono ?_
        rintro e w4 ⟨rfl, hb4⟩
        have HX4 := Lib.hid ((hb4.block _ (heap_lt HX3.out)).trans HX3.out)
        have HY4 := Lib.hid ((hb4.block _ (heap_lt HY3.out)).trans HY3.out)
        have HD4 := Lib.hid (HD3.out.below hb4)
        have HSS4 := Lib.hid (HSS3.out.below hb4)
        have hs4 := hb4.size
        have hs4' : (w3.alloc (.cells #[.int .i64 st, .slice A3 n3 c3] 48)).heap.size = w3.heap.size + 1 := by simp
        rw [hs4'] at hs4
        clear hb4 x0 x1 hs4'
        have HOKX := Lib.hid (show s.size ≤ maxLen ∧ xs.length ≤ 1048576 from ⟨by unfold maxLen; omega, by rw [HSS4.out.1]; omega⟩)
        have hun : runB ⟨ver, ss⟩ st xs = true ∨ runB ⟨ver, ss⟩ st xs = false := by cases runB ⟨ver, ss⟩ st xs <;> simp
        rcases hun with hrun | hrun
        · rw [hrun]
          have HROw4 := Lib.hid (HI.out.row.on HD4.out.on (by omega))
          have d0 := (HD4.out.on.cell (o := k) hlF (by omega)).trans HC1.out
          have y0 := (blk_cl (k := 0) HY4.out rfl).1
          have y1 := (blk_cl (k := 1) HY4.out rfl).1
          have hsz := HD4.out.on.size
          go_upto_region 10 with fail
          go_region_law (first | (refine case_step (o := ⟨some 46, _, _, _, _, _⟩) (w1.heap.size + 1) _ m cs w4.heap.size ⟨s, st, xs⟩ A3 n3 c3 (by exact HROw4.out.alloc _) (by exact (HSS4.out.mono (by omega)).alloc _) hnc3 (by rfl) (.tmp 38) (.tmp 45) (by rfl) (by rfl) (by rfl) (by exact heap_new rfl) (by omega) (by simp; omega) ?_; intro v7 w7 how7 hg7 hat7; obtain ⟨A7, c7, rfl, _⟩ := how7.hat) | fail "no arm")
          all_goals go_wp2_with fail
          all_goals exact ⟨⟨k + 1, m + 1, cs ++ [⟨s, st, xs⟩], by omega, by go_num, ⟨by have := HI.out.km; omega, okCases_app HI.out.ok (by rw [HI.out.row.len]; omega) HOKX.out, how7,
            (((HI.out.dr.trans HD4.out).alloc (.cells #[.string s, .int .i64 st, .slice A3 n3 c3] 52)).drew.grown hg7 (fun b hb => by have h9 := (HROw4.out).lt hb; omega)).more (by omega),
            grown_blk hg7 (heap_old (HD4.out.on.blk HI.out.box (by omega))) (HROw4.out.ne (HD4.out.on.blk HI.out.box (by omega)) (by decide)), grown_blk hg7 (heap_old (HD4.out.on.blk HI.out.nms (by omega))) (HROw4.out.ne (HD4.out.on.blk HI.out.nms (by omega)) (by decide))⟩⟩, by simp [intOf]; omega⟩
        · rw [hrun]
          go_wp2_with fail
          refine (pick wo g _ _ _ HD4.out (by omega) (by omega)).mono ?_
          rintro e w5 ⟨y, rfl, _, _, _, hd5, hon5⟩
          have HD5 := Lib.hid hd5; clear hd5
          by_cases hy : y = 0
          · subst hy
            have HY5 := Lib.hid (hon5.blk HY4.out (by omega))
            have HSS5 := Lib.hid (HSS4.out.on hon5 (by omega))
            have hs5 := hon5.size
            clear hon5
            have HROw5 := Lib.hid (HI.out.row.on HD5.out.on (by omega))
            have d0 := (HD5.out.on.cell (o := k) hlF (by omega)).trans HC1.out
            have y0 := (blk_cl (k := 0) HY5.out rfl).1
            have y1 := (blk_cl (k := 1) HY5.out rfl).1
            have hsz := HD5.out.on.size
            go_upto_region 10 with fail
            go_region_law (first | (refine case_step (o := ⟨some 46, _, _, _, _, _⟩) (w1.heap.size + 1) _ m cs w5.heap.size ⟨s, st, xs⟩ A3 n3 c3 (by exact HROw5.out.alloc _) (by exact (HSS5.out.mono (by omega)).alloc _) hnc3 (by rfl) (.tmp 38) (.tmp 45) (by rfl) (by rfl) (by rfl) (by exact heap_new rfl) (by omega) (by simp; omega) ?_; intro v7 w7 how7 hg7 hat7; obtain ⟨A7, c7, rfl, _⟩ := how7.hat) | fail "no arm")
            all_goals go_wp2_with fail
            all_goals exact ⟨⟨k + 1, m + 1, cs ++ [⟨s, st, xs⟩], by omega, by go_num, ⟨by have := HI.out.km; omega, okCases_app HI.out.ok (by rw [HI.out.row.len]; omega) HOKX.out, how7,
              (((HI.out.dr.trans HD5.out).alloc (.cells #[.string s, .int .i64 st, .slice A3 n3 c3] 52)).drew.grown hg7 (fun b hb => by have h9 := (HROw5.out).lt hb; omega)).more (by omega),
              grown_blk hg7 (heap_old (HD5.out.on.blk HI.out.box (by omega))) (HROw5.out.ne (HD5.out.on.blk HI.out.box (by omega)) (by decide)), grown_blk hg7 (heap_old (HD5.out.on.blk HI.out.nms (by omega))) (HROw5.out.ne (HD5.out.on.blk HI.out.nms (by omega)) (by decide))⟩⟩, by simp [intOf]; omega⟩
          · have hy2 : (y == 0) = false := by rw [beq_eq_false_iff_ne]; exact hy
            go_wp2_with fail
            go_roundw
            case rel => exact ⟨k + 1, m, cs, by omega, by go_num, HSKIP.out _ _ HD5.out (by omega)⟩
            case measure => simp [intOf]; omega
      · have hcase : (x == 0) = false ∨ ((x == 0) = true ∧ 8 ≤ m) := by
          by_cases h : x = 0
          · refine .inr ⟨by rw [beq_iff_eq]; exact h, ?_⟩
            rcases Nat.lt_or_ge m 8 with h8 | h8
            · exact absurd ⟨h, h8⟩ hgo
            · exact h8
          · left; rw [beq_eq_false_iff_ne]; exact h
        clear hgo hon2
        have HD2 := Lib.hid hd2; clear hd2
        rcases hcase with hx | ⟨hx, h8⟩
        all_goals
          go_wp2_with fail
          go_roundw
          case rel => exact ⟨k + 1, m, cs, by omega, by go_num, HSKIP.out _ _ HD2.out (by omega)⟩
          case measure => simp [intOf]; omega
    · obtain rfl : k = 9 := by omega
      have hm9 := HI.out.km
      have hmd := HI.out.row.cap
      have HZO := Lib.hid (HI.out.dr.on.blk HRES.out (by omega))
      by_cases hm1 : 1 < m
      · have hm2 : (1 : Int) < (m : Int) := by omega
        go_wp2_with fail
        refine (pick w1 g _ _ _ HI.out.dr (by omega) (by omega)).mono ?_
        rintro e w2 ⟨x, rfl, _, _, _, hd2, hon2⟩
        have HX2 := Lib.hid (hon2.blk HI.out.box (by omega))
        have HZ2 := Lib.hid (hon2.blk HZO.out (by omega))
        have HROW2 := Lib.hid (HI.out.row.on hon2 (by omega))
        have HST2 := Lib.hid (HS1.out.on hd2.on (by omega))
        have HD2 := Lib.hid (HD1.out.trans hd2)
        have HON2 := Lib.hid hd2.on
        clear hd2 hon2
        by_cases hx : x = 0
        · subst hx
          obtain ⟨b, c', e', hb1, hb2, _⟩ := HROW2.out.form (by omega)
          injection e' with eA _ ec
          subst eA; subst ec
          have hrc : RCase w2 (w1.heap.size + 1) (some ⟨b, 0, none⟩) m cs := by
            obtain ⟨A', c', e', h⟩ := HROW2.out.hat
            injection e' with e1 _ _
            rw [e1]
            exact h
          obtain ⟨b', off', e', _, hc⟩ := RCase.at_ hrc (show 0 < m by omega)
          injection e' with e'; injection e' with eb eo
          subst eb; subst eo
          obtain ⟨_, _, _, ⟨c0, _⟩, _⟩ := hc 0 (by omega)
          obtain ⟨_, _, _, ⟨c1, _⟩, _, _, f1, _⟩ := hc 1 (by omega)
          clear hc
          rw [Nat.zero_add, Nat.zero_mul] at c0
          rw [Nat.zero_add, Nat.one_mul] at c1 f1
          have HOK2 := Lib.hid (show okCases (cs.set 1 { nth cs 1 with name := (nth cs 0).name }) from okCases_name HI.out.ok (by rw [HI.out.row.len]; omega) ((HI.out.ok.2 0 (by rw [HI.out.row.len]; omega)).1))
          have hset := HROW2.out.setName (j := 1) (by omega) (nth cs 0).name
          rw [Nat.one_mul] at hset
          generalize (nth cs 0).name = s at *
          have HC3 := Lib.hid hset; clear hset
          have HX3 := Lib.hid (set_ne (b := b) (o := 3) (u := .string s) HX2.out (by omega))
          have HZ3 := Lib.hid (set_ne (b := b) (o := 3) (u := .string s) HZ2.out (by omega))
          have HD3 := Lib.hid (HD2.out.set_ (b := b) (by omega) (by omega) 3 (.string s))
          have HST3 := Lib.hid (HS1.out.on (HON2.out.setNew (b := b) (by omega) 3 (.string s)) (by omega))
          have u0 := (blk_cl (k := 0) HZ3.out rfl).1
          have u0' := (blk_cl (k := 0) HZ3.out rfl).2
          have u1 := (blk_cl (k := 1) HZ3.out rfl).1
          have u1' := (blk_cl (k := 1) HZ3.out rfl).2
          have x0 := (blk_cl (k := 0) HX3.out rfl).1
          have x1 := (blk_cl (k := 1) HX3.out rfl).1
          go_wp2_with fail
          have hres := set21 (u := .slice A n c) (set20 (u := .int .i64 ver) HZ3.out)
          have e0 := (blk_cl (k := 0) hres rfl).1
          have e1 := (blk_cl (k := 1) hres rfl).1
          have hdr := (HD3.out.set_ (b := w.heap.size) (Nat.le_refl _) hgl 0 (.int .i64 ver)).set_ (b := w.heap.size) (Nat.le_refl _) hgl 1 (.slice A n c)
          exact bodyPost_ret (v := .tuple #[.agg #[.int .i64 ver, .slice A n c], .slice (some ⟨b, 0, none⟩) m dv]) (by simp [results, Try.results71, go_sem, e0, e1]) rfl ⟨_, _, _, _, ss, _, _, _, (cs.set 1 { nth cs 1 with name := s }), rfl, ((HST3.out.setLow (Nat.lt_succ_self _)).setLow (Nat.lt_succ_self _)).lower (Nat.le_succ _), HOK.out, hn1, hn6, ((HC3.out.setLow (by omega)).setLow (by omega)).lower (by omega), HOK2.out, hmd, by omega, (HD.out.trans hdr).more (by omega), hdr.on⟩
        · have hx2 : (x == 0) = false := by rw [beq_eq_false_iff_ne]; exact hx
          have HC2 := Lib.hid (show RCase w2 (w1.heap.size + 1) Bv m cs by
            obtain ⟨A', c', e', h⟩ := HROW2.out.hat
            injection e' with e1 _ _
            subst e1
            exact h)
          have u0 := (blk_cl (k := 0) HZ2.out rfl).1
          have u0' := (blk_cl (k := 0) HZ2.out rfl).2
          have u1 := (blk_cl (k := 1) HZ2.out rfl).1
          have u1' := (blk_cl (k := 1) HZ2.out rfl).2
          have x0 := (blk_cl (k := 0) HX2.out rfl).1
          have x1 := (blk_cl (k := 1) HX2.out rfl).1
          go_wp2_with fail
          have hres := set21 (u := .slice A n c) (set20 (u := .int .i64 ver) HZ2.out)
          have e0 := (blk_cl (k := 0) hres rfl).1
          have e1 := (blk_cl (k := 1) hres rfl).1
          have hdr := (HD2.out.set_ (b := w.heap.size) (Nat.le_refl _) hgl 0 (.int .i64 ver)).set_ (b := w.heap.size) (Nat.le_refl _) hgl 1 (.slice A n c)
          exact bodyPost_ret (v := .tuple #[.agg #[.int .i64 ver, .slice A n c], .slice Bv m dv]) (by simp [results, Try.results71, go_sem, e0, e1]) rfl ⟨_, _, _, _, ss, _, _, _, cs, rfl, ((HST2.out.setLow (Nat.lt_succ_self _)).setLow (Nat.lt_succ_self _)).lower (Nat.le_succ _), HOK.out, hn1, hn6, ((HC2.out.setLow (by omega)).setLow (by omega)).lower (by omega), HI.out.ok, hmd, by omega, (HD.out.trans hdr).more (by omega), hdr.on⟩
      · have hm2 : ¬ ((1 : Int) < (m : Int)) := by omega
        have HDO := Lib.hid (HD1.out.trans HI.out.dr)
        have HSO := Lib.hid (HS1.out.on HI.out.dr.on (by omega))
        have HXO := Lib.hid HI.out.box
        have u0 := (blk_cl (k := 0) HZO.out rfl).1
        have u0' := (blk_cl (k := 0) HZO.out rfl).2
        have u1 := (blk_cl (k := 1) HZO.out rfl).1
        have u1' := (blk_cl (k := 1) HZO.out rfl).2
        have x0 := (blk_cl (k := 0) HXO.out rfl).1
        have x1 := (blk_cl (k := 1) HXO.out rfl).1
        go_wp2_with fail
        have hres := set21 (u := .slice A n c) (set20 (u := .int .i64 ver) HZO.out)
        have e0 := (blk_cl (k := 0) hres rfl).1
        have e1 := (blk_cl (k := 1) hres rfl).1
        have hdr := (HDO.out.set_ (b := w.heap.size) (Nat.le_refl _) hgl 0 (.int .i64 ver)).set_ (b := w.heap.size) (Nat.le_refl _) hgl 1 (.slice A n c)
        exact bodyPost_ret (v := .tuple #[.agg #[.int .i64 ver, .slice A n c], .slice Bv m dv]) (by simp [results, Try.results71, go_sem, e0, e1]) rfl ⟨_, _, _, _, ss, _, _, _, cs, rfl, ((HSO.out.setLow (Nat.lt_succ_self _)).setLow (Nat.lt_succ_self _)).lower (Nat.le_succ _), HOK.out, hn1, hn6, ((HRC.out.setLow (by omega)).setLow (by omega)).lower (by omega), HI.out.ok, hmd, by omega, (HD.out.trans hdr).more (by omega), hdr.on⟩
end Go.Proofs.Ytakeijgoonagcaa

/- Drawing a pool out of a code. -/
namespace Go.Proofs.Ytakeijgoonagcaa
open Go.RowKit

def PoolD (w : World) (e : Ending) (w' : World) : Prop :=
  ∃ (f : Flow) (A : Option Addr) (n c : Nat) (B : Option Addr) (m d : Nat) (cs : List Case), e = .returned (.tuple #[.agg #[.int .i64 f.ver, .slice A n c], .slice B m d]) ∧
    RStep w' w.heap.size A n f.steps ∧ okSteps f.steps ∧ 1 ≤ n ∧ n ≤ 6 ∧ RCase w' w.heap.size B m cs ∧ okCases cs ∧ m ≤ d ∧ m ≤ 9 ∧ Below w.heap.size w w'

end Go.Proofs.Ytakeijgoonagcaa
