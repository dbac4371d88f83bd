/- Contracts of functions and plain lemmas, joined. No condition but those that each states. -/
import Derived.Deep.RegionHeld3
import Derived.Deep.Quiet
import Derived.StillTail
import Derived.BigQuiet
import Derived.Deep.RegionLaw
import Derived.Test.YtakeijgoonagcaaZG
import Derived.Test.YtakeijgoonagcaaZF
import Derived.Test.YtakeijgoonagcaaZA
import Derived.Test.YtakeijgoonagcaaZB
import Derived.Test.YtakeijgoonagcaaZC

/- Pools: copies of cases, and the place of a name. -/
namespace Go.Proofs.Ytakeijgoonagcaa
open Go.RowKit

set_option maxRecDepth 100000 in
set_option maxHeartbeats 2000000 in
theorem cloneCases_any (B : Option Addr) (m d : Nat) (cs : List Case) (lo' : Nat) (w : World) (hd : RCase w lo' B m cs) (hcs : okCases cs) :
    Calls Try.prog 86 #[.slice B m d] w fun e w' => ∃ v, e = .returned v ∧ KRowD w' w.heap.size none w.heap.size w'.heap.size v m cs ∧ Below w.heap.size w w' := by
  have HL := Lib.hid hd.1
  have hm : m ≤ 1048576 := by have := hcs.1; rw [hd.1] at this; exact this
  have HD := Lib.hid hd; clear hd
  have HC := Lib.hid hcs; clear hcs
  go_enter Try.func86, Try.ntmps86
  go_wp2_with fail
  go_loopw [3, 8] (fun v i wr => ∃ k : Nat, k ≤ m ∧ i = .int .i64 (k : Int) ∧ KRowD wr w.heap.size none w.heap.size wr.heap.size v k (cs.take k) ∧ Below w.heap.size w wr) (fun _ i _ => m - (intOf i).toNat)
  case atStart => exact ⟨0, Nat.zero_le _, rfl, KRowD.nil, Below.refl _ _⟩
  case round =>
    obtain ⟨wo, rfl⟩ : ∃ wo : World, wo = wr := ⟨_, rfl⟩
    obtain ⟨k, hk, rfl, hrow, hbw⟩ := hrel
    have HROW := Lib.hid hrow; clear hrow
    have HBO := Lib.hid hbw; clear hbw
    obtain ⟨A1, c1, rfl, _⟩ := HROW.out.row.hat
    by_cases hlt : k < m
    · obtain ⟨b, off, rfl, _, hc⟩ := RCase.at_ (HD.out.below HBO.out) hlt
      obtain ⟨A', n', c', ⟨d1, d2, d3⟩, hdr, hnc, _⟩ := hc k hlt
      clear hc
      have hkl : k < cs.length := by rw [HL.out]; exact hlt
      have HT := Lib.hid (take_nth hkl)
      have hn' : n' ≤ 1048576 := by rw [← hdr.1]; exact (HC.out.2 k hkl).2
      have HDR := Lib.hid (hdr.alloc (.cells #[.string (nth cs k).name, .int .i64 (nth cs k).st, .slice A' n' c'] 52)); clear hdr
      have HX := Lib.hid (heap_new (w := wo) (o := .cells #[.string (nth cs k).name, .int .i64 (nth cs k).st, .slice A' n' c'] 52) rfl)
      have HROW2 := Lib.hid (HROW.out.alloc (.cells #[.string (nth cs k).name, .int .i64 (nth cs k).st, .slice A' n' c'] 52))
      have HB2 := Lib.hid (HBO.out.alloc HBO.out.size (.cells #[.string (nth cs k).name, .int .i64 (nth cs k).st, .slice A' n' c'] 52))
      go_upto_region 5 with fail
      have hsk : wo.heap.size < (wo.alloc (.cells #[.string (nth cs k).name, .int .i64 (nth cs k).st, .slice A' n' c'] 52)).heap.size := by simp
      generalize ewk : wo.alloc (.cells #[.string (nth cs k).name, .int .i64 (nth cs k).st, .slice A' n' c'] 52) = wk at *
      clear ewk d1 d2 d3
      have hsw : w.heap.size ≤ wk.heap.size := HB2.out.size
      have HSB : Hid (∀ w', Below wk.heap.size wk w' → (w'.cell? ⟨wo.heap.size, 0, none⟩ = some (.string (nth cs k).name) ∧ w'.cell? ⟨wo.heap.size, 1, none⟩ = some (.int .i64 (nth cs k).st) ∧ w'.cell? ⟨wo.heap.size, 2, none⟩ = some (.slice A' n' c')) ∧ Below wk.heap.size wk w') := fun w' h => by
        have e1 := (h.block _ (heap_lt HX.out)).trans HX.out
        exact ⟨⟨(blk_cl (k := 0) e1 rfl).1, (blk_cl (k := 1) e1 rfl).1, (blk_cl (k := 2) e1 rfl).1⟩, h⟩
      have HKP : Hid (∀ {w5 w7 : World} {o : Obj}, Below wk.heap.size wk w5 → (w5.alloc o).grownBy w7 (Value.slice A1 k c1).ownBlock → (w7.cell? ⟨wo.heap.size, 0, none⟩ = some (.string (nth cs k).name) ∧ w7.cell? ⟨wo.heap.size, 1, none⟩ = some (.int .i64 (nth cs k).st) ∧ w7.cell? ⟨wo.heap.size, 2, none⟩ = some (.slice A' n' c'))) := fun {w5 w7 o} h hg => by
        have n1' : (Value.slice A1 k c1).ownBlock ≠ some wo.heap.size := fun e => by
          have h1 := (KRow.lt HROW.out.row e).2
          omega
        have e1 := grown_blk hg (heap_old (o := o) ((h.block _ (heap_lt HX.out)).trans HX.out)) n1'
        exact ⟨(blk_cl (k := 0) e1 rfl).1, (blk_cl (k := 1) e1 rfl).1, (blk_cl (k := 2) e1 rfl).1⟩
      go_wp2_with fail
      go_region_held3 (fun w' => w'.cell? ⟨wo.heap.size, 0, none⟩ = some (.string (nth cs k).name) ∧ w'.cell? ⟨wo.heap.size, 1, none⟩ = some (.int .i64 (nth cs k).st) ∧ w'.cell? ⟨wo.heap.size, 2, none⟩ = some (.slice A' n' c'))
        (first | exact hk7 | exact (HSB.out _ (Below.refl _ _).drew).1 | exact (HSB.out _ hbw).1 | exact (HSB.out _ (hbw.alloc hbw.size _)).1 | fail "keep")
        (first
          | (go_at_call 129; refine (cloneRun_any _ _ _ (nth cs k).st (nth cs k).done _ _ (HDR.out.below (Below.refl _ _).drew) hn').mono ?_; rintro e w5 ⟨A5, c5, rfl, hss5, hc5, hb5⟩; have hbw : Below wk.heap.size wk w5 := (Below.refl wk.heap.size wk).drew.trans hb5)
          | (refine case_stepD (o := ⟨some 20, _, _, _, _, _⟩) w.heap.size w.heap.size wo.heap.size w.heap.size w5.heap.size none _ k (cs.take k) _ (nth cs k) A5 n' c5 (by exact (HROW2.out.below hbw).alloc _) (by exact (hss5.mono hsw).alloc _) hc5 (Nat.le_refl _) (by have := hbw.size; omega) (fun b hb hm => by (have h1 := (hss5.lt hm hb).1; have h2 := (hss5.lt hm hb).2; have h3 : wk.drew.heap.size = wk.heap.size := rfl; exact ⟨(fun h => nomatch h), Or.inl (by omega), by omega, h2⟩)) (by rfl) (.tmp 12) (.tmp 19) (by rfl) (by rfl) (by rfl) (by exact heap_new rfl) (by omega) (by (have h1 := hbw.size; simp; omega)) ?_; intro v7 w7 how7 hg7 hat7; have hk7 := HKP.out hbw hg7))
      have HB5a := HB2.out.trans (hbw.mono hsw)
      have HB7 := Lib.hid ((HB5a.alloc HB5a.size (.cells #[.string (nth cs k).name, .int .i64 (nth cs k).st, .slice A5 n' c5] 52)).grown hg7 (by have := HB5a.size; simp; omega) (fun b hb => (KRow.lt HROW.out.row hb).1))
      have hs7 : w5.heap.size ≤ w7.heap.size := by have := hg7.size; simp at this; omega
      have HK7 := Lib.hid (how7.wide (Nat.le_refl _) hs7)
      clear how7 hg7 hat7 hk7 hss5 hb5 hbw HB5a
      go_wp2_with fail
      go_roundw
      case rel => exact ⟨k + 1, by omega, by go_num, by rw [HT.out]; exact HK7.out, HB7.out⟩
      case measure => simp [intOf]; omega
    · obtain rfl : k = m := by omega
      have hkm : cs.take k = cs := by rw [← HL.out]; exact List.take_length
      go_wp2_with fail
      go_ret
      rw [hkm] at HROW
      exact ⟨_, rfl, HROW.out, HBO.out⟩

theorem l32At_any (A : Option Addr) (n c : Nat) (cs : List Case) (s : Str) (lo : Nat) (w : World) (hr : RCase w lo A n cs) (hn : n ≤ 1048576) :
    Calls Try.prog 90 #[.slice A n c, .string s] w fun e w' => e = .returned (.int .i64 (idxI (caseNames cs) s)) ∧ w = w' := by
  have HR := Lib.hid hr; clear hr
  have HL := Lib.hid HR.out.1
  go_enter Try.func90, Try.ntmps90
  go_wp2
  go_loop [5] (fun i => ∃ k : Nat, k ≤ n ∧ i = .int .i64 k ∧ ∀ j, j < k → nth (caseNames cs) j ≠ s) (fun i => n - (intOf i).toNat)
  case atStart => exact ⟨0, Nat.zero_le _, rfl, fa_zero⟩
  case round =>
    obtain ⟨k, hk, rfl, hp⟩ := hrel
    have HP := Lib.hid hp; clear hp
    by_cases hlt : k < n
    · obtain ⟨b, off, rfl, _, hc⟩ := RCase.at_ HR.out hlt
      obtain ⟨_, _, _, ⟨c1, _⟩, _⟩ := hc k hlt
      clear hc
      rw [← caseNames_at (by rw [HL.out]; exact hlt)] at c1
      by_cases he : nth (caseNames cs) k = s
      · have HE := Lib.hid he; clear he
        have hq := seq_t HE.out
        go_wp2
        go_ret
        exact ⟨ret_i (idxI_at HP.out (by rw [caseNames_len, HL.out]; exact hlt) HE.out).symm, rfl⟩
      · have HE := Lib.hid he; clear he
        have hq := seq_f HE.out
        go_wp2
        go_round
        case rel => exact ⟨k + 1, by omega, by go_num, fa_succ HP.out HE.out⟩
        case measure => simp [intOf]; omega
    · go_wp2
      go_ret
      exact ⟨ret_i (idxI_none (fun j hj => HP.out j (by rw [caseNames_len, HL.out] at hj; omega))).symm, rfl⟩

theorem caseAt1_any (A : Option Addr) (n c bx : Nat) (nm x : Str) (st : Int) (w : World) (hb : w.cell? ⟨bx, 0, none⟩ = some (.string x)) :
    Calls Try.prog 139 #[.agg #[.string nm, .int .i64 st, .slice A n c], .pointer (some ⟨bx, 0, none⟩)] w fun e w' => e = .returned (.bool (decide (nm = x))) ∧ Below w.heap.size w w' := by
  have hb2 := fun o => (World.cell?_alloc_some w _ o (by rw [hb]; rfl)).trans hb
  have hq : (nm.toList == x.toList) = decide (nm = x) := by
    by_cases h : nm = x
    · rw [seq_t h]; simp [h]
    · rw [seq_f h]; simp [h]
  go_enter Try.func139, Try.ntmps139
  go_wp2_with fail
  go_ret
  exact ⟨rfl, (Below.refl _ _).alloc (Nat.le_refl _) _⟩

set_option maxRecDepth 100000 in
theorem indexCase_any (A : Option Addr) (n c bx : Nat) (cs : List Case) (x : Str) (lo : Nat) (w : World) (hr : RCase w lo A n cs) (hn : n ≤ 1048576) (hb : w.cell? ⟨bx, 0, none⟩ = some (.string x)) (hbl : bx < w.heap.size) :
    Calls Try.prog 138 #[.slice A n c, .func (.func 139) #[] #[.pointer (some ⟨bx, 0, none⟩)]] w fun e w' => e = .returned (.int .i64 (idxI (caseNames cs) x)) ∧ Below w.heap.size w w' := by
  have HR := Lib.hid hr; clear hr
  go_enter Try.func138, Try.ntmps138
  go_wp2_with fail
  go_loopw [8] (fun i wr => ∃ k : Nat, k ≤ n ∧ i = .int .i64 k ∧ Below w.heap.size w wr ∧ ∀ j, j < k → (nth cs j).name ≠ x) (fun i _ => n - (intOf i).toNat)
  case atStart => exact ⟨0, Nat.zero_le _, rfl, Below.refl _ _, fa_zero⟩
  case round =>
    obtain ⟨k, hk, rfl, hbw, hp⟩ := hrel
    have HP := Lib.hid hp; clear hp
    have HBW := Lib.hid hbw; clear hbw
    by_cases hlt : k < n
    · obtain ⟨b, off, rfl, _, hc⟩ := RCase.at_ (HR.out.below HBW.out) hlt
      obtain ⟨A', n', c', ⟨c1, c2, c3⟩, _⟩ := hc k hlt
      clear hc
      have hbx := (HBW.out.cell (p := ⟨bx, 0, none⟩) hbl).trans hb
      by_cases he : (nth cs k).name = x
      · have HE := Lib.hid he; clear he
        go_wp2_with (go_at_call 139; refine (caseAt1_any _ _ _ bx _ x _ _ hbx).mono ?_; rintro e w' ⟨rfl, hb'⟩; rw [decide_eq_true HE.out])
        go_ret
        exact ⟨ret_i (idxI_at (fun j hj => by rw [caseNames_at (by rw [HR.out.1]; omega)]; exact HP.out j hj) (by rw [caseNames_len, HR.out.1]; exact hlt) (by rw [caseNames_at (by rw [HR.out.1]; exact hlt)]; exact HE.out)).symm, HBW.out.trans (hb'.mono HBW.out.size)⟩
      · have HE := Lib.hid he; clear he
        go_wp2_with (go_at_call 139; refine (caseAt1_any _ _ _ bx _ x _ _ hbx).mono ?_; rintro e w' ⟨rfl, hb'⟩; rw [decide_eq_false HE.out])
        go_roundw
        case rel => exact ⟨k + 1, by omega, by go_num, HBW.out.trans (hb'.mono HBW.out.size), fa_succ HP.out HE.out⟩
        case measure => simp [intOf]; omega
    · go_wp2_with fail
      go_ret
      exact ⟨ret_i (idxI_none (fun j hj => by rw [caseNames_len, HR.out.1] at hj; rw [caseNames_at (by rw [HR.out.1]; exact hj)]; exact HP.out j (by omega))).symm, HBW.out⟩

set_option maxRecDepth 100000 in
theorem caseAt_any (A : Option Addr) (n c : Nat) (cs : List Case) (x : Str) (lo : Nat) (w : World) (hr : RCase w lo A n cs) (hn : n ≤ 1048576) :
    Calls Try.prog 84 #[.slice A n c, .string x] w fun e w' => e = .returned (.int .i64 (idxI (caseNames cs) x)) ∧ Below w.heap.size w w' := by
  have HR := Lib.hid (hr.alloc (.cells #[.string x] 9)); clear hr
  have HX := Lib.hid (heap_new (w := w) (o := .cells #[.string x] 9) rfl)
  have HB := Lib.hid ((Below.refl w.heap.size w).alloc (Nat.le_refl _) (.cells #[.string x] 9))
  go_enter Try.func84, Try.ntmps84
  go_wp2_with fail
  refine (indexCase_any _ _ _ _ cs x _ _ HR.out hn (blk_cl (k := 0) HX.out rfl).1 (heap_lt HX.out)).mono ?_
  rintro e w1 ⟨rfl, hb⟩
  go_wp2_with fail
  go_ret
  exact ⟨rfl, HB.out.trans (hb.mono HB.out.size)⟩
end Go.Proofs.Ytakeijgoonagcaa

/- Pools: a case goes on by an event, both sides. -/
namespace Go.Proofs.Ytakeijgoonagcaa
open Go.RowKit

def pAt (cs : List Case) (nm : Str) : Nat := (idxI (caseNames cs) nm).toNat
theorem pAt_ex {cs : List Case} {nm : Str} (h : hasB (caseNames cs) nm = true) : pAt cs nm < cs.length ∧ idxI (caseNames cs) nm = (pAt cs nm : Int) ∧ (nth cs (pAt cs nm)).name = nm := by
  obtain ⟨p, hp, e, he, _⟩ := idx_ex (hasB_true.1 h)
  have e2 : pAt cs nm = p := by unfold pAt; rw [e]; rfl
  rw [caseNames_len] at hp
  rw [e2]
  exact ⟨hp, e, by rw [← caseNames_at hp]; exact he⟩
/-- A case goes on by an event. -/
def peB (f : Flow) (cs : List Case) (nm : Str) (k : Int) (x : Str) : Bool := poolB f cs && (hasB (caseNames cs) nm && evB f (nth cs (pAt cs nm)).st (nth cs (pAt cs nm)).done k x)
def peL (f : Flow) (cs : List Case) (nm : Str) (k : Int) (x : Str) : List Case := if peB f cs nm k x = true then cs.set (pAt cs nm) ⟨(nth cs (pAt cs nm)).name, (evR f (nth cs (pAt cs nm)).st (nth cs (pAt cs nm)).done k x).1, (evR f (nth cs (pAt cs nm)).st (nth cs (pAt cs nm)).done k x).2⟩ else []
theorem peL_no {f : Flow} {cs : List Case} {nm x : Str} {k : Int} (h : peB f cs nm k x = false) : peL f cs nm k x = [] := by unfold peL; rw [if_neg (by rw [h]; simp)]

theorem DR.setRun {w : World} {L0 base m n c p : Nat} {A B : Option Addr} {cs : List Case} {xs : List Str} (h : DR w L0 A m cs) (hp : p < m) (hs : SStr w base B n xs) (hb : base ≤ L0) (hlt : ∀ b, B = some ⟨b, 0, none⟩ → 0 < n → b < L0) (hnc : n ≤ c) (z : Int) :
    ∃ b off u v, A = some ⟨b, off, none⟩ ∧ (L0 ≤ b ∧ b < w.heap.size) ∧ Cl w b (off + p * 3 + 1) u ∧ Cl w b (off + p * 3 + 2) v ∧
      DR ((w.setCell ⟨b, off + p * 3 + 1, none⟩ (.int .i64 z)).setCell ⟨b, off + p * 3 + 2, none⟩ (.slice B n c)) base A m (cs.set p ⟨(nth cs p).name, z, xs⟩) := by
  obtain ⟨b, off, β, γ, e, h1, h2, h3⟩ := h.2 (by omega)
  have hL := h.1
  obtain ⟨A', n', c', d1, d2, d3, _⟩ := h3.at_ p hp
  obtain ⟨β5, γ5, r1, r2, r3⟩ : ∃ β5 γ5 : Nat, RH strE w β5 γ5 B n xs ∧ (γ5 = 0 ∨ (γ5 = β5 + 1 ∧ base ≤ β5 ∧ β5 < L0)) ∧ γ5 ≤ w.heap.size := by
    rcases Nat.eq_zero_or_pos n with h0 | h0
    · subst h0
      exact ⟨0, 0, ⟨hs.1, fun h => absurd h (by omega)⟩, .inl rfl, Nat.zero_le _⟩
    · obtain ⟨b', cs', e3, h6, h7, h8⟩ := hs.2 h0
      refine ⟨b', b' + 1, ⟨hs.1, fun _ => ?_⟩, .inr ⟨rfl, h6, hlt b' e3 h0⟩, heap_lt h7⟩
      refine ⟨b', 0, e3, Nat.le_refl _, by omega, fun j hj => ?_⟩
      have := blk_cl h7 (h8 j hj)
      simpa [strE] using this
  have hkeep : ∀ i, i ≠ b → ((w.setCell ⟨b, off + p * 3 + 1, none⟩ (.int .i64 z)).setCell ⟨b, off + p * 3 + 2, none⟩ (.slice B n c)).heap[i]? = w.heap[i]? := fun i hi =>
    (Below.heap_setCell _ _ _ i (by intro e; exact hi e)).trans (Below.heap_setCell _ _ _ i (by intro e; exact hi e))
  refine ⟨b, off, _, _, e, ⟨h1, h3.lt⟩, d2, d3, by rw [List.length_set]; exact hL, fun _ => ⟨b, off, fun j => if j = p then β5 else β j, fun j => if j = p then γ5 else γ j, e, by omega, fun j hj => ?_, ?_⟩⟩
  · by_cases hj' : j = p
    · subst hj'
      simp only [if_true]
      rcases r2 with r2 | ⟨r2, r4, _⟩
      · exact .inr (by omega)
      · exact .inl r4
    · simp only [hj', if_false]
      rcases h2 j hj with h4 | h4
      · exact .inl (by omega)
      · exact .inr h4
  · refine ⟨by simpa using h3.lt, fun j hj => ?_, fun j hj => ?_, fun j hj => ?_, fun i j hi hj hij => ?_⟩
    · by_cases hj' : j = p
      · simp only [hj', if_true]; simpa using r3
      · simp only [hj', if_false]; simpa using h3.hi j hj
    · rw [nth_set (by omega)]
      by_cases hj' : j = p
      · subst hj'
        simp only [if_true]
        refine ⟨B, n, c, ?_, ?_, ?_, r1.same ⟨fun i g1 g2 => hkeep i ?_⟩, hnc⟩
        · exact (d1.set_other (.inr (by omega))).set_other (.inr (by omega))
        · exact d2.set_same.set_other (.inr (by omega))
        · exact (d3.set_other (.inr (by omega))).set_same
        · rcases r2 with r2 | ⟨r2, _, _⟩ <;> omega
      · simp only [hj', if_false]
        obtain ⟨A1, n1, c1, g1, g2, g3, g4, g5⟩ := h3.at_ j hj
        refine ⟨A1, n1, c1, ?_, ?_, ?_, g4.same ⟨fun i q1 q2 => hkeep i ?_⟩, g5⟩
        · exact (g1.set_other (.inr (by omega))).set_other (.inr (by omega))
        · exact (g2.set_other (.inr (by omega))).set_other (.inr (by omega))
        · exact (g3.set_other (.inr (by omega))).set_other (.inr (by omega))
        · rcases h3.ne j hj with q | q <;> omega
    · by_cases hj' : j = p
      · simp only [hj', if_true]
        rcases r2 with r2 | ⟨r2, _, _⟩
        · right; omega
        · right; omega
      · simp only [hj', if_false]; exact h3.ne j hj
    · by_cases hi' : i = p
      · have hj' : j ≠ p := fun e => hij (by omega)
        simp only [hi', hj', if_true, if_false]
        rcases h2 j hj with h4 | h4
        · rcases r2 with r2 | ⟨r2, _, _⟩ <;> left <;> omega
        · rcases r2 with r2 | ⟨r2, _, _⟩
          · left; omega
          · rcases Nat.lt_or_ge β5 (γ j) with q | q
            · left; omega
            · right; omega
      · by_cases hj' : j = p
        · simp only [hi', hj', if_true, if_false]
          rcases h2 i hi with h4 | h4
          · rcases r2 with r2 | ⟨r2, _, _⟩ <;> right <;> omega
          · rcases r2 with r2 | ⟨r2, _, _⟩
            · right; omega
            · rcases Nat.lt_or_ge β5 (γ i) with q | q
              · right; omega
              · left; omega
        · simp only [hi', hj', if_false]; exact h3.dis i j hi hj hij

end Go.Proofs.Ytakeijgoonagcaa

/- Pools: a case goes on by an event, the reference's side. -/
namespace Go.Proofs.Ytakeijgoonagcaa
open Go.RowKit

end Go.Proofs.Ytakeijgoonagcaa

/- Events leave runs and pools valid. No program in sight. -/
namespace Go.Proofs.Ytakeijgoonagcaa

theorem can_zero {f : Flow} {st : Int} {done : List Str} {x : Str} (h : canB f st done x = true) : st = 0 := by
  unfold canB at h
  simp only [Bool.and_eq_true, decide_eq_true_eq] at h
  exact h.2.1
theorem run_did {f : Flow} {st : Int} {done : List Str} {x : Str} (h : canB f st done x = true) : runB f (forthI (done.length + 1) f.steps.length) (done ++ [x]) = true := by
  have h1 := can_ord h
  have h2 := ord_len h1
  have h3 : (done ++ [x]).length = done.length + 1 := by simp
  rw [h3] at h2
  unfold runB
  rw [run_flow (can_run h), h1, h3]
  unfold forthI
  by_cases e : done.length + 1 = f.steps.length
  · rw [if_pos e]; simp [e]
  · rw [if_neg e]; simp; omega
theorem back_run {f : Flow} {done : List Str} (hf : flowB f = true) (ho : ordB f.steps done = true) (hl : done.length < f.steps.length) : runB f (backI f.steps done done.length) done = true := by
  have hle := leftN_le f.steps done done.length
  rw [back_eq]
  unfold runB
  rw [hf, ho]
  by_cases h : leftN f.steps done done.length = done.length
  · rw [if_pos h]; simp [hl, h]
  · rw [if_neg h]; simp [hl]; omega
theorem run_short {f : Flow} {st : Int} {done : List Str} (h : runB f st done = true) (hs : st = 0 ∨ st = 1) : done.length < f.steps.length := by
  unfold runB at h
  rcases hs with rfl | rfl <;> simp at h <;> omega
theorem run_ev {f : Flow} {st : Int} {done : List Str} {k : Int} {x : Str} (h : evB f st done k x = true) : runB f (evR f st done k x).1 (evR f st done k x).2 = true := by
  by_cases h1 : k = 1
  · subst h1
    rw [(ev_1 f st done x).2] at h
    rw [(ev_1 f st done x).1, doR_yes h]
    exact run_did h
  by_cases h2 : k = 2
  · subst h2
    rw [(ev_2 f st done x).2] at h
    rw [(ev_2 f st done x).1, failR_yes h]
    exact back_run (run_flow (can_run h)) (run_ord (can_run h)) (run_short (can_run h) (.inl (can_zero h)))
  by_cases h3 : k = 3
  · subst h3
    by_cases hu : undoB f st done = true ∧ undoN f st done = x
    · rw [(ev_3 hu.1 hu.2).1]
      obtain ⟨hr, hs, j, hj⟩ := undo_run hu.1
      rw [(undo_yes hu.1 hj).1]
      have hl := run_short hr (.inr hs)
      have ht : (done.take j).length = j := by rw [List.length_take]; omega
      have := back_run (run_flow hr) (ord_take (run_ord hr) j) (by rw [ht]; omega)
      rw [ht] at this
      exact this
    · have hn : undoB f st done = false ∨ undoN f st done ≠ x := by
        by_cases hb : undoB f st done = true
        · exact .inr fun e => hu ⟨hb, e⟩
        · exact .inl (by simpa using hb)
      rw [(ev_3n hn).2] at h
      cases h
  · rw [(ev_no h1 h2 h3).2] at h
    cases h
theorem pe_parts {f : Flow} {cs : List Case} {nm x : Str} {k : Int} (h : peB f cs nm k x = true) : poolB f cs = true ∧ pAt cs nm < cs.length ∧ idxI (caseNames cs) nm = (pAt cs nm : Int) ∧ (nth cs (pAt cs nm)).name = nm ∧ evB f (nth cs (pAt cs nm)).st (nth cs (pAt cs nm)).done k x = true := by
  unfold peB at h
  simp only [Bool.and_eq_true] at h
  obtain ⟨h1, h2, h3⟩ := h
  obtain ⟨h4, h5, h6⟩ := pAt_ex h2
  exact ⟨h1, h4, h5, h6, h3⟩
theorem peL_yes {f : Flow} {cs : List Case} {nm x : Str} {k : Int} (h : peB f cs nm k x = true) : peL f cs nm k x = cs.set (pAt cs nm) ⟨(nth cs (pAt cs nm)).name, (evR f (nth cs (pAt cs nm)).st (nth cs (pAt cs nm)).done k x).1, (evR f (nth cs (pAt cs nm)).st (nth cs (pAt cs nm)).done k x).2⟩ := if_pos h
theorem set_names (cs : List Case) {p : Nat} (hp : p < cs.length) (st : Int) (done : List Str) : (cs.set p ⟨(nth cs p).name, st, done⟩).map (·.name) = cs.map (·.name) := by
  rw [List.map_set]
  refine List.ext_getElem (by simp) fun i h1 h2 => ?_
  rw [List.getElem_set]
  split
  · rename_i e
    subst e
    rw [nth_eq hp]; simp
  · rfl
theorem pool_ev {f : Flow} {cs : List Case} {nm x : Str} {k : Int} (h : peB f cs nm k x = true) : poolB f (peL f cs nm k x) = true := by
  obtain ⟨h1, h2, _, _, h5⟩ := pe_parts h
  rw [peL_yes h]
  obtain ⟨g1, g2, g3, g4⟩ := poolB_iff.1 h1
  refine poolB_iff.2 ⟨fun c hc => ?_, ?_, g3, by rw [List.length_set]; exact g4⟩
  · rcases List.mem_or_eq_of_mem_set hc with hc | rfl
    · exact g1 c hc
    · exact ⟨(g1 _ (mem_nth h2)).1, run_ev h5⟩
  · have e1 : ∀ ds : List Case, ds.Pairwise caseLt ↔ (ds.map (·.name)).Pairwise (fun a b => strLt a b = true) := fun ds => by
      rw [List.pairwise_map]
      rfl
    rw [e1, set_names cs h2, ← e1]
    exact g2
theorem okCases_ev {f : Flow} {cs : List Case} {nm x : Str} {k : Int} (h : okCases cs) : okCases (peL f cs nm k x) := by
  cases hp : peB f cs nm k x
  · rw [peL_no hp]; exact okCases_nil
  · obtain ⟨_, h2, _, _, h5⟩ := pe_parts hp
    rw [peL_yes hp]
    refine ⟨by rw [List.length_set]; exact h.1, fun j hj => ?_⟩
    rw [List.length_set] at hj
    rw [nth_set h2]
    split
    · exact ⟨(h.2 _ h2).1, Nat.le_trans (run_sizes (run_ev h5)).1 (by omega)⟩
    · exact h.2 j hj
theorem peL_len {f : Flow} {cs : List Case} {nm x : Str} {k : Int} (h : peB f cs nm k x = true) : (peL f cs nm k x).length = cs.length := by rw [peL_yes h, List.length_set]
theorem peL_other {f : Flow} {cs : List Case} {nm x : Str} {k : Int} (h : peB f cs nm k x = true) {i : Nat} (hi : (nth cs i).name ≠ nm) : nth (peL f cs nm k x) i = nth cs i := by
  obtain ⟨_, h2, _, h4, _⟩ := pe_parts h
  rw [peL_yes h, nth_set h2, if_neg (fun e => hi (by rw [e]; exact h4))]
theorem peL_at {f : Flow} {cs : List Case} {nm x : Str} {k : Int} (h : peB f cs nm k x = true) : nth (peL f cs nm k x) (pAt cs nm) = ⟨(nth cs (pAt cs nm)).name, (evR f (nth cs (pAt cs nm)).st (nth cs (pAt cs nm)).done k x).1, (evR f (nth cs (pAt cs nm)).st (nth cs (pAt cs nm)).done k x).2⟩ := by
  obtain ⟨_, h2, _⟩ := pe_parts h
  rw [peL_yes h, nth_set h2, if_pos rfl]
end Go.Proofs.Ytakeijgoonagcaa

/- Drawing a number: one value, told ahead of the call. -/
namespace Go.Proofs.Ytakeijgoonagcaa
open Go.RowKit

theorem pick1_any (g p : Nat) (n : Int) (w : World) (h : Rd 158 w g p) (hp : p ≤ 1099511627776) (hn : n ≤ 1099511627776) :
    ∃ v : Int, 0 ≤ v ∧ (1 ≤ n → v < n) ∧ v ≤ 1099511627776 ∧ Calls Try.prog 81 #[.pointer (some ⟨g, 0, none⟩), .int .i64 n] w fun e w' =>
      e = .returned (.int .i64 v) ∧ Rd 158 w' g (p + 1) ∧ On g w w' ∧ w'.heap.size = w.heap.size := by
  have HL := Lib.hid h.lt
  have HN := Lib.hid (Rd.step h)
  have HO := Lib.hid ((On.refl g w).set_ 1 (.int .i64 ((p : Int) + 1)))
  have HS := Lib.hid (show (w.setCell ⟨g, 1, none⟩ (.int .i64 ((p : Int) + 1))).heap.size = w.heap.size by simp [World.setCell])
  obtain ⟨A, len, c, hlen, hg, hr⟩ := h
  have hr1 : w.cell? ⟨g, 1, none⟩ = some (.int .i64 (p : Int)) := by simp [World.cell?, hg]
  have hr2 : w.frozen? ⟨g, 1, none⟩ = false := by simp [World.frozen?, hg]
  have hr3 : (w.setCell ⟨g, 1, none⟩ (.int .i64 ((p : Int) + 1))).cell? ⟨g, 0, none⟩ = some (.slice A len c) := by simp [World.cell?, World.setCell, Array.getElem?_modify, hg]
  have hr4 : (w.setCell ⟨g, 1, none⟩ (.int .i64 ((p : Int) + 1))).cell? ⟨g, 1, none⟩ = some (.int .i64 ((p : Int) + 1)) := by simp [World.cell?, World.setCell, Array.getElem?_modify, hg]
  clear hg
  by_cases h1 : n < 1
  · refine ⟨0, by omega, by omega, by omega, ?_⟩
    go_enter Try.func81, Try.ntmps81
    go_wp2_with fail
    go_ret
    exact ⟨rfl, HN.out, HO.out, HS.out⟩
  by_cases h2 : len < 1
  · have h3 : ((len : Int) == 0) = true := by rw [beq_iff_eq]; omega
    refine ⟨0, by omega, by omega, by omega, ?_⟩
    go_enter Try.func81, Try.ntmps81
    go_wp2_with fail
    go_ret
    exact ⟨rfl, HN.out, HO.out, HS.out⟩
  have h3 : ((len : Int) == 0) = false := by rw [beq_eq_false_iff_ne]; omega
  obtain ⟨b, off, rfl, hbg, hc⟩ := hr (by omega)
  have hcs : ∀ k, k < len → ∃ u : Nat, u < 256 ∧ (w.setCell ⟨g, 1, none⟩ (.int .i64 ((p : Int) + 1))).cell? ⟨b, off + k, none⟩ = some (.int .u8 (u : Int)) := fun k hk => by
    obtain ⟨u, hu, hcu⟩ := hc k hk
    exact ⟨u, hu, (World.cell?_setCell_other w _ _ _ (fun e => by injection e; omega)).trans hcu⟩
  clear hc hr
  by_cases h4 : p < len
  · obtain ⟨u, hu, hcu⟩ := hcs p h4
    clear hcs
    have hu2 : (u : Int) < 256 := by omega
    refine ⟨(u : Int) % n, Int.emod_nonneg _ (by omega), fun _ => Int.emod_lt_of_pos _ (by omega), by have := Int.emod_lt_of_pos (u : Int) (show (0 : Int) < n by omega); omega, ?_⟩
    go_enter Try.func81, Try.ntmps81
    go_wp2_with fail
    go_ret
    exact ⟨rfl, HN.out, HO.out, HS.out⟩
  · have hl0 : 0 < len := by omega
    have hT1 : (p : Int).tmod (len : Int) = ((p % len : Nat) : Int) := rfl
    have hT2 : ((p : Int) * 7 + 3).tmod (len : Int) = (((p * 7 + 3) % len : Nat) : Int) := rfl
    have hm1 : p % len < len := Nat.mod_lt _ hl0
    have hm2 : (p * 7 + 3) % len < len := Nat.mod_lt _ hl0
    generalize p % len = i1 at hT1 hm1
    generalize (p * 7 + 3) % len = i2 at hT2 hm2
    obtain ⟨u, hu, hcu⟩ := hcs i1 hm1
    obtain ⟨v, hv, hcv⟩ := hcs i2 hm2
    clear hcs
    have hdl : p / len ≤ p := Nat.div_le_self _ _
    obtain ⟨q, hq⟩ : ∃ q, q = p / len := ⟨_, rfl⟩
    have hz : ¬ len = 0 := by omega
    have hT3 : (p : Int).tdiv (len : Int) = (q : Int) := by rw [hq]; rfl
    rw [← hq] at hdl
    have W1 : IntKind.i64.wrap ((u : Int) * 131) = (u : Int) * 131 := IntWalk.i64_in _ (by omega)
    have W2 : IntKind.i64.wrap ((p : Int) * 7) = (p : Int) * 7 := IntWalk.i64_in _ (by omega)
    have W3 : IntKind.i64.wrap ((p : Int) * 7 + 3) = (p : Int) * 7 + 3 := IntWalk.i64_in _ (by omega)
    have W4 : IntKind.i64.wrap ((v : Int) * 1117) = (v : Int) * 1117 := IntWalk.i64_in _ (by omega)
    have W5 : IntKind.i64.wrap ((u : Int) * 131 + (v : Int) * 1117) = (u : Int) * 131 + (v : Int) * 1117 := IntWalk.i64_in _ (by omega)
    have W6 : IntKind.i64.wrap ((p : Int) * 29) = (p : Int) * 29 := IntWalk.i64_in _ (by omega)
    have W7 : IntKind.i64.wrap ((u : Int) * 131 + (v : Int) * 1117 + (p : Int) * 29) = (u : Int) * 131 + (v : Int) * 1117 + (p : Int) * 29 := IntWalk.i64_in _ (by omega)
    have W8 : IntKind.i64.wrap (q : Int) = (q : Int) := IntWalk.i64_in _ (by omega)
    have W9 : IntKind.i64.wrap ((q : Int) * 53) = (q : Int) * 53 := IntWalk.i64_in _ (by omega)
    have W10 : IntKind.i64.wrap ((u : Int) * 131 + (v : Int) * 1117 + (p : Int) * 29 + (q : Int) * 53) = (u : Int) * 131 + (v : Int) * 1117 + (p : Int) * 29 + (q : Int) * 53 := IntWalk.i64_in _ (by omega)
    clear hq
    have hXX : 0 ≤ (bits .xor .i64 ((u : Int) * 131 + (v : Int) * 1117 + (p : Int) * 29 + (q : Int) * 53) (((u : Int) * 131 + (v : Int) * 1117 + (p : Int) * 29 + (q : Int) * 53) / 64)).tmod n ∧ (bits .xor .i64 ((u : Int) * 131 + (v : Int) * 1117 + (p : Int) * 29 + (q : Int) * 53) (((u : Int) * 131 + (v : Int) * 1117 + (p : Int) * 29 + (q : Int) * 53) / 64)).tmod n < n := by
      obtain ⟨x, hx⟩ : ∃ x : Nat, (x : Int) = ((u : Int) * 131 + (v : Int) * 1117 + (p : Int) * 29 + (q : Int) * 53) := ⟨u * 131 + v * 1117 + p * 29 + q * 53, by omega⟩
      have hxx := xor_in x n (by omega) (by omega)
      rw [hx] at hxx
      exact hxx
    refine ⟨(bits .xor .i64 ((u : Int) * 131 + (v : Int) * 1117 + (p : Int) * 29 + (q : Int) * 53) (((u : Int) * 131 + (v : Int) * 1117 + (p : Int) * 29 + (q : Int) * 53) / 64)).tmod n, hXX.1, fun _ => hXX.2, by omega, ?_⟩
    clear hXX
    go_enter Try.func81, Try.ntmps81
    go_wp2_with fail
    go_quiet (fail)
    clear W1 W2 W3 W4 W5 W6 W7 W8 W9 W10 hT1 hT2 hT3
    go_wp2_with fail
    go_ret
    exact ⟨rfl, HN.out, HO.out.drewN _, HS.out⟩

/-- pick, its value told ahead. -/
theorem pick1 (w0 : World) (g q : Nat) (n : Int) (w : World) (h : Dr 158 w0 g q w) (hq : q ≤ 1099511627776) (hn : n ≤ 1099511627776) :
    ∃ v : Int, 0 ≤ v ∧ (1 ≤ n → v < n) ∧ v ≤ 1099511627776 ∧ Calls Try.prog 81 #[.pointer (some ⟨g, 0, none⟩), .int .i64 n] w fun e w' =>
      e = .returned (.int .i64 v) ∧ Dr 158 w0 g (q + 1) w' ∧ On g w w' := by
  obtain ⟨p, hp, hr⟩ := h.rd
  obtain ⟨v, h1, h2, h3, h4⟩ := pick1_any g p n w hr (by omega) hn
  refine ⟨v, h1, h2, h3, h4.mono ?_⟩
  rintro e w' ⟨h5, h6, h7, _⟩
  exact ⟨h5, ⟨h.on.trans h7, p + 1, by omega, h6⟩, h7⟩
end Go.Proofs.Ytakeijgoonagcaa

/- A region whose first operations come in one forced order, and whose others read and call quietly. No program in sight. -/
namespace Go.Proofs.Ytakeijgoonagcaa
open Go.RowKit

section
variable {P : Program} {ops : Array Oper} {md : Region.Mode} {Q' : Exit → Act → World → Prop}
def wpHead (P : Program) (ops : Array Oper) (Q' : Exit → Act → World → Prop) (K : Act → World → Prop) : List Oper → Act → World → Prop
  | [], a, w => K a w
  | o :: rest, a, w => if Region.wanted o (yielded ops a.tmps) = true then o.wp P a w (wpHead P ops Q' K rest) Q' else wpHead P ops Q' K rest (a.put o.dst undef) w
theorem wpHead_nil {K : Act → World → Prop} {a : Act} {w : World} (h : K a w) : wpHead P ops Q' K [] a w := h
theorem wpHead_step {K : Act → World → Prop} {o : Oper} {rest : List Oper} {a : Act} {w : World}
    (h : ∀ K' : Act → World → Prop, (∀ a w, wpHead P ops Q' K rest a w → K' a w) → if Region.wanted o (yielded ops a.tmps) = true then o.wp P a w K' Q' else K' (a.put o.dst undef) w) : wpHead P ops Q' K (o :: rest) a w :=
  h _ (fun _ _ h => h)
def headGo (md : Region.Mode) (ops : Array Oper) (g : Nat) : Nat → Nat → Array Bool → Bool
  | 0, k, listed => Region.lexFrom md ops g k listed
  | m + 1, k, listed => (Region.ready md ops listed == [k]) && headGo md ops g m (k + 1) (listed.setIfInBounds k true)
def headB (md : Region.Mode) (ops : Array Oper) (n : Nat) : Bool := Region.noSelect ops && decide (n ≤ ops.size) && headGo md ops (ops.size - n) n 0 (Array.replicate ops.size false)

theorem wpAny_head (hs : Region.noSelect ops = true) (l2 : List Oper) : ∀ (l1 : List Oper) (k : Nat) (listed : Array Bool) (a : Act) (w : World), (∀ j, (l1 ++ l2)[j]? = ops[k + j]?) →
    headGo md ops l2.length l1.length k listed = true → wpHead P ops Q' (fun a' w' => wpQuiet P ops (fun x => ∃ m, x = w'.drewN m) (fun a'' => ∀ x, (∃ m, x = w'.drewN m) → Q' .normal a'' x) l2 a') l1 a w →
    wpAny P md ops Q' (l1.length + l2.length) listed a w
  | [], k, listed, a, w, hl, hB, h => by
    rw [List.length_nil, Nat.zero_add]
    exact wpAny_of_quiet (C := fun x => ∃ m, x = w.drewN m) (Q := fun a' => ∀ x, (∃ m, x = w.drewN m) → Q' .normal a' x) (fun _ w' hw' h => h w' hw') _ _ _ _ ⟨0, rfl⟩ (wpAnyQ_lex hs l2 k listed a (by simpa using hl) hB h)
  | o :: l1, k, listed, a, w, hl, hB, h => by
    have h0 : ops[k]? = some o := by simpa using (hl 0).symm
    simp only [List.length_cons, headGo, Bool.and_eq_true, beq_iff_eq] at hB
    rw [List.length_cons, show l1.length + 1 + l2.length = (l1.length + l2.length) + 1 by omega]
    refine ⟨fun h1 => (by rw [hB.1] at h1; cases h1), fun i hi => ?_⟩
    rw [hB.1] at hi
    have hik : i = k := by simpa using hi
    subst hik
    have hw : wpOp P ops Q' i (wpHead P ops Q' (fun a' w' => wpQuiet P ops (fun x => ∃ m, x = w'.drewN m) (fun a'' => ∀ x, (∃ m, x = w'.drewN m) → Q' .normal a'' x) l2 a') l1) a w := by
      unfold wpOp
      simp only [h0]
      unfold wpHead at h
      split
      · rename_i hwant
        rw [if_pos hwant] at h
        exact .inl h
      · rename_i hwant
        rw [if_neg hwant] at h
        exact h
    exact wpOp_mono (fun a' w' h' => wpAny_head hs l2 l1 (i + 1) _ a' w' (fun j => by have := hl (j + 1); simpa [Nat.add_assoc, Nat.add_comm 1 j] using this) hB.2 h') hw

theorem wp_region_head {id : Nat} {Q : Exit → Act → World → Prop} {a : Act} {w : World} {l : List Oper} (n : Nat) (hm : P.follows .mixedOrders = true) (hB : headB .any l.toArray n = true)
    (h : wpHead P l.toArray Q (fun a' w' => wpQuiet P l.toArray (fun x => ∃ m, x = w'.drewN m) (fun a'' => ∀ x, (∃ m, x = w'.drewN m) → Q .normal a'' x) (l.drop n) a') (l.take n) a w.drew) : (Code.region id l.toArray true).wp P Q a w := by
  simp only [headB, Bool.and_eq_true, decide_eq_true_eq] at hB
  obtain ⟨⟨hs, hn⟩, hg⟩ := hB
  have hn' : n ≤ l.length := by simpa using hn
  refine wp_region_any hm ?_
  have h1 : (l.take n).length = n := by rw [List.length_take]; omega
  have h2 : (l.drop n).length = l.toArray.size - n := by rw [List.length_drop]; simp
  have := wpAny_head (md := .any) hs (l.drop n) (l.take n) 0 (Array.replicate l.toArray.size false) a w.drew (fun j => by rw [List.take_append_drop]; simp) (by rw [h1, h2]; exact hg) h
  rw [h1, h2, show n + (l.toArray.size - n) = l.toArray.size by omega] at this
  exact this
end
end Go.Proofs.Ytakeijgoonagcaa

/- Drawing names and steps: some name, some step. -/
namespace Go.Proofs.Ytakeijgoonagcaa
open Go.RowKit

theorem l91Name_any (w0 : World) (g q : Nat) (w : World) (h : Dr 158 w0 g q w) (hq : q ≤ 1099511620000) :
    Calls Try.prog 83 #[.pointer (some ⟨g, 0, none⟩)] w fun e w' => ∃ s : Str, e = .returned (.string s) ∧ s.size ≤ 6 ∧ Dr 158 w0 g (q + 2) w' ∧ On g w w' := by
  have HD := Lib.hid h
  have hgl := h.lt
  go_enter Try.func83, Try.ntmps83
  go_wp2_with fail
  refine (pick w0 g _ _ _ h (by omega) (by omega)).mono ?_
  rintro e w1 ⟨v, rfl, hv0, hv1, hv2, hd1, hon⟩
  have hs1 := hon.size
  by_cases hz : v = 0
  · subst hz
    go_wp2_with fail
    refine (of_ w0 g _ _ _ _ [⟨#[]⟩, ⟨#[65]⟩, ⟨#[97, 98, 99, 100, 101, 102]⟩, ⟨#[97, 98, 99, 100, 101]⟩, ⟨#[97, 49]⟩] _ _ (hd1.alloc _) (by omega) (lit_str _ 5 rfl rfl) (by omega) (by omega) (by omega)).mono ?_
    rintro e w2 ⟨s, rfl, hm, hd2, hon2⟩
    go_wp2_with fail
    go_ret
    refine ⟨s, rfl, ?_, hd2, (hon.alloc _).trans hon2⟩
    simp at hm
    rcases hm with rfl | rfl | rfl | rfl | rfl <;> decide
  · have hz2 : (v == 0) = false := by rw [beq_eq_false_iff_ne]; exact hz
    go_wp2_with fail
    refine (of_ w0 g _ _ _ _ [⟨#[97]⟩, ⟨#[98]⟩, ⟨#[99]⟩, ⟨#[100]⟩, ⟨#[101]⟩, ⟨#[102]⟩] _ _ (hd1.alloc _) (by omega) (lit_str _ 6 rfl rfl) (by omega) (by omega) (by omega)).mono ?_
    rintro e w2 ⟨s, rfl, hm, hd2, hon2⟩
    go_wp2_with fail
    go_ret
    refine ⟨s, rfl, ?_, hd2, (hon.alloc _).trans hon2⟩
    simp at hm
    rcases hm with rfl | rfl | rfl | rfl | rfl | rfl <;> decide

theorem okS_all {xs : List Str} (h : ∀ x ∈ xs, x.size ≤ 6) (hl : xs.length ≤ 100) : okS xs := ⟨by omega, fun j hj => by have := h _ (mem_nth hj); unfold maxLen; omega⟩
theorem own_le {w : World} {base : Nat} {e : TypeId} {size n : Nat} {A : Option Addr} {c : Nat} {xs : List Value} (h : w.ownsRow base e size (.slice A n c) n xs) : n ≤ c := by
  rcases h.2 with ⟨_, rfl⟩ | ⟨g, cap, cur, e, _, _, h1, _⟩
  · exact Nat.zero_le _
  · injection e with _ _ e
    subst e; exact h1
theorem sz_set (w : World) (a : Addr) (v : Value) : (w.setCell a v).heap.size = w.heap.size := by simp
/-- What drawing a step leaves. -/
def StepQ (w0 : World) (g q : Nat) (w : World) (e : Ending) (w' : World) : Prop :=
  ∃ (s : Step) (A : Option Addr) (n c : Nat), e = .returned (.agg #[.string s.name, .slice A n c, .bool s.undo]) ∧ RStr w' w.heap.size A n s.after ∧ okStep s ∧ n ≤ 6 ∧ n ≤ c ∧ Dr 158 w0 g (q + 100) w' ∧ On g w w'

/-- The head of the loop. -/
structure StepI (w : World) (g q F N : Nat) (s : Str) (u : Bool) (wr : World) (k n : Nat) (A : Option Addr) (c : Nat) (ys : List Str) : Prop where
  kn : n ≤ k
  ok : okS ys
  row : wr.ownsRow (w.heap.size + 1) 9 1 (.slice A n c) n (ys.map Value.string)
  dr : Dr 158 w g (q + 10 + k) wr
  res : wr.heap[w.heap.size]? = some (.cells #[.string ⟨#[]⟩, .slice none 0 0, .bool false] 75 (0, 0))
  box : wr.heap[F]? = some (.cells #[.string s, .slice A n c, .bool u] 75 (0, 0))
  nms : wr.heap[N]? = some (.cells nmF 9 (0, 0))
  nmo : (Value.slice A n c).ownBlock ≠ some N
  fw : w.heap.size < F
  nw : w.heap.size < N
theorem StepI.len {w : World} {g q F N : Nat} {s : Str} {u : Bool} {wr : World} {k n : Nat} {A : Option Addr} {c : Nat} {ys : List Str} (h : StepI w g q F N s u wr k n A c ys) : ys.length = n := by
  have := h.row.1; simpa using this

set_option maxRecDepth 100000 in
set_option maxHeartbeats 4000000 in
theorem l91Step_any (w0 : World) (g q : Nat) (w : World) (h : Dr 158 w0 g q w) (hq : q ≤ 1099511610000) :
    Calls Try.prog 163 #[.pointer (some ⟨g, 0, none⟩)] w (StepQ w0 g q w) := by
  have HD := Lib.hid h; clear h
  have hgl := HD.out.lt
  have hd0 := HD.out.here.alloc (.cells #[.string ⟨#[]⟩, .slice none 0 0, .bool false] 75)
  go_enter Try.func163, Try.ntmps163
  go_wp2_with fail
  refine (l91Name_any w g _ _ hd0 (by omega)).mono ?_
  rintro e w1 ⟨s, rfl, hs6, hd1, hon⟩
  have HRES := Lib.hid (hon.blk (b := w.heap.size) (heap_new rfl) (by omega))
  have hs1 := hon.size
  rw [show (w.alloc (.cells #[.string ⟨#[]⟩, .slice none 0 0, .bool false] 75)).heap.size = w.heap.size + 1 by simp] at hs1
  go_wp2_with fail
  refine (pick w g _ _ _ (hd1.alloc _) (by omega) (by omega)).mono ?_
  rintro e w2 ⟨v, rfl, hv0, hv1, hv2, hd2, hon2⟩
  have hs2 := hon2.size
  rw [show (w1.alloc (.cells #[] 9)).heap.size = w1.heap.size + 1 by simp] at hs2
  have HRES2 := Lib.hid (hon2.blk (heap_old HRES.out) (by omega))
  have HE := Lib.hid (hon2.blk (heap_new (w := w1) (o := .cells #[] 9) rfl) (by omega))
  have HD2 := Lib.hid hd2; clear hd2 hon2 hd1 hon hd0
  clear hv1 hv2
  go_wp2_with fail
  go_loopw [5] (fun i wr => ∃ (k n : Nat) (A : Option Addr) (c : Nat) (ys : List Str), k ≤ 6 ∧ i = .int .i64 k ∧ StepI w g q w2.heap.size (w2.heap.size + 1) s (decide (0 < v)) wr k n A c ys) (fun i _ => 6 - (intOf i).toNat)
  case atStart =>
    refine ⟨0, 0, some ⟨w1.heap.size, 0, none⟩, 0, [], by omega, rfl, Nat.le_refl _, okS_nil, ⟨rfl, .inr ⟨w1.heap.size, 0, #[], rfl, hs1, heap_old (heap_old HE.out), by omega, by unfold maxLen; omega, by simp, by simp⟩⟩, ((HD2.out.alloc _).alloc _).more (by omega), heap_old (heap_old HRES2.out), heap_old (heap_new rfl), heap_new (by simp), by simp [Value.ownBlock]; omega, by omega, by omega⟩
  case round =>
    obtain ⟨wo, rfl⟩ : ∃ wo : World, wo = wr := ⟨_, rfl⟩
    obtain ⟨k, n, A, c, ys, hk, rfl, hI⟩ := hrel
    have HI := Lib.hid hI; clear hI
    have hlN := heap_lt HI.out.nms
    have hlF := heap_lt HI.out.box
    by_cases hlt : k < 6
    · obtain ⟨s2, hs21, hs22⟩ := nmF_at k hlt
      have hcell := (blk_cl HI.out.nms hs21).1
      clear hs21
      obtain ⟨x, hx0, hx1, hx2, hpk⟩ := pick1 wo g _ 4 wo.drew HI.out.dr.here.drew (by omega) (by omega)
      have HPK := Lib.hid hpk; clear hpk hx1 hx2
      have HCS : Hid (∀ w', On g wo w' → w'.cell? ⟨w2.heap.size + 1, k, none⟩ = some (.string s2) ∧ w'.cell? ⟨w2.heap.size, 0, none⟩ = some (.string s) ∧ w'.cell? ⟨w2.heap.size, 1, none⟩ = some (.slice A n c)) := fun w' h =>
        ⟨(h.cell hlN (by omega)).trans hcell, (blk_cl (k := 0) (h.blk HI.out.box (by omega)) rfl).1, (blk_cl (k := 1) (h.blk HI.out.box (by omega)) rfl).1⟩
      clear hcell
      by_cases hx : x = 0
      · subst hx
        by_cases hnm : s2 = s
        · have hq0 : (s2.toList != s.toList) = false := by rw [hnm]; simp
          have hq1 : (s2.toList == s.toList) = true := seq_t hnm
          have HNM := Lib.hid hnm; clear hnm
          go_wp2_with fail
          refine wp_region_head 4 (by kernel_rfl) (by kernel_rfl) ?_
          simp only [List.take_succ_cons, List.take_zero, List.drop_succ_cons, List.drop_zero]
          refine wpHead_step (fun K hK => ?_); go_simp; refine hK _ _ ?_; clear hK K
          refine wpHead_step (fun K hK => ?_); go_simp
          refine HPK.out.mono ?_
          rintro e w3 ⟨rfl, hd3, hon3⟩
          have hon3' : On g wo w3 := (On.refl g wo).drew.trans hon3
          obtain ⟨e1, e2, e3⟩ := HCS.out w3 hon3'
          refine hK _ _ ?_; clear hK K
          refine wpHead_step (fun K hK => ?_); go_simp; refine hK _ _ ?_; clear hK K
          refine wpHead_step (fun K hK => ?_); go_simp; refine hK _ _ ?_; clear hK K
          refine wpHead_nil ?_
          repeat (go_big_quiet_step (fail))
          refine wpQuiet_nil ?_
          intro _ hw'
          obtain ⟨mq, rfl⟩ := hw'
          go_wp2_with fail
          go_roundw
          case rel => exact ⟨k + 1, n, A, c, ys, by omega, by go_num, by have := HI.out.kn; omega, HI.out.ok, row_on HI.out.row (hon3'.drewN mq) (by omega), (((HI.out.dr.trans (hd3)).drewN mq).more (by omega)), (hon3'.drewN mq).blk HI.out.res (by omega), (hon3'.drewN mq).blk HI.out.box (by omega), (hon3'.drewN mq).blk HI.out.nms (by omega), HI.out.nmo, HI.out.fw, HI.out.nw⟩
          case measure => simp [intOf]; omega
        · have hq1 : (s2.toList == s.toList) = false := seq_f hnm
          have hq0 : (s2.toList != s.toList) = true := by rw [bne, hq1]; rfl
          have HNM := Lib.hid hnm; clear hnm
          by_cases hn4 : n < 4
          · have hn4i : decide ((n : Int) < 4) = true := by simp; omega
            go_wp2_with fail
            refine wp_region_head 4 (by kernel_rfl) (by kernel_rfl) ?_
            simp only [List.take_succ_cons, List.take_zero, List.drop_succ_cons, List.drop_zero]
            refine wpHead_step (fun K hK => ?_); go_simp; refine hK _ _ ?_; clear hK K
            refine wpHead_step (fun K hK => ?_); go_simp
            refine HPK.out.mono ?_
            rintro e w3 ⟨rfl, hd3, hon3⟩
            have hon3' : On g wo w3 := (On.refl g wo).drew.trans hon3
            obtain ⟨e1, e2, e3⟩ := HCS.out w3 hon3'
            refine hK _ _ ?_; clear hK K
            refine wpHead_step (fun K hK => ?_); go_simp; refine hK _ _ ?_; clear hK K
            refine wpHead_step (fun K hK => ?_); go_simp; refine hK _ _ ?_; clear hK K
            refine wpHead_nil ?_
            repeat (go_big_quiet_step (fail))
            refine wpQuiet_nil ?_
            intro _ hw'
            obtain ⟨mq, rfl⟩ := hw'
            have hon5 := hon3'.drewN mq
            have hdr5 := ((HI.out.dr.trans hd3).drewN mq)
            clear hon3' hon3 hd3 e1 e2 e3
            generalize w3.drewN mq = w5 at *
            have HON5 := Lib.hid hon5; clear hon5
            have HDR5 := Lib.hid hdr5; clear hdr5
            have HB5 := Lib.hid (HON5.out.blk HI.out.box (by omega))
            have HN5 := Lib.hid (HON5.out.blk HI.out.nms (by omega))
            have HR5 := Lib.hid (row_on HI.out.row HON5.out (by omega))
            obtain ⟨c1, b0, b1⟩ := HCS.out w5 HON5.out
            have c1a := fun o => (World.cell?_alloc_some w5 _ o (by rw [c1]; rfl)).trans c1
            have b1a := fun o => (World.cell?_alloc_some w5 _ o (by rw [b1]; rfl)).trans b1
            have hbase : w.heap.size + 1 ≤ w5.heap.size := by have := heap_lt HB5.out; omega
            have HNB := Lib.hid (row_ne HR5.out HB5.out (by decide))
            have HLY := Lib.hid HI.out.len
            have hkn := HI.out.kn
            go_wp2_with fail
            go_region_law (first | (refine strapp_step (o := ⟨some 45, _, _, _, _, _⟩) (w.heap.size + 1) _ n ys _ s2 (by exact HR5.out.alloc _) (by rfl) (.tmp 39) (.tmp 44) (by rfl) (by rfl) (by rfl) (by exact heap_new rfl) (by omega) (by simp; omega) ?_; intro v7 w7 how7 hg7 hat7; obtain ⟨A7, c7, rfl, hsr7⟩ := own_sstr how7; have hb7 := grown_blk hg7 (heap_old HB5.out) HNB.out; have z1 := (blk_cl (k := 1) hb7 rfl).1; have z2 := (blk_cl (k := 1) hb7 rfl).2) | fail "no arm")
            all_goals go_wp2_with fail
            all_goals
              refine ⟨⟨k + 1, n + 1, A7, c7, ys ++ [s2], by omega, by go_num, ⟨by omega, okS_app HI.out.ok (by rw [HLY.out]; omega) (by unfold maxLen; omega), row_set how7 hb7 (by decide), ?_, ?_, set31 hb7, ?_, ?_, HI.out.fw, HI.out.nw⟩⟩, by simp [intOf]; omega⟩
              · exact (((((HDR5.out.alloc _).drew).grown hg7 (fun i hi => by have := HR5.out.lt i hi; omega)).set_ (by omega) (by omega) _ _).more (by omega))
              · exact set_ne (grown_blk hg7 (heap_old (HON5.out.blk HI.out.res (by omega))) (by intro e; have := (HR5.out.lt _ e).1; omega)) (by omega)
              · exact set_ne (grown_blk hg7 (heap_old HN5.out) HI.out.nmo) (by omega)
              · intro e
                rcases hat7 with h | h
                · exact HI.out.nmo (h.symm.trans e)
                · rw [h] at e
                  injection e with e
                  have := heap_lt HN5.out
                  simp at e
                  omega
          · have hn4i : decide ((n : Int) < 4) = false := by simp; omega
            have hn4n : decide (n < 4) = false := by simp; omega
            go_wp2_with fail
            refine wp_region_head 4 (by kernel_rfl) (by kernel_rfl) ?_
            simp only [List.take_succ_cons, List.take_zero, List.drop_succ_cons, List.drop_zero]
            refine wpHead_step (fun K hK => ?_); go_simp; refine hK _ _ ?_; clear hK K
            refine wpHead_step (fun K hK => ?_); go_simp
            refine HPK.out.mono ?_
            rintro e w3 ⟨rfl, hd3, hon3⟩
            have hon3' : On g wo w3 := (On.refl g wo).drew.trans hon3
            obtain ⟨e1, e2, e3⟩ := HCS.out w3 hon3'
            refine hK _ _ ?_; clear hK K
            refine wpHead_step (fun K hK => ?_); go_simp; refine hK _ _ ?_; clear hK K
            refine wpHead_step (fun K hK => ?_); go_simp; refine hK _ _ ?_; clear hK K
            refine wpHead_nil ?_
            repeat (go_big_quiet_step (fail))
            refine wpQuiet_nil ?_
            intro _ hw'
            obtain ⟨mq, rfl⟩ := hw'
            go_wp2_with fail
            go_roundw
            case rel => exact ⟨k + 1, n, A, c, ys, by omega, by go_num, by have := HI.out.kn; omega, HI.out.ok, row_on HI.out.row (hon3'.drewN mq) (by omega), (((HI.out.dr.trans (hd3)).drewN mq).more (by omega)), (hon3'.drewN mq).blk HI.out.res (by omega), (hon3'.drewN mq).blk HI.out.box (by omega), (hon3'.drewN mq).blk HI.out.nms (by omega), HI.out.nmo, HI.out.fw, HI.out.nw⟩
            case measure => simp [intOf]; omega
      · have hz2 : (x == 0) = false := by rw [beq_eq_false_iff_ne]; exact hx
        go_wp2_with fail
        refine wp_region_head 4 (by kernel_rfl) (by kernel_rfl) ?_
        simp only [List.take_succ_cons, List.take_zero, List.drop_succ_cons, List.drop_zero]
        refine wpHead_step (fun K hK => ?_); go_simp; refine hK _ _ ?_; clear hK K
        refine wpHead_step (fun K hK => ?_); go_simp
        refine HPK.out.mono ?_
        rintro e w3 ⟨rfl, hd3, hon3⟩
        have hon3' : On g wo w3 := (On.refl g wo).drew.trans hon3
        obtain ⟨e1, e2, e3⟩ := HCS.out w3 hon3'
        refine hK _ _ ?_; clear hK K
        refine wpHead_step (fun K hK => ?_); go_simp; refine hK _ _ ?_; clear hK K
        refine wpHead_step (fun K hK => ?_); go_simp; refine hK _ _ ?_; clear hK K
        refine wpHead_nil ?_
        repeat (go_big_quiet_step (fail))
        refine wpQuiet_nil ?_
        intro _ hw'
        obtain ⟨mq, rfl⟩ := hw'
        go_wp2_with fail
        go_roundw
        case rel => exact ⟨k + 1, n, A, c, ys, by omega, by go_num, by have := HI.out.kn; omega, HI.out.ok, row_on HI.out.row (hon3'.drewN mq) (by omega), (((HI.out.dr.trans (hd3)).drewN mq).more (by omega)), (hon3'.drewN mq).blk HI.out.res (by omega), (hon3'.drewN mq).blk HI.out.box (by omega), (hon3'.drewN mq).blk HI.out.nms (by omega), HI.out.nmo, HI.out.fw, HI.out.nw⟩
        case measure => simp [intOf]; omega
    · have hn6 : n ≤ 6 := by have := HI.out.kn; omega
      have HLY := Lib.hid HI.out.len
      have hnc := own_le HI.out.row
      obtain ⟨A0, c0, e0, hys⟩ := own_str HI.out.row
      injection e0 with e0 _ e0'
      subst e0; subst e0'
      have HYS := Lib.hid hys; clear hys
      go_wp2_with fail
      refine (pick wo g _ _ _ HI.out.dr.here (by omega) (by omega)).mono ?_
      rintro e w3 ⟨x, rfl, hx0, hx1, hx2, hd3, hon3⟩
      clear hx1 hx2
      have HD3 := Lib.hid (HI.out.dr.trans hd3)
      have HB3 := Lib.hid (hon3.blk HI.out.box (by omega))
      have HR3 := Lib.hid (hon3.blk HI.out.res (by omega))
      have HYS3 := Lib.hid (HYS.out.on hon3 (by omega))
      clear hd3 hon3
      have m1 := (blk_cl (k := 1) HB3.out rfl).1
      have m1f := (blk_cl (k := 1) HB3.out rfl).2
      have m0 := (blk_cl (k := 0) HB3.out rfl).1
      have hF3 := heap_lt HB3.out
      have hgF : g < w2.heap.size := by omega
      have hFR : w.heap.size ≠ w2.heap.size := by omega
      have HOKY := Lib.hid HI.out.ok
      clear HI HYS
      by_cases h0 : x = 0
      · subst h0
        have HSL := lit_str (w := w3.setCell ⟨w2.heap.size, 1, none⟩ (.slice (some ⟨w3.heap.size, 0, none⟩) 2 2)) (e := 9) (cs := #[.string ⟨#[98]⟩, .string ⟨#[97]⟩]) [⟨#[98]⟩, ⟨#[97]⟩] 2 rfl rfl
        rw [sz_set] at HSL
        have HSL := Lib.hid (HSL.lower (show w.heap.size + 1 ≤ w3.heap.size by omega))
        have HB6 := Lib.hid (heap_old (o := (.cells #[.string ⟨#[98]⟩, .string ⟨#[97]⟩] 9)) (set31 (u := (.slice (some ⟨w3.heap.size, 0, none⟩) 2 2)) HB3.out))
        have HR6 := Lib.hid (heap_old (o := (.cells #[.string ⟨#[98]⟩, .string ⟨#[97]⟩] 9)) (set_ne (b := w2.heap.size) (o := 1) (u := (.slice (some ⟨w3.heap.size, 0, none⟩) 2 2)) HR3.out hFR))
        have a0 := (blk_cl (k := 0) HB6.out rfl).1
        have a1 := (blk_cl (k := 1) HB6.out rfl).1
        have a2 := (blk_cl (k := 2) HB6.out rfl).1
        have r0a := (blk_cl (k := 0) HR6.out rfl).1
        have r0b := (blk_cl (k := 0) HR6.out rfl).2
        have r1a := (blk_cl (k := 1) HR6.out rfl).1
        have r1b := (blk_cl (k := 1) HR6.out rfl).2
        have r2a := (blk_cl (k := 2) HR6.out rfl).1
        have r2b := (blk_cl (k := 2) HR6.out rfl).2
        go_wp2_with fail
        have hres := set3 (u0 := .string s) (u1 := (.slice (some ⟨w3.heap.size, 0, none⟩) 2 2)) (u2 := .bool (decide (0 < v))) HR6.out
        have p0 := (blk_cl (k := 0) hres rfl).1
        have p1 := (blk_cl (k := 1) hres rfl).1
        have p2 := (blk_cl (k := 2) hres rfl).1
        have hdr := (((HD3.out.set_ (b := w2.heap.size) (by omega) hgF 1 (.slice (some ⟨w3.heap.size, 0, none⟩) 2 2)).alloc (.cells #[.string ⟨#[98]⟩, .string ⟨#[97]⟩] 9)).set3 (u0 := .string s) (u1 := (.slice (some ⟨w3.heap.size, 0, none⟩) 2 2)) (u2 := .bool (decide (0 < v))) (Nat.le_refl _) hgl)
        exact bodyPost_ret (v := .agg #[.string s, (.slice (some ⟨w3.heap.size, 0, none⟩) 2 2), .bool (decide (0 < v))]) (by simp [results, Try.results163, go_sem, p0, p1, p2]) rfl ⟨⟨s, [⟨#[98]⟩, ⟨#[97]⟩], decide (0 < v)⟩, _, _, _, rfl, (((HSL.out.setLow (Nat.lt_succ_self _)).setLow (Nat.lt_succ_self _)).setLow (Nat.lt_succ_self _)).lower (Nat.le_succ _), ⟨by unfold maxLen; show s.size ≤ _; omega, okS_all (by intro x hx; simp at hx; first | (rcases hx with rfl | rfl | rfl | rfl | rfl <;> decide) | (rcases hx with rfl | rfl <;> decide) | (subst hx; omega)) (by simp)⟩, by omega, by omega, (HD.out.trans hdr).more (by omega), hdr.on⟩
      by_cases h1 : x = 1
      · subst h1
        have HSL := lit_str (w := w3.setCell ⟨w2.heap.size, 1, none⟩ (.slice (some ⟨w3.heap.size, 0, none⟩) 5 5)) (e := 9) (cs := #[.string ⟨#[97]⟩, .string ⟨#[98]⟩, .string ⟨#[99]⟩, .string ⟨#[100]⟩, .string ⟨#[101]⟩]) [⟨#[97]⟩, ⟨#[98]⟩, ⟨#[99]⟩, ⟨#[100]⟩, ⟨#[101]⟩] 5 rfl rfl
        rw [sz_set] at HSL
        have HSL := Lib.hid (HSL.lower (show w.heap.size + 1 ≤ w3.heap.size by omega))
        have HB6 := Lib.hid (heap_old (o := (.cells #[.string ⟨#[97]⟩, .string ⟨#[98]⟩, .string ⟨#[99]⟩, .string ⟨#[100]⟩, .string ⟨#[101]⟩] 9)) (set31 (u := (.slice (some ⟨w3.heap.size, 0, none⟩) 5 5)) HB3.out))
        have HR6 := Lib.hid (heap_old (o := (.cells #[.string ⟨#[97]⟩, .string ⟨#[98]⟩, .string ⟨#[99]⟩, .string ⟨#[100]⟩, .string ⟨#[101]⟩] 9)) (set_ne (b := w2.heap.size) (o := 1) (u := (.slice (some ⟨w3.heap.size, 0, none⟩) 5 5)) HR3.out hFR))
        have a0 := (blk_cl (k := 0) HB6.out rfl).1
        have a1 := (blk_cl (k := 1) HB6.out rfl).1
        have a2 := (blk_cl (k := 2) HB6.out rfl).1
        have r0a := (blk_cl (k := 0) HR6.out rfl).1
        have r0b := (blk_cl (k := 0) HR6.out rfl).2
        have r1a := (blk_cl (k := 1) HR6.out rfl).1
        have r1b := (blk_cl (k := 1) HR6.out rfl).2
        have r2a := (blk_cl (k := 2) HR6.out rfl).1
        have r2b := (blk_cl (k := 2) HR6.out rfl).2
        go_wp2_with fail
        have hres := set3 (u0 := .string s) (u1 := (.slice (some ⟨w3.heap.size, 0, none⟩) 5 5)) (u2 := .bool (decide (0 < v))) HR6.out
        have p0 := (blk_cl (k := 0) hres rfl).1
        have p1 := (blk_cl (k := 1) hres rfl).1
        have p2 := (blk_cl (k := 2) hres rfl).1
        have hdr := (((HD3.out.set_ (b := w2.heap.size) (by omega) hgF 1 (.slice (some ⟨w3.heap.size, 0, none⟩) 5 5)).alloc (.cells #[.string ⟨#[97]⟩, .string ⟨#[98]⟩, .string ⟨#[99]⟩, .string ⟨#[100]⟩, .string ⟨#[101]⟩] 9)).set3 (u0 := .string s) (u1 := (.slice (some ⟨w3.heap.size, 0, none⟩) 5 5)) (u2 := .bool (decide (0 < v))) (Nat.le_refl _) hgl)
        exact bodyPost_ret (v := .agg #[.string s, (.slice (some ⟨w3.heap.size, 0, none⟩) 5 5), .bool (decide (0 < v))]) (by simp [results, Try.results163, go_sem, p0, p1, p2]) rfl ⟨⟨s, [⟨#[97]⟩, ⟨#[98]⟩, ⟨#[99]⟩, ⟨#[100]⟩, ⟨#[101]⟩], decide (0 < v)⟩, _, _, _, rfl, (((HSL.out.setLow (Nat.lt_succ_self _)).setLow (Nat.lt_succ_self _)).setLow (Nat.lt_succ_self _)).lower (Nat.le_succ _), ⟨by unfold maxLen; show s.size ≤ _; omega, okS_all (by intro x hx; simp at hx; first | (rcases hx with rfl | rfl | rfl | rfl | rfl <;> decide) | (rcases hx with rfl | rfl <;> decide) | (subst hx; omega)) (by simp)⟩, by omega, by omega, (HD.out.trans hdr).more (by omega), hdr.on⟩
      by_cases h2 : x = 2
      · subst h2
        have HSL := lit_str (w := w3.setCell ⟨w2.heap.size, 1, none⟩ (.slice (some ⟨w3.heap.size, 0, none⟩) 1 1)) (e := 9) (cs := #[.string s]) [s] 1 rfl rfl
        rw [sz_set] at HSL
        have HSL := Lib.hid (HSL.lower (show w.heap.size + 1 ≤ w3.heap.size by omega))
        have HB6 := Lib.hid (heap_old (o := (.cells #[.string s] 9)) (set31 (u := (.slice (some ⟨w3.heap.size, 0, none⟩) 1 1)) HB3.out))
        have HR6 := Lib.hid (heap_old (o := (.cells #[.string s] 9)) (set_ne (b := w2.heap.size) (o := 1) (u := (.slice (some ⟨w3.heap.size, 0, none⟩) 1 1)) HR3.out hFR))
        have a0 := (blk_cl (k := 0) HB6.out rfl).1
        have a1 := (blk_cl (k := 1) HB6.out rfl).1
        have a2 := (blk_cl (k := 2) HB6.out rfl).1
        have r0a := (blk_cl (k := 0) HR6.out rfl).1
        have r0b := (blk_cl (k := 0) HR6.out rfl).2
        have r1a := (blk_cl (k := 1) HR6.out rfl).1
        have r1b := (blk_cl (k := 1) HR6.out rfl).2
        have r2a := (blk_cl (k := 2) HR6.out rfl).1
        have r2b := (blk_cl (k := 2) HR6.out rfl).2
        go_wp2_with fail
        have hres := set3 (u0 := .string s) (u1 := (.slice (some ⟨w3.heap.size, 0, none⟩) 1 1)) (u2 := .bool (decide (0 < v))) HR6.out
        have p0 := (blk_cl (k := 0) hres rfl).1
        have p1 := (blk_cl (k := 1) hres rfl).1
        have p2 := (blk_cl (k := 2) hres rfl).1
        have hdr := (((HD3.out.set_ (b := w2.heap.size) (by omega) hgF 1 (.slice (some ⟨w3.heap.size, 0, none⟩) 1 1)).alloc (.cells #[.string s] 9)).set3 (u0 := .string s) (u1 := (.slice (some ⟨w3.heap.size, 0, none⟩) 1 1)) (u2 := .bool (decide (0 < v))) (Nat.le_refl _) hgl)
        exact bodyPost_ret (v := .agg #[.string s, (.slice (some ⟨w3.heap.size, 0, none⟩) 1 1), .bool (decide (0 < v))]) (by simp [results, Try.results163, go_sem, p0, p1, p2]) rfl ⟨⟨s, [s], decide (0 < v)⟩, _, _, _, rfl, (((HSL.out.setLow (Nat.lt_succ_self _)).setLow (Nat.lt_succ_self _)).setLow (Nat.lt_succ_self _)).lower (Nat.le_succ _), ⟨by unfold maxLen; show s.size ≤ _; omega, okS_all (by intro x hx; simp at hx; first | (rcases hx with rfl | rfl | rfl | rfl | rfl <;> decide) | (rcases hx with rfl | rfl <;> decide) | (subst hx; omega)) (by simp)⟩, by omega, by omega, (HD.out.trans hdr).more (by omega), hdr.on⟩
      have q0 : (x == 0) = false := by rw [beq_eq_false_iff_ne]; exact h0
      have q1 : (x == 1) = false := by rw [beq_eq_false_iff_ne]; exact h1
      have q2 : (x == 2) = false := by rw [beq_eq_false_iff_ne]; exact h2
      have a2 := (blk_cl (k := 2) HB3.out rfl).1
      have r0a := (blk_cl (k := 0) HR3.out rfl).1
      have r0b := (blk_cl (k := 0) HR3.out rfl).2
      have r1a := (blk_cl (k := 1) HR3.out rfl).1
      have r1b := (blk_cl (k := 1) HR3.out rfl).2
      have r2a := (blk_cl (k := 2) HR3.out rfl).1
      have r2b := (blk_cl (k := 2) HR3.out rfl).2
      go_wp2_with fail
      have hres := set3 (u0 := .string s) (u1 := .slice A n c) (u2 := .bool (decide (0 < v))) HR3.out
      have p0 := (blk_cl (k := 0) hres rfl).1
      have p1 := (blk_cl (k := 1) hres rfl).1
      have p2 := (blk_cl (k := 2) hres rfl).1
      have hdr := HD3.out.set3 (u0 := .string s) (u1 := .slice A n c) (u2 := .bool (decide (0 < v))) (Nat.le_refl _) hgl
      exact bodyPost_ret (v := .agg #[.string s, .slice A n c, .bool (decide (0 < v))]) (by simp [results, Try.results163, go_sem, p0, p1, p2]) rfl ⟨⟨s, ys, decide (0 < v)⟩, _, _, _, rfl, (((HYS3.out.setLow (Nat.lt_succ_self _)).setLow (Nat.lt_succ_self _)).setLow (Nat.lt_succ_self _)).lower (Nat.le_succ _), ⟨by unfold maxLen; show s.size ≤ _; omega, HOKY.out⟩, hn6, hnc, (HD.out.trans hdr).more (by omega), hdr.on⟩
end Go.Proofs.Ytakeijgoonagcaa

/- Drawing a flow and a run out of a code. -/
namespace Go.Proofs.Ytakeijgoonagcaa
open Go.RowKit

/-- What drawing a flow and a run leaves. -/
def BothQ (w0 : World) (g q : Nat) (w : World) (e : Ending) (w' : World) : Prop :=
  ∃ (v : Int) (A : Option Addr) (n c : Nat) (ss : List Step) (st : Int) (B : Option Addr) (m d : Nat) (xs : List Str), e = .returned (.tuple #[.agg #[.int .i64 v, .slice A n c], .agg #[.int .i64 st, .slice B m d]]) ∧
    RStep w' w.heap.size A n ss ∧ okSteps ss ∧ 1 ≤ n ∧ n ≤ 6 ∧ RStr w' w.heap.size B m xs ∧ m ≤ d ∧ m ≤ 9 ∧ Dr 158 w0 g (q + 200) w' ∧ On g w w'

def BothD (w : World) (e : Ending) (w' : World) : Prop :=
  ∃ (f : Flow) (A : Option Addr) (n c : Nat) (st : Int) (B : Option Addr) (m d : Nat) (xs : List Str), e = .returned (.tuple #[.agg #[.int .i64 f.ver, .slice A n c], .agg #[.int .i64 st, .slice B m d]]) ∧
    RStep w' w.heap.size A n f.steps ∧ okSteps f.steps ∧ 1 ≤ n ∧ n ≤ 6 ∧ RStr w' w.heap.size B m xs ∧ m ≤ d ∧ m ≤ 9 ∧ Below w.heap.size w w'

end Go.Proofs.Ytakeijgoonagcaa

/- Drawing events: what is next, and a step's name. -/
namespace Go.Proofs.Ytakeijgoonagcaa
open Go.RowKit

end Go.Proofs.Ytakeijgoonagcaa

/- Drawing events. -/
namespace Go.Proofs.Ytakeijgoonagcaa
open Go.RowKit

end Go.Proofs.Ytakeijgoonagcaa

/- Drawing a pool and an event out of a code. -/
namespace Go.Proofs.Ytakeijgoonagcaa
open Go.RowKit

def PoolEvD (w : World) (e : Ending) (w' : World) : Prop :=
  ∃ (f : Flow) (A : Option Addr) (n c : Nat) (B : Option Addr) (m d : Nat) (cs : List Case) (nm : Str) (k : Int) (x : Str), e = .returned (.tuple #[.agg #[.int .i64 f.ver, .slice A n c], .slice B m d, .string nm, .agg #[.int .i64 k, .string x]]) ∧
    RStep w' w.heap.size A n f.steps ∧ okSteps f.steps ∧ 1 ≤ n ∧ n ≤ 6 ∧ RCase w' w.heap.size B m cs ∧ okCases cs ∧ m ≤ d ∧ m ≤ 9 ∧ Below w.heap.size w w'
theorem cell_far {w : World} {b b' o o' : Nat} {u : Value} (h : b ≠ b') : (w.setCell ⟨b', o', none⟩ u).cell? ⟨b, o, none⟩ = w.cell? ⟨b, o, none⟩ :=
  World.cell?_setCell_other _ _ _ _ (fun e => by injection e with e; exact h e.symm)

end Go.Proofs.Ytakeijgoonagcaa
