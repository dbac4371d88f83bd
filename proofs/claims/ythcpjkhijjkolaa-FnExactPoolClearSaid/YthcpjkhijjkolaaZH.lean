/- Contracts of functions and plain lemmas, joined. No condition but those that each states. -/
import Derived.Deep.RegionHeld3
import Derived.Deep.Quiet
import Derived.StillTail
import Derived.BigQuiet
import Derived.Deep.RegionLaw
import Derived.Test.YthcpjkhijjkolaaZG
import Derived.Test.YthcpjkhijjkolaaZF
import Derived.Test.YthcpjkhijjkolaaZA
import Derived.Test.YthcpjkhijjkolaaZB
import Derived.Test.YthcpjkhijjkolaaZC

/- Pools: copies of cases, and the place of a name. -/
namespace Go.Proofs.Ythcpjkhijjkolaa
open Go.RowKit

set_option maxRecDepth 100000 in
set_option maxHeartbeats 2000000 in
theorem cloneCases_any (B : Option Addr) (m d : Nat) (cs : List Case) (lo' : Nat) (w : World) (hd : RCase w lo' B m cs) (hcs : okCases cs) :
    Calls Try.prog 96 #[.slice B m d] w fun e w' => ∃ v, e = .returned v ∧ KRowD w' w.heap.size none w.heap.size w'.heap.size v m cs ∧ Below w.heap.size w w' := by
  have HL := Lib.hid hd.1
  have hm : m ≤ 1048576 := by have := hcs.1; rw [hd.1] at this; exact this
  have HD := Lib.hid hd; clear hd
  have HC := Lib.hid hcs; clear hcs
  go_enter Try.func96, Try.ntmps96
  go_wp2_with fail
  go_loopw [3, 8] (fun v i wr => ∃ k : Nat, k ≤ m ∧ i = .int .i64 (k : Int) ∧ KRowD wr w.heap.size none w.heap.size wr.heap.size v k (cs.take k) ∧ Below w.heap.size w wr) (fun _ i _ => m - (intOf i).toNat)
  case atStart => exact ⟨0, Nat.zero_le _, rfl, KRowD.nil, Below.refl _ _⟩
  case round =>
    obtain ⟨wo, rfl⟩ : ∃ wo : World, wo = wr := ⟨_, rfl⟩
    obtain ⟨k, hk, rfl, hrow, hbw⟩ := hrel
    have HROW := Lib.hid hrow; clear hrow
    have HBO := Lib.hid hbw; clear hbw
    obtain ⟨A1, c1, rfl, _⟩ := HROW.out.row.hat
    by_cases hlt : k < m
    · obtain ⟨b, off, rfl, _, hc⟩ := RCase.at_ (HD.out.below HBO.out) hlt
      obtain ⟨A', n', c', ⟨d1, d2, d3⟩, hdr, hnc, _⟩ := hc k hlt
      clear hc
      have hkl : k < cs.length := by rw [HL.out]; exact hlt
      have HT := Lib.hid (take_nth hkl)
      have hn' : n' ≤ 1048576 := by rw [← hdr.1]; exact (HC.out.2 k hkl).2
      have HDR := Lib.hid (hdr.alloc (.cells #[.string (nth cs k).name, .int .i64 (nth cs k).st, .slice A' n' c'] 53)); clear hdr
      have HX := Lib.hid (heap_new (w := wo) (o := .cells #[.string (nth cs k).name, .int .i64 (nth cs k).st, .slice A' n' c'] 53) rfl)
      have HROW2 := Lib.hid (HROW.out.alloc (.cells #[.string (nth cs k).name, .int .i64 (nth cs k).st, .slice A' n' c'] 53))
      have HB2 := Lib.hid (HBO.out.alloc HBO.out.size (.cells #[.string (nth cs k).name, .int .i64 (nth cs k).st, .slice A' n' c'] 53))
      go_upto_region 5 with fail
      have hsk : wo.heap.size < (wo.alloc (.cells #[.string (nth cs k).name, .int .i64 (nth cs k).st, .slice A' n' c'] 53)).heap.size := by simp
      generalize ewk : wo.alloc (.cells #[.string (nth cs k).name, .int .i64 (nth cs k).st, .slice A' n' c'] 53) = wk at *
      clear ewk d1 d2 d3
      have hsw : w.heap.size ≤ wk.heap.size := HB2.out.size
      have HSB : Hid (∀ w', Below wk.heap.size wk w' → (w'.cell? ⟨wo.heap.size, 0, none⟩ = some (.string (nth cs k).name) ∧ w'.cell? ⟨wo.heap.size, 1, none⟩ = some (.int .i64 (nth cs k).st) ∧ w'.cell? ⟨wo.heap.size, 2, none⟩ = some (.slice A' n' c')) ∧ Below wk.heap.size wk w') := fun w' h => by
        have e1 := (h.block _ (heap_lt HX.out)).trans HX.out
        exact ⟨⟨(blk_cl (k := 0) e1 rfl).1, (blk_cl (k := 1) e1 rfl).1, (blk_cl (k := 2) e1 rfl).1⟩, h⟩
      have HKP : Hid (∀ {w5 w7 : World} {o : Obj}, Below wk.heap.size wk w5 → (w5.alloc o).grownBy w7 (Value.slice A1 k c1).ownBlock → (w7.cell? ⟨wo.heap.size, 0, none⟩ = some (.string (nth cs k).name) ∧ w7.cell? ⟨wo.heap.size, 1, none⟩ = some (.int .i64 (nth cs k).st) ∧ w7.cell? ⟨wo.heap.size, 2, none⟩ = some (.slice A' n' c'))) := fun {w5 w7 o} h hg => by
        have n1' : (Value.slice A1 k c1).ownBlock ≠ some wo.heap.size := fun e => by
          have h1 := (KRow.lt HROW.out.row e).2
          omega
        have e1 := grown_blk hg (heap_old (o := o) ((h.block _ (heap_lt HX.out)).trans HX.out)) n1'
        exact ⟨(blk_cl (k := 0) e1 rfl).1, (blk_cl (k := 1) e1 rfl).1, (blk_cl (k := 2) e1 rfl).1⟩
      go_wp2_with fail
      go_region_held3 (fun w' => w'.cell? ⟨wo.heap.size, 0, none⟩ = some (.string (nth cs k).name) ∧ w'.cell? ⟨wo.heap.size, 1, none⟩ = some (.int .i64 (nth cs k).st) ∧ w'.cell? ⟨wo.heap.size, 2, none⟩ = some (.slice A' n' c'))
        (first | exact hk7 | exact (HSB.out _ (Below.refl _ _).drew).1 | exact (HSB.out _ hbw).1 | exact (HSB.out _ (hbw.alloc hbw.size _)).1 | fail "keep")
        (first
          | (go_at_call 120; refine (cloneRun_any _ _ _ (nth cs k).st (nth cs k).done _ _ (HDR.out.below (Below.refl _ _).drew) hn').mono ?_; rintro e w5 ⟨A5, c5, rfl, hss5, hc5, hb5⟩; have hbw : Below wk.heap.size wk w5 := (Below.refl wk.heap.size wk).drew.trans hb5)
          | (refine case_stepD (o := ⟨some 20, _, _, _, _, _⟩) w.heap.size w.heap.size wo.heap.size w.heap.size w5.heap.size none _ k (cs.take k) _ (nth cs k) A5 n' c5 (by exact (HROW2.out.below hbw).alloc _) (by exact (hss5.mono hsw).alloc _) hc5 (Nat.le_refl _) (by have := hbw.size; omega) (fun b hb hm => by (have h1 := (hss5.lt hm hb).1; have h2 := (hss5.lt hm hb).2; have h3 : wk.drew.heap.size = wk.heap.size := rfl; exact ⟨(fun h => nomatch h), Or.inl (by omega), by omega, h2⟩)) (by rfl) (.tmp 12) (.tmp 19) (by rfl) (by rfl) (by rfl) (by exact heap_new rfl) (by omega) (by (have h1 := hbw.size; simp; omega)) ?_; intro v7 w7 how7 hg7 hat7; have hk7 := HKP.out hbw hg7))
      have HB5a := HB2.out.trans (hbw.mono hsw)
      have HB7 := Lib.hid ((HB5a.alloc HB5a.size (.cells #[.string (nth cs k).name, .int .i64 (nth cs k).st, .slice A5 n' c5] 53)).grown hg7 (by have := HB5a.size; simp; omega) (fun b hb => (KRow.lt HROW.out.row hb).1))
      have hs7 : w5.heap.size ≤ w7.heap.size := by have := hg7.size; simp at this; omega
      have HK7 := Lib.hid (how7.wide (Nat.le_refl _) hs7)
      clear how7 hg7 hat7 hk7 hss5 hb5 hbw HB5a
      go_wp2_with fail
      go_roundw
      case rel => exact ⟨k + 1, by omega, by go_num, by rw [HT.out]; exact HK7.out, HB7.out⟩
      case measure => simp [intOf]; omega
    · obtain rfl : k = m := by omega
      have hkm : cs.take k = cs := by rw [← HL.out]; exact List.take_length
      go_wp2_with fail
      go_ret
      rw [hkm] at HROW
      exact ⟨_, rfl, HROW.out, HBO.out⟩

theorem l32At_any (A : Option Addr) (n c : Nat) (cs : List Case) (s : Str) (lo : Nat) (w : World) (hr : RCase w lo A n cs) (hn : n ≤ 1048576) :
    Calls Try.prog 97 #[.slice A n c, .string s] w fun e w' => e = .returned (.int .i64 (idxI (caseNames cs) s)) ∧ w = w' := by
  have HR := Lib.hid hr; clear hr
  have HL := Lib.hid HR.out.1
  go_enter Try.func97, Try.ntmps97
  go_wp2
  go_loop [5] (fun i => ∃ k : Nat, k ≤ n ∧ i = .int .i64 k ∧ ∀ j, j < k → nth (caseNames cs) j ≠ s) (fun i => n - (intOf i).toNat)
  case atStart => exact ⟨0, Nat.zero_le _, rfl, fa_zero⟩
  case round =>
    obtain ⟨k, hk, rfl, hp⟩ := hrel
    have HP := Lib.hid hp; clear hp
    by_cases hlt : k < n
    · obtain ⟨b, off, rfl, _, hc⟩ := RCase.at_ HR.out hlt
      obtain ⟨_, _, _, ⟨c1, _⟩, _⟩ := hc k hlt
      clear hc
      rw [← caseNames_at (by rw [HL.out]; exact hlt)] at c1
      by_cases he : nth (caseNames cs) k = s
      · have HE := Lib.hid he; clear he
        have hq := seq_t HE.out
        go_wp2
        go_ret
        exact ⟨ret_i (idxI_at HP.out (by rw [caseNames_len, HL.out]; exact hlt) HE.out).symm, rfl⟩
      · have HE := Lib.hid he; clear he
        have hq := seq_f HE.out
        go_wp2
        go_round
        case rel => exact ⟨k + 1, by omega, by go_num, fa_succ HP.out HE.out⟩
        case measure => simp [intOf]; omega
    · go_wp2
      go_ret
      exact ⟨ret_i (idxI_none (fun j hj => HP.out j (by rw [caseNames_len, HL.out] at hj; omega))).symm, rfl⟩

theorem caseAt1_any (A : Option Addr) (n c bx : Nat) (nm x : Str) (st : Int) (w : World) (hb : w.cell? ⟨bx, 0, none⟩ = some (.string x)) :
    Calls Try.prog 125 #[.agg #[.string nm, .int .i64 st, .slice A n c], .pointer (some ⟨bx, 0, none⟩)] w fun e w' => e = .returned (.bool (decide (nm = x))) ∧ Below w.heap.size w w' := by
  have hb2 := fun o => (World.cell?_alloc_some w _ o (by rw [hb]; rfl)).trans hb
  have hq : (nm.toList == x.toList) = decide (nm = x) := by
    by_cases h : nm = x
    · rw [seq_t h]; simp [h]
    · rw [seq_f h]; simp [h]
  go_enter Try.func125, Try.ntmps125
  go_wp2_with fail
  go_ret
  exact ⟨rfl, (Below.refl _ _).alloc (Nat.le_refl _) _⟩

set_option maxRecDepth 100000 in
theorem indexCase_any (A : Option Addr) (n c bx : Nat) (cs : List Case) (x : Str) (lo : Nat) (w : World) (hr : RCase w lo A n cs) (hn : n ≤ 1048576) (hb : w.cell? ⟨bx, 0, none⟩ = some (.string x)) (hbl : bx < w.heap.size) :
    Calls Try.prog 124 #[.slice A n c, .func (.func 125) #[] #[.pointer (some ⟨bx, 0, none⟩)]] w fun e w' => e = .returned (.int .i64 (idxI (caseNames cs) x)) ∧ Below w.heap.size w w' := by
  have HR := Lib.hid hr; clear hr
  go_enter Try.func124, Try.ntmps124
  go_wp2_with fail
  go_loopw [8] (fun i wr => ∃ k : Nat, k ≤ n ∧ i = .int .i64 k ∧ Below w.heap.size w wr ∧ ∀ j, j < k → (nth cs j).name ≠ x) (fun i _ => n - (intOf i).toNat)
  case atStart => exact ⟨0, Nat.zero_le _, rfl, Below.refl _ _, fa_zero⟩
  case round =>
    obtain ⟨k, hk, rfl, hbw, hp⟩ := hrel
    have HP := Lib.hid hp; clear hp
    have HBW := Lib.hid hbw; clear hbw
    by_cases hlt : k < n
    · obtain ⟨b, off, rfl, _, hc⟩ := RCase.at_ (HR.out.below HBW.out) hlt
      obtain ⟨A', n', c', ⟨c1, c2, c3⟩, _⟩ := hc k hlt
      clear hc
      have hbx := (HBW.out.cell (p := ⟨bx, 0, none⟩) hbl).trans hb
      by_cases he : (nth cs k).name = x
      · have HE := Lib.hid he; clear he
        go_wp2_with (go_at_call 125; refine (caseAt1_any _ _ _ bx _ x _ _ hbx).mono ?_; rintro e w' ⟨rfl, hb'⟩; rw [decide_eq_true HE.out])
        go_ret
        exact ⟨ret_i (idxI_at (fun j hj => by rw [caseNames_at (by rw [HR.out.1]; omega)]; exact HP.out j hj) (by rw [caseNames_len, HR.out.1]; exact hlt) (by rw [caseNames_at (by rw [HR.out.1]; exact hlt)]; exact HE.out)).symm, HBW.out.trans (hb'.mono HBW.out.size)⟩
      · have HE := Lib.hid he; clear he
        go_wp2_with (go_at_call 125; refine (caseAt1_any _ _ _ bx _ x _ _ hbx).mono ?_; rintro e w' ⟨rfl, hb'⟩; rw [decide_eq_false HE.out])
        go_roundw
        case rel => exact ⟨k + 1, by omega, by go_num, HBW.out.trans (hb'.mono HBW.out.size), fa_succ HP.out HE.out⟩
        case measure => simp [intOf]; omega
    · go_wp2_with fail
      go_ret
      exact ⟨ret_i (idxI_none (fun j hj => by rw [caseNames_len, HR.out.1] at hj; rw [caseNames_at (by rw [HR.out.1]; exact hj)]; exact HP.out j (by omega))).symm, HBW.out⟩

set_option maxRecDepth 100000 in
theorem caseAt_any (A : Option Addr) (n c : Nat) (cs : List Case) (x : Str) (lo : Nat) (w : World) (hr : RCase w lo A n cs) (hn : n ≤ 1048576) :
    Calls Try.prog 95 #[.slice A n c, .string x] w fun e w' => e = .returned (.int .i64 (idxI (caseNames cs) x)) ∧ Below w.heap.size w w' := by
  have HR := Lib.hid (hr.alloc (.cells #[.string x] 9)); clear hr
  have HX := Lib.hid (heap_new (w := w) (o := .cells #[.string x] 9) rfl)
  have HB := Lib.hid ((Below.refl w.heap.size w).alloc (Nat.le_refl _) (.cells #[.string x] 9))
  go_enter Try.func95, Try.ntmps95
  go_wp2_with fail
  refine (indexCase_any _ _ _ _ cs x _ _ HR.out hn (blk_cl (k := 0) HX.out rfl).1 (heap_lt HX.out)).mono ?_
  rintro e w1 ⟨rfl, hb⟩
  go_wp2_with fail
  go_ret
  exact ⟨rfl, HB.out.trans (hb.mono HB.out.size)⟩
end Go.Proofs.Ythcpjkhijjkolaa

/- Pools: a case goes on by an event, both sides. -/
namespace Go.Proofs.Ythcpjkhijjkolaa
open Go.RowKit

def pAt (cs : List Case) (nm : Str) : Nat := (idxI (caseNames cs) nm).toNat
theorem pAt_ex {cs : List Case} {nm : Str} (h : hasB (caseNames cs) nm = true) : pAt cs nm < cs.length ∧ idxI (caseNames cs) nm = (pAt cs nm : Int) ∧ (nth cs (pAt cs nm)).name = nm := by
  obtain ⟨p, hp, e, he, _⟩ := idx_ex (hasB_true.1 h)
  have e2 : pAt cs nm = p := by unfold pAt; rw [e]; rfl
  rw [caseNames_len] at hp
  rw [e2]
  exact ⟨hp, e, by rw [← caseNames_at hp]; exact he⟩
/-- A case goes on by an event. -/
def peB (f : Flow) (cs : List Case) (nm : Str) (k : Int) (x : Str) : Bool := poolB f cs && (hasB (caseNames cs) nm && evB f (nth cs (pAt cs nm)).st (nth cs (pAt cs nm)).done k x)
def peL (f : Flow) (cs : List Case) (nm : Str) (k : Int) (x : Str) : List Case := if peB f cs nm k x = true then cs.set (pAt cs nm) ⟨(nth cs (pAt cs nm)).name, (evR f (nth cs (pAt cs nm)).st (nth cs (pAt cs nm)).done k x).1, (evR f (nth cs (pAt cs nm)).st (nth cs (pAt cs nm)).done k x).2⟩ else []
theorem peL_no {f : Flow} {cs : List Case} {nm x : Str} {k : Int} (h : peB f cs nm k x = false) : peL f cs nm k x = [] := by unfold peL; rw [if_neg (by rw [h]; simp)]

theorem DR.setRun {w : World} {L0 base m n c p : Nat} {A B : Option Addr} {cs : List Case} {xs : List Str} (h : DR w L0 A m cs) (hp : p < m) (hs : SStr w base B n xs) (hb : base ≤ L0) (hlt : ∀ b, B = some ⟨b, 0, none⟩ → 0 < n → b < L0) (hnc : n ≤ c) (z : Int) :
    ∃ b off u v, A = some ⟨b, off, none⟩ ∧ (L0 ≤ b ∧ b < w.heap.size) ∧ Cl w b (off + p * 3 + 1) u ∧ Cl w b (off + p * 3 + 2) v ∧
      DR ((w.setCell ⟨b, off + p * 3 + 1, none⟩ (.int .i64 z)).setCell ⟨b, off + p * 3 + 2, none⟩ (.slice B n c)) base A m (cs.set p ⟨(nth cs p).name, z, xs⟩) := by
  obtain ⟨b, off, β, γ, e, h1, h2, h3⟩ := h.2 (by omega)
  have hL := h.1
  obtain ⟨A', n', c', d1, d2, d3, _⟩ := h3.at_ p hp
  obtain ⟨β5, γ5, r1, r2, r3⟩ : ∃ β5 γ5 : Nat, RH strE w β5 γ5 B n xs ∧ (γ5 = 0 ∨ (γ5 = β5 + 1 ∧ base ≤ β5 ∧ β5 < L0)) ∧ γ5 ≤ w.heap.size := by
    rcases Nat.eq_zero_or_pos n with h0 | h0
    · subst h0
      exact ⟨0, 0, ⟨hs.1, fun h => absurd h (by omega)⟩, .inl rfl, Nat.zero_le _⟩
    · obtain ⟨b', cs', e3, h6, h7, h8⟩ := hs.2 h0
      refine ⟨b', b' + 1, ⟨hs.1, fun _ => ?_⟩, .inr ⟨rfl, h6, hlt b' e3 h0⟩, heap_lt h7⟩
      refine ⟨b', 0, e3, Nat.le_refl _, by omega, fun j hj => ?_⟩
      have := blk_cl h7 (h8 j hj)
      simpa [strE] using this
  have hkeep : ∀ i, i ≠ b → ((w.setCell ⟨b, off + p * 3 + 1, none⟩ (.int .i64 z)).setCell ⟨b, off + p * 3 + 2, none⟩ (.slice B n c)).heap[i]? = w.heap[i]? := fun i hi =>
    (Below.heap_setCell _ _ _ i (by intro e; exact hi e)).trans (Below.heap_setCell _ _ _ i (by intro e; exact hi e))
  refine ⟨b, off, _, _, e, ⟨h1, h3.lt⟩, d2, d3, by rw [List.length_set]; exact hL, fun _ => ⟨b, off, fun j => if j = p then β5 else β j, fun j => if j = p then γ5 else γ j, e, by omega, fun j hj => ?_, ?_⟩⟩
  · by_cases hj' : j = p
    · subst hj'
      simp only [if_true]
      rcases r2 with r2 | ⟨r2, r4, _⟩
      · exact .inr (by omega)
      · exact .inl r4
    · simp only [hj', if_false]
      rcases h2 j hj with h4 | h4
      · exact .inl (by omega)
      · exact .inr h4
  · refine ⟨by simpa using h3.lt, fun j hj => ?_, fun j hj => ?_, fun j hj => ?_, fun i j hi hj hij => ?_⟩
    · by_cases hj' : j = p
      · simp only [hj', if_true]; simpa using r3
      · simp only [hj', if_false]; simpa using h3.hi j hj
    · rw [nth_set (by omega)]
      by_cases hj' : j = p
      · subst hj'
        simp only [if_true]
        refine ⟨B, n, c, ?_, ?_, ?_, r1.same ⟨fun i g1 g2 => hkeep i ?_⟩, hnc⟩
        · exact (d1.set_other (.inr (by omega))).set_other (.inr (by omega))
        · exact d2.set_same.set_other (.inr (by omega))
        · exact (d3.set_other (.inr (by omega))).set_same
        · rcases r2 with r2 | ⟨r2, _, _⟩ <;> omega
      · simp only [hj', if_false]
        obtain ⟨A1, n1, c1, g1, g2, g3, g4, g5⟩ := h3.at_ j hj
        refine ⟨A1, n1, c1, ?_, ?_, ?_, g4.same ⟨fun i q1 q2 => hkeep i ?_⟩, g5⟩
        · exact (g1.set_other (.inr (by omega))).set_other (.inr (by omega))
        · exact (g2.set_other (.inr (by omega))).set_other (.inr (by omega))
        · exact (g3.set_other (.inr (by omega))).set_other (.inr (by omega))
        · rcases h3.ne j hj with q | q <;> omega
    · by_cases hj' : j = p
      · simp only [hj', if_true]
        rcases r2 with r2 | ⟨r2, _, _⟩
        · right; omega
        · right; omega
      · simp only [hj', if_false]; exact h3.ne j hj
    · by_cases hi' : i = p
      · have hj' : j ≠ p := fun e => hij (by omega)
        simp only [hi', hj', if_true, if_false]
        rcases h2 j hj with h4 | h4
        · rcases r2 with r2 | ⟨r2, _, _⟩ <;> left <;> omega
        · rcases r2 with r2 | ⟨r2, _, _⟩
          · left; omega
          · rcases Nat.lt_or_ge β5 (γ j) with q | q
            · left; omega
            · right; omega
      · by_cases hj' : j = p
        · simp only [hi', hj', if_true, if_false]
          rcases h2 i hi with h4 | h4
          · rcases r2 with r2 | ⟨r2, _, _⟩ <;> right <;> omega
          · rcases r2 with r2 | ⟨r2, _, _⟩
            · right; omega
            · rcases Nat.lt_or_ge β5 (γ i) with q | q
              · right; omega
              · left; omega
        · simp only [hi', hj', if_false]; exact h3.dis i j hi hj hij

set_option maxRecDepth 100000 in
set_option maxHeartbeats 8000000 in
theorem poolEvI_any (A B : Option Addr) (n c m d : Nat) (f : Flow) (cs : List Case) (nm : Str) (k : Int) (x : Str) (lo lo' : Nat) (w : World) (hr : RStep w lo A n f.steps) (hok : okSteps f.steps) (hd : RCase w lo' B m cs) (hcs : okCases cs) :
    Calls Try.prog 47 #[.agg #[.int .i64 f.ver, .slice A n c], .slice B m d, .string nm, .agg #[.int .i64 k, .string x]] w fun e w' => ∃ B' m' d', e = .returned (.tuple #[.slice B' m' d', .bool (peB f cs nm k x)]) ∧
      DR w' w.heap.size B' m' (peL f cs nm k x) ∧ m' ≤ d' ∧ Below w.heap.size w w' := by
  have HL := Lib.hid hd.1
  have hm : m ≤ 1048576 := by have := hcs.1; rw [hd.1] at this; exact this
  have HC := Lib.hid hcs; clear hcs
  have HX0 := Lib.hid (heap_old (o := .cells #[.int .i64 k, .string x] 73) (heap_new (w := w) (o := .cells #[.int .i64 f.ver, .slice A n c] 33) rfl))
  have HV0 := Lib.hid (heap_new (w := w.alloc (.cells #[.int .i64 f.ver, .slice A n c] 33)) (b := w.heap.size + 1) (o := .cells #[.int .i64 k, .string x] 73) (by simp))
  have HB0 := Lib.hid (((Below.refl w.heap.size w).alloc (Nat.le_refl _) (.cells #[.int .i64 f.ver, .slice A n c] 33)).alloc (by simp) (.cells #[.int .i64 k, .string x] 73))
  have HR0 := Lib.hid ((hr.alloc (.cells #[.int .i64 f.ver, .slice A n c] 33)).alloc (.cells #[.int .i64 k, .string x] 73)); clear hr
  have HD0 := Lib.hid ((hd.alloc (.cells #[.int .i64 f.ver, .slice A n c] 33)).alloc (.cells #[.int .i64 k, .string x] 73)); clear hd
  go_enter Try.func47, Try.ntmps47
  go_wp2_with fail
  refine (caseAt_any _ _ _ cs nm _ _ HD0.out hm).mono ?_
  rintro e w3 ⟨rfl, hb3⟩
  have HX3 := Lib.hid ((hb3.block _ (heap_lt HX0.out)).trans HX0.out)
  have HV3 := Lib.hid ((hb3.block _ (heap_lt HV0.out)).trans HV0.out)
  have HB3 := Lib.hid (HB0.out.trans (hb3.mono HB0.out.size))
  have HR3 := Lib.hid (HR0.out.below hb3)
  have HD3 := Lib.hid (HD0.out.below hb3)
  clear hb3 HX0 HV0 HB0 HR0 HD0
  have x0 := (blk_cl (k := 0) HX3.out rfl).1
  have x1 := (blk_cl (k := 1) HX3.out rfl).1
  go_wp2_with fail
  refine (poolI_any _ _ _ _ _ _ f cs _ _ _ HR3.out hok HD3.out HC.out).mono ?_
  rintro e w4 ⟨rfl, hb4⟩
  have HX4 := Lib.hid ((hb4.block _ (heap_lt HX3.out)).trans HX3.out)
  have HV4 := Lib.hid ((hb4.block _ (heap_lt HV3.out)).trans HV3.out)
  have HB4 := Lib.hid (HB3.out.trans (hb4.mono HB3.out.size))
  have HR4 := Lib.hid (HR3.out.below hb4)
  have HD4 := Lib.hid (HD3.out.below hb4)
  clear hb4 x0 x1 HX3 HV3 HB3 HR3 HD3
  cases hp : poolB f cs
  · have HPE := Lib.hid (show peB f cs nm k x = false by unfold peB; rw [hp]; rfl)
    have HPL := Lib.hid (peL_no HPE.out)
    clear hp
    generalize idxI (caseNames cs) nm = z9 at *
    go_wp2_with fail
    exact bodyPost_ret (v := .tuple #[.slice none 0 0, .bool false]) (by simp [results, Try.results47, go_sem]) rfl ⟨none, 0, 0, by rw [HPE.out], by rw [HPL.out]; exact DR.nil, Nat.le_refl _, HB4.out⟩
  cases hh : hasB (caseNames cs) nm
  · have HPE := Lib.hid (show peB f cs nm k x = false by unfold peB; rw [hh]; simp)
    have HPL := Lib.hid (peL_no HPE.out)
    have hz := idx_neg hh
    clear hp hh
    generalize idxI (caseNames cs) nm = z9 at *
    go_wp2_with fail
    exact bodyPost_ret (v := .tuple #[.slice none 0 0, .bool false]) (by simp [results, Try.results47, go_sem]) rfl ⟨none, 0, 0, by rw [HPE.out], by rw [HPL.out]; exact DR.nil, Nat.le_refl _, HB4.out⟩
  obtain ⟨hpl, hidx, _⟩ := pAt_ex hh
  have HPB := Lib.hid (show peB f cs nm k x = evB f (nth cs (pAt cs nm)).st (nth cs (pAt cs nm)).done k x by unfold peB; rw [hp, hh]; rfl)
  have HPL := Lib.hid (show peL f cs nm k x = if peB f cs nm k x = true then cs.set (pAt cs nm) ⟨(nth cs (pAt cs nm)).name, (evR f (nth cs (pAt cs nm)).st (nth cs (pAt cs nm)).done k x).1, (evR f (nth cs (pAt cs nm)).st (nth cs (pAt cs nm)).done k x).2⟩ else [] from rfl)
  rw [hidx]
  clear hp hh hidx
  generalize pAt cs nm = p at *
  have hpm : p < m := by rw [← HL.out]; exact hpl
  have hp0 : (0 : Int) ≤ (p : Int) := by omega
  have hp1 : (p : Int) < (m : Int) := by omega
  have hp2 : ¬ ((p : Int) < 0) := by omega
  obtain ⟨b, off, hB, ⟨_, hbl⟩, hcc⟩ := RCase.at_ HD4.out hpm
  obtain ⟨A', n', c', ⟨_, y2, y3⟩, hdr, hnc, _⟩ := hcc p hpm
  clear hcc
  subst hB
  have hn' : n' ≤ 1048576 := by rw [← hdr.1]; exact (HC.out.2 p hpl).2
  have HDS := Lib.hid hdr; clear hdr
  have HNM := Lib.hid (show (nth cs p).name = (nth cs p).name from rfl)
  generalize (nth cs p).st = s0 at *
  generalize (nth cs p).done = ds at *
  have HY2 := Lib.hid y2; clear y2
  have HY3 := Lib.hid y3; clear y3
  have HSB : Hid (∀ w', Below w4.heap.size w4 w' → ((w'.cell? ⟨w.heap.size, 0, none⟩ = some (.int .i64 f.ver) ∧ w'.cell? ⟨w.heap.size, 1, none⟩ = some (.slice A n c)) ∧ (w'.cell? ⟨w.heap.size + 1, 0, none⟩ = some (.int .i64 k) ∧ w'.cell? ⟨w.heap.size + 1, 1, none⟩ = some (.string x)) ∧ (w'.cell? ⟨b, off + p * 3 + 1, none⟩ = some (.int .i64 s0) ∧ w'.cell? ⟨b, off + p * 3 + 2, none⟩ = some (.slice A' n' c'))) ∧ Below w4.heap.size w4 w') := fun w' h => by
    have e1 := (h.block _ (heap_lt HX4.out)).trans HX4.out
    have e2 := (h.block _ (heap_lt HV4.out)).trans HV4.out
    exact ⟨⟨⟨(blk_cl (k := 0) e1 rfl).1, (blk_cl (k := 1) e1 rfl).1⟩, ⟨(blk_cl (k := 0) e2 rfl).1, (blk_cl (k := 1) e2 rfl).1⟩, ⟨(h.cell (p := ⟨b, off + p * 3 + 1, none⟩) hbl).trans HY2.out, (h.cell (p := ⟨b, off + p * 3 + 2, none⟩) hbl).trans HY3.out⟩⟩, h⟩
  have hs4 := HB4.out.size
  go_wp2_with fail
  go_region_held3 (fun w' => ((w'.cell? ⟨w.heap.size, 0, none⟩ = some (.int .i64 f.ver) ∧ w'.cell? ⟨w.heap.size, 1, none⟩ = some (.slice A n c)) ∧ (w'.cell? ⟨w.heap.size + 1, 0, none⟩ = some (.int .i64 k) ∧ w'.cell? ⟨w.heap.size + 1, 1, none⟩ = some (.string x)) ∧ (w'.cell? ⟨b, off + p * 3 + 1, none⟩ = some (.int .i64 s0) ∧ w'.cell? ⟨b, off + p * 3 + 2, none⟩ = some (.slice A' n' c'))) ∧ Below w4.heap.size w4 w')
    ((refine HSB.out _ ?_; (repeat (first | with_reducible exact hbw | with_reducible exact Below.refl _ _ | apply Below.drew | apply Below.al_ | refine Below.setCell ?_ (by first | exact Nat.le_refl _ | exact hbw.size) _ | fail "x")); done))
    (first | (go_at_call 52; refine (evI_any _ _ _ _ _ _ f s0 ds k x _ _ _ (HR4.out.below (by repeat (first | with_reducible exact Below.refl _ _ | apply Below.drew | apply Below.al_))) hok (HDS.out.below (by repeat (first | with_reducible exact Below.refl _ _ | apply Below.drew | apply Below.al_))) hn' hnc).mono ?_; rintro e w5 ⟨B5, n5, d5, rfl, ho5, hb5⟩; have hz5 := (hb5.block w4.heap.size (by simp)).trans (heap_new (w := w4) (b := w4.heap.size) (o := .cells #[.int .i64 0, .slice none 0 0] 35) rfl); have q0 := (blk_cl (k := 0) hz5 rfl).1; have q0' := (blk_cl (k := 0) hz5 rfl).2; have q1 := (blk_cl (k := 1) hz5 rfl).1; have q1' := (blk_cl (k := 1) hz5 rfl).2; have hbw : Below w4.heap.size w4 w5 := (Below.al_ (Below.refl w4.heap.size w4).drew _).trans (hb5.mono (by simp)); have hbs : w4.heap.size ≤ (w4.alloc (.cells #[.int .i64 0, .slice none 0 0] 35)).drew.heap.size := by simp) | (go_at_call 52; refine (evI_any _ _ _ _ _ _ f s0 ds k x _ _ _ (HR4.out.below (by repeat (first | with_reducible exact Below.refl _ _ | apply Below.drew | apply Below.al_))) hok (HDS.out.below (by repeat (first | with_reducible exact Below.refl _ _ | apply Below.drew | apply Below.al_))) hn' hnc).mono ?_; rintro e w5 ⟨B5, n5, d5, rfl, ho5, hb5⟩; have hbw : Below w4.heap.size w4 w5 := (Below.refl w4.heap.size w4).drew.trans hb5; have hbs : w4.heap.size ≤ w4.drew.heap.size := Nat.le_refl _) | fail "no arm")
  · have hbox := heap_new (w := w5) (o := .cells #[.int .i64 (evR f s0 ds k x).1, .slice B5 n5 d5] 35) rfl
    have hb6 : Below w4.heap.size w4 (w5.alloc (.cells #[.int .i64 (evR f s0 ds k x).1, .slice B5 n5 d5] 35)) := Below.al_ hbw _
    have hrow := row_mono (ho5.alloc (.cells #[.int .i64 (evR f s0 ds k x).1, .slice B5 n5 d5] 35)) (Nat.le_trans hs4 hbs)
    generalize w5.alloc (.cells #[.int .i64 (evR f s0 ds k x).1, .slice B5 n5 d5] 35) = w6 at *
    generalize w5.heap.size = pb at *
    clear hbw hbs
    have HBX := Lib.hid hbox; clear hbox
    have HB6 := Lib.hid hb6; clear hb6
    have hcap := own_capN hrow
    have HROW := Lib.hid hrow; clear hrow
    clear ho5 hb5 HSB
    generalize evR f s0 ds k x = v at *
    cases hev : evB f s0 ds k x
    · have HPE := Lib.hid (HPB.out.trans hev)
      have HPL2 := Lib.hid (HPL.out.trans (if_neg (by rw [HPE.out]; simp)))
      clear hev
      go_wp2_with fail
      exact bodyPost_ret (v := .tuple #[.slice none 0 0, .bool false]) (by simp [results, Try.results47, go_sem]) rfl ⟨none, 0, 0, by rw [HPE.out], by rw [HPL2.out]; exact DR.nil, Nat.le_refl _, HB4.out.trans (HB6.out.mono HB4.out.size)⟩
    · have HPE := Lib.hid (HPB.out.trans hev)
      have HPL2 := Lib.hid (HPL.out.trans (if_pos HPE.out))
      clear hev
      have HD6 := Lib.hid (HD4.out.below HB6.out)
      go_wp2_with fail
      refine (cloneCases_any _ _ _ cs _ _ HD6.out HC.out).mono ?_
      rintro e w7 ⟨v7, rfl, hk7, hb7⟩
      obtain ⟨A7, c7, rfl, hdr7, hmc7⟩ := hk7.dr
      obtain ⟨A8, c8, e8, hss⟩ := own_sstr HROW.out
      injection e8 with e8 _ e9
      subst e8; subst e9
      have hs6 := HB6.out.size
      obtain ⟨b7, off7, u7, v7', rfl, ⟨hb7lo, hb7hi⟩, d2, d3, hdr8⟩ := hdr7.setRun hpm (hss.below hb7) (Nat.le_trans hs4 hs6) (fun b hb hm => (hss.lt hm hb).2) hcap v.1
      have HDR8 := Lib.hid hdr8; clear hdr8 hdr7 hk7 hss
      have HBX7 := Lib.hid ((hb7.block _ (heap_lt HBX.out)).trans HBX.out)
      have HB7 := Lib.hid (HB4.out.trans ((HB6.out.trans (hb7.mono HB6.out.size)).mono HB4.out.size))
      have p0 := (blk_cl (k := 0) HBX7.out rfl).1
      have p1 := (blk_cl (k := 1) HBX7.out rfl).1
      obtain ⟨d2a, d2b⟩ := d2
      obtain ⟨d3a, d3b⟩ := d3
      clear hb7
      go_wp2_with fail
      exact bodyPost_ret (v := .tuple #[.slice (some ⟨b7, off7, none⟩) m c7, .bool true]) (by simp [results, Try.results47, go_sem]) rfl ⟨_, _, _, by rw [HPE.out], by rw [HPL2.out]; exact HDR8.out, hmc7, (HB7.out.setCell (p := ⟨b7, off7 + p * 3 + 1, none⟩) (by show w.heap.size ≤ b7; omega) _).setCell (p := ⟨b7, off7 + p * 3 + 2, none⟩) (by show w.heap.size ≤ b7; omega) _⟩
  · have hbox := set21 (u := .slice B5 n5 d5) (set20 (u := .int .i64 (evR f s0 ds k x).1) hz5)
    have hb6 : Below w4.heap.size w4 ((w5.setCell ⟨w4.heap.size, 0, none⟩ (.int .i64 (evR f s0 ds k x).1)).setCell ⟨w4.heap.size, 1, none⟩ (.slice B5 n5 d5)) := (hbw.setCell (p := ⟨w4.heap.size, 0, none⟩) (Nat.le_refl _) _).setCell (p := ⟨w4.heap.size, 1, none⟩) (Nat.le_refl _) _
    have hrow := row_mono (row_set (o := 1) (u := .slice B5 n5 d5) (row_set (o := 0) (u := .int .i64 (evR f s0 ds k x).1) ho5 hz5 (by decide)) (set20 hz5) (by decide)) (Nat.le_trans hs4 hbs)
    generalize (w5.setCell ⟨w4.heap.size, 0, none⟩ (.int .i64 (evR f s0 ds k x).1)).setCell ⟨w4.heap.size, 1, none⟩ (.slice B5 n5 d5) = w6 at *
    clear hbw hbs hz5 q0 q0' q1 q1'
    have HBX := Lib.hid hbox; clear hbox
    have HB6 := Lib.hid hb6; clear hb6
    have hcap := own_capN hrow
    have HROW := Lib.hid hrow; clear hrow
    clear ho5 hb5 HSB
    generalize evR f s0 ds k x = v at *
    cases hev : evB f s0 ds k x
    · have HPE := Lib.hid (HPB.out.trans hev)
      have HPL2 := Lib.hid (HPL.out.trans (if_neg (by rw [HPE.out]; simp)))
      clear hev
      go_wp2_with fail
      exact bodyPost_ret (v := .tuple #[.slice none 0 0, .bool false]) (by simp [results, Try.results47, go_sem]) rfl ⟨none, 0, 0, by rw [HPE.out], by rw [HPL2.out]; exact DR.nil, Nat.le_refl _, HB4.out.trans (HB6.out.mono HB4.out.size)⟩
    · have HPE := Lib.hid (HPB.out.trans hev)
      have HPL2 := Lib.hid (HPL.out.trans (if_pos HPE.out))
      clear hev
      have HD6 := Lib.hid (HD4.out.below HB6.out)
      go_wp2_with fail
      refine (cloneCases_any _ _ _ cs _ _ HD6.out HC.out).mono ?_
      rintro e w7 ⟨v7, rfl, hk7, hb7⟩
      obtain ⟨A7, c7, rfl, hdr7, hmc7⟩ := hk7.dr
      obtain ⟨A8, c8, e8, hss⟩ := own_sstr HROW.out
      injection e8 with e8 _ e9
      subst e8; subst e9
      have hs6 := HB6.out.size
      obtain ⟨b7, off7, u7, v7', rfl, ⟨hb7lo, hb7hi⟩, d2, d3, hdr8⟩ := hdr7.setRun hpm (hss.below hb7) (Nat.le_trans hs4 hs6) (fun b hb hm => (hss.lt hm hb).2) hcap v.1
      have HDR8 := Lib.hid hdr8; clear hdr8 hdr7 hk7 hss
      have HBX7 := Lib.hid ((hb7.block _ (heap_lt HBX.out)).trans HBX.out)
      have HB7 := Lib.hid (HB4.out.trans ((HB6.out.trans (hb7.mono HB6.out.size)).mono HB4.out.size))
      have p0 := (blk_cl (k := 0) HBX7.out rfl).1
      have p1 := (blk_cl (k := 1) HBX7.out rfl).1
      obtain ⟨d2a, d2b⟩ := d2
      obtain ⟨d3a, d3b⟩ := d3
      clear hb7
      go_wp2_with fail
      exact bodyPost_ret (v := .tuple #[.slice (some ⟨b7, off7, none⟩) m c7, .bool true]) (by simp [results, Try.results47, go_sem]) rfl ⟨_, _, _, by rw [HPE.out], by rw [HPL2.out]; exact HDR8.out, hmc7, (HB7.out.setCell (p := ⟨b7, off7 + p * 3 + 1, none⟩) (by show w.heap.size ≤ b7; omega) _).setCell (p := ⟨b7, off7 + p * 3 + 2, none⟩) (by show w.heap.size ≤ b7; omega) _⟩

end Go.Proofs.Ythcpjkhijjkolaa

/- Pools: a case goes on by an event, the reference's side. -/
namespace Go.Proofs.Ythcpjkhijjkolaa
open Go.RowKit

set_option maxRecDepth 100000 in
set_option maxHeartbeats 8000000 in
theorem poolEvS_any (A B : Option Addr) (n c m d : Nat) (f : Flow) (cs : List Case) (nm : Str) (k : Int) (x : Str) (lo lo' : Nat) (w : World) (hr : RStep w lo A n f.steps) (hok : okSteps f.steps) (hd : RCase w lo' B m cs) (hcs : okCases cs) :
    Calls Try.prog 48 #[.agg #[.int .i64 f.ver, .slice A n c], .slice B m d, .string nm, .agg #[.int .i64 k, .string x]] w fun e w' => ∃ B' m' d', e = .returned (.tuple #[.slice B' m' d', .bool (peB f cs nm k x)]) ∧
      DR w' w.heap.size B' m' (peL f cs nm k x) ∧ m' ≤ d' ∧ Below w.heap.size w w' := by
  have HL := Lib.hid hd.1
  have hm : m ≤ 1048576 := by have := hcs.1; rw [hd.1] at this; exact this
  have HC := Lib.hid hcs; clear hcs
  have HX0 := Lib.hid (heap_old (o := .cells #[.int .i64 k, .string x] 73) (heap_new (w := w) (o := .cells #[.int .i64 f.ver, .slice A n c] 33) rfl))
  have HV0 := Lib.hid (heap_new (w := w.alloc (.cells #[.int .i64 f.ver, .slice A n c] 33)) (b := w.heap.size + 1) (o := .cells #[.int .i64 k, .string x] 73) (by simp))
  have HB0 := Lib.hid (((Below.refl w.heap.size w).alloc (Nat.le_refl _) (.cells #[.int .i64 f.ver, .slice A n c] 33)).alloc (by simp) (.cells #[.int .i64 k, .string x] 73))
  have HR0 := Lib.hid ((hr.alloc (.cells #[.int .i64 f.ver, .slice A n c] 33)).alloc (.cells #[.int .i64 k, .string x] 73)); clear hr
  have HD0 := Lib.hid ((hd.alloc (.cells #[.int .i64 f.ver, .slice A n c] 33)).alloc (.cells #[.int .i64 k, .string x] 73)); clear hd
  go_enter Try.func48, Try.ntmps48
  go_wp2_with fail
  refine (l32At_any _ _ _ cs nm _ _ HD0.out hm).mono ?_
  rintro e w3 ⟨rfl, hw3⟩
  have hb3 : Below ((w.alloc (.cells #[.int .i64 f.ver, .slice A n c] 33)).alloc (.cells #[.int .i64 k, .string x] 73)).heap.size ((w.alloc (.cells #[.int .i64 f.ver, .slice A n c] 33)).alloc (.cells #[.int .i64 k, .string x] 73)) w3 := by rw [← hw3]; exact Below.refl _ _
  clear hw3
  have HX3 := Lib.hid ((hb3.block _ (heap_lt HX0.out)).trans HX0.out)
  have HV3 := Lib.hid ((hb3.block _ (heap_lt HV0.out)).trans HV0.out)
  have HB3 := Lib.hid (HB0.out.trans (hb3.mono HB0.out.size))
  have HR3 := Lib.hid (HR0.out.below hb3)
  have HD3 := Lib.hid (HD0.out.below hb3)
  clear hb3 HX0 HV0 HB0 HR0 HD0
  have x0 := (blk_cl (k := 0) HX3.out rfl).1
  have x1 := (blk_cl (k := 1) HX3.out rfl).1
  go_wp2_with fail
  refine (poolS_any _ _ _ _ _ _ f cs _ _ _ HR3.out hok HD3.out HC.out).mono ?_
  rintro e w4 ⟨rfl, hb4⟩
  have HX4 := Lib.hid ((hb4.block _ (heap_lt HX3.out)).trans HX3.out)
  have HV4 := Lib.hid ((hb4.block _ (heap_lt HV3.out)).trans HV3.out)
  have HB4 := Lib.hid (HB3.out.trans (hb4.mono HB3.out.size))
  have HR4 := Lib.hid (HR3.out.below hb4)
  have HD4 := Lib.hid (HD3.out.below hb4)
  clear hb4 x0 x1 HX3 HV3 HB3 HR3 HD3
  cases hp : poolB f cs
  · have HPE := Lib.hid (show peB f cs nm k x = false by unfold peB; rw [hp]; rfl)
    have HPL := Lib.hid (peL_no HPE.out)
    clear hp
    generalize idxI (caseNames cs) nm = z9 at *
    go_wp2_with fail
    exact bodyPost_ret (v := .tuple #[.slice (some ⟨w4.heap.size, 0, none⟩) 0 0, .bool false]) (by simp [results, Try.results48, go_sem]) rfl ⟨_, 0, 0, by rw [HPE.out], by rw [HPL.out]; exact DR.nil, Nat.le_refl _, HB4.out.alloc HB4.out.size _⟩
  cases hh : hasB (caseNames cs) nm
  · have HPE := Lib.hid (show peB f cs nm k x = false by unfold peB; rw [hh]; simp)
    have HPL := Lib.hid (peL_no HPE.out)
    have hz := idx_neg hh
    clear hp hh
    generalize idxI (caseNames cs) nm = z9 at *
    go_wp2_with fail
    exact bodyPost_ret (v := .tuple #[.slice (some ⟨w4.heap.size, 0, none⟩) 0 0, .bool false]) (by simp [results, Try.results48, go_sem]) rfl ⟨_, 0, 0, by rw [HPE.out], by rw [HPL.out]; exact DR.nil, Nat.le_refl _, HB4.out.alloc HB4.out.size _⟩
  obtain ⟨hpl, hidx, -⟩ := pAt_ex hh
  have HPB := Lib.hid (show peB f cs nm k x = evB f (nth cs (pAt cs nm)).st (nth cs (pAt cs nm)).done k x by unfold peB; rw [hp, hh]; rfl)
  have HPL := Lib.hid (show peL f cs nm k x = if peB f cs nm k x = true then cs.set (pAt cs nm) ⟨(nth cs (pAt cs nm)).name, (evR f (nth cs (pAt cs nm)).st (nth cs (pAt cs nm)).done k x).1, (evR f (nth cs (pAt cs nm)).st (nth cs (pAt cs nm)).done k x).2⟩ else [] from rfl)
  rw [hidx]
  clear hp hh hidx
  generalize pAt cs nm = p at *
  have hpm : p < m := by rw [← HL.out]; exact hpl
  have hp0 : (0 : Int) ≤ (p : Int) := by omega
  have hp1 : (p : Int) < (m : Int) := by omega
  have hp2 : ¬ ((p : Int) < 0) := by omega
  obtain ⟨b, off, hB, ⟨_, hbl⟩, hcc⟩ := RCase.at_ HD4.out hpm
  obtain ⟨A', n', c', ⟨_, y2, y3⟩, hdr, hnc, _⟩ := hcc p hpm
  clear hcc
  subst hB
  have hn' : n' ≤ 1048576 := by rw [← hdr.1]; exact (HC.out.2 p hpl).2
  have HDS := Lib.hid hdr; clear hdr

  generalize (nth cs p).st = s0 at *
  generalize (nth cs p).done = ds at *
  have HY2 := Lib.hid y2; clear y2
  have HY3 := Lib.hid y3; clear y3
  have HSB : Hid (∀ w', Below w4.heap.size w4 w' → ((w'.cell? ⟨w.heap.size, 0, none⟩ = some (.int .i64 f.ver) ∧ w'.cell? ⟨w.heap.size, 1, none⟩ = some (.slice A n c)) ∧ (w'.cell? ⟨w.heap.size + 1, 0, none⟩ = some (.int .i64 k) ∧ w'.cell? ⟨w.heap.size + 1, 1, none⟩ = some (.string x)) ∧ (w'.cell? ⟨b, off + p * 3 + 1, none⟩ = some (.int .i64 s0) ∧ w'.cell? ⟨b, off + p * 3 + 2, none⟩ = some (.slice A' n' c'))) ∧ Below w4.heap.size w4 w') := fun w' h => by
    have e1 := (h.block _ (heap_lt HX4.out)).trans HX4.out
    have e2 := (h.block _ (heap_lt HV4.out)).trans HV4.out
    exact ⟨⟨⟨(blk_cl (k := 0) e1 rfl).1, (blk_cl (k := 1) e1 rfl).1⟩, ⟨(blk_cl (k := 0) e2 rfl).1, (blk_cl (k := 1) e2 rfl).1⟩, ⟨(h.cell (p := ⟨b, off + p * 3 + 1, none⟩) hbl).trans HY2.out, (h.cell (p := ⟨b, off + p * 3 + 2, none⟩) hbl).trans HY3.out⟩⟩, h⟩
  have hs4 := HB4.out.size
  go_wp2_with fail
  go_region_held3 (fun w' => ((w'.cell? ⟨w.heap.size, 0, none⟩ = some (.int .i64 f.ver) ∧ w'.cell? ⟨w.heap.size, 1, none⟩ = some (.slice A n c)) ∧ (w'.cell? ⟨w.heap.size + 1, 0, none⟩ = some (.int .i64 k) ∧ w'.cell? ⟨w.heap.size + 1, 1, none⟩ = some (.string x)) ∧ (w'.cell? ⟨b, off + p * 3 + 1, none⟩ = some (.int .i64 s0) ∧ w'.cell? ⟨b, off + p * 3 + 2, none⟩ = some (.slice A' n' c'))) ∧ Below w4.heap.size w4 w')
    ((refine HSB.out _ ?_; (repeat (first | with_reducible exact hbw | with_reducible exact Below.refl _ _ | apply Below.drew | apply Below.al_ | refine Below.setCell ?_ (by first | exact Nat.le_refl _ | exact hbw.size) _ | fail "x")); done))
    (first | (go_at_call 98; refine (evS_any _ _ _ _ _ _ f s0 ds k x _ _ _ (HR4.out.below (by repeat (first | with_reducible exact Below.refl _ _ | apply Below.drew | apply Below.al_))) hok (HDS.out.below (by repeat (first | with_reducible exact Below.refl _ _ | apply Below.drew | apply Below.al_))) hn' hnc).mono ?_; rintro e w5 ⟨B5, n5, d5, rfl, ho5, hb5⟩; have hz5 := (hb5.block w4.heap.size (by simp)).trans (heap_new (w := w4) (b := w4.heap.size) (o := .cells #[.int .i64 0, .slice none 0 0] 35) rfl); have q0 := (blk_cl (k := 0) hz5 rfl).1; have q0' := (blk_cl (k := 0) hz5 rfl).2; have q1 := (blk_cl (k := 1) hz5 rfl).1; have q1' := (blk_cl (k := 1) hz5 rfl).2; have hbw : Below w4.heap.size w4 w5 := (Below.al_ (Below.refl w4.heap.size w4).drew _).trans (hb5.mono (by simp)); have hbs : w4.heap.size ≤ (w4.alloc (.cells #[.int .i64 0, .slice none 0 0] 35)).drew.heap.size := by simp) | (go_at_call 98; refine (evS_any _ _ _ _ _ _ f s0 ds k x _ _ _ (HR4.out.below (by repeat (first | with_reducible exact Below.refl _ _ | apply Below.drew | apply Below.al_))) hok (HDS.out.below (by repeat (first | with_reducible exact Below.refl _ _ | apply Below.drew | apply Below.al_))) hn' hnc).mono ?_; rintro e w5 ⟨B5, n5, d5, rfl, ho5, hb5⟩; have hbw : Below w4.heap.size w4 w5 := (Below.refl w4.heap.size w4).drew.trans hb5; have hbs : w4.heap.size ≤ w4.drew.heap.size := Nat.le_refl _) | fail "no arm")
  · have hbox := heap_new (w := w5) (o := .cells #[.int .i64 (evR f s0 ds k x).1, .slice B5 n5 d5] 35) rfl
    have hb6 : Below w4.heap.size w4 (w5.alloc (.cells #[.int .i64 (evR f s0 ds k x).1, .slice B5 n5 d5] 35)) := Below.al_ hbw _
    have hrow := row_mono (ho5.alloc (.cells #[.int .i64 (evR f s0 ds k x).1, .slice B5 n5 d5] 35)) (Nat.le_trans hs4 hbs)
    generalize w5.alloc (.cells #[.int .i64 (evR f s0 ds k x).1, .slice B5 n5 d5] 35) = w6 at *
    generalize w5.heap.size = pb at *
    clear hbw hbs
    have HBX := Lib.hid hbox; clear hbox
    have HB6 := Lib.hid hb6; clear hb6
    have hcap := own_capN hrow
    have HROW := Lib.hid hrow; clear hrow
    clear ho5 hb5 HSB
    generalize evR f s0 ds k x = v at *
    cases hev : evB f s0 ds k x
    · have HPE := Lib.hid (HPB.out.trans hev)
      have HPL2 := Lib.hid (HPL.out.trans (if_neg (by rw [HPE.out]; simp)))
      clear hev
      go_wp2_with fail
      exact bodyPost_ret (v := .tuple #[.slice (some ⟨w6.heap.size, 0, none⟩) 0 0, .bool false]) (by simp [results, Try.results48, go_sem]) rfl ⟨_, 0, 0, by rw [HPE.out], by rw [HPL2.out]; exact DR.nil, Nat.le_refl _, (HB4.out.trans (HB6.out.mono HB4.out.size)).alloc (Nat.le_trans hs4 HB6.out.size) _⟩
    · have HPE := Lib.hid (HPB.out.trans hev)
      have HPL2 := Lib.hid (HPL.out.trans (if_pos HPE.out))
      clear hev
      obtain ⟨A8, c8, e8, hss⟩ := own_sstr HROW.out
      injection e8 with e8 _ e9
      subst e8; subst e9
      have hs6 := HB6.out.size
      have HLT := Lib.hid (fun b (hb : B5 = some ⟨b, 0, none⟩) (hm : 0 < n5) => (hss.lt hm hb))
      have HSS := Lib.hid hss; clear hss
      have HD6 := Lib.hid (HD4.out.below HB6.out)
      have HB46 := Lib.hid (HB4.out.trans (HB6.out.mono HB4.out.size))
      have HK7 := Lib.hid (KRowD.made (w := w6) (base := w.heap.size) (b := w6.heap.size) (av := none) (lo1 := w6.heap.size) (hi := (w6.alloc (.cells #[] 53)).heap.size) (by omega) rfl)
      have hGL : (cs.set p ⟨(nth cs p).name, v.1, v.2⟩).length = m := by rw [List.length_set, HL.out]
      have HG := Lib.hid (fun i => nth_set (xs := cs) (j := p) (k := i) (y := ⟨(nth cs p).name, v.1, v.2⟩) (by rw [HL.out]; exact hpm))
      generalize hG : cs.set p ⟨(nth cs p).name, v.1, v.2⟩ = G at *
      clear hG
      go_wp2_with fail
      go_loopw [13, 14] (fun o i wr => ∃ j : Nat, j ≤ m ∧ i = .int .i64 (j : Int) ∧ KRowD wr w.heap.size none (if j ≤ p then w6.heap.size else w.heap.size) wr.heap.size o j (G.take j) ∧ (∀ q, o.ownBlock = some q → w6.heap.size ≤ q) ∧ Below w6.heap.size w6 wr) (fun _ i _ => m - (intOf i).toNat)
      case atStart => exact ⟨0, Nat.zero_le _, rfl, by rw [if_pos (Nat.zero_le _)]; exact HK7.out, (fun q hq => by have : w6.heap.size = q := (by simpa [Value.ownBlock] using hq); omega), (Below.refl _ _).alloc (Nat.le_refl _) _⟩
      case round =>
        obtain ⟨j, hj, rfl, hkr, hob, hbw⟩ := hrel
        have HOB := Lib.hid hob; clear hob
        have HK := Lib.hid hkr; clear hkr
        have HBW := Lib.hid hbw; clear hbw
        have hsw := HBW.out.size
        obtain ⟨A1, c1, rfl, _⟩ := HK.out.row.hat
        by_cases hlt : j < m
        · obtain ⟨b9, off9, hB9, _, hc⟩ := RCase.at_ (HD6.out.below HBW.out) hlt
          obtain ⟨Aj, nj, cj, ⟨d1, d2, d3⟩, hdr, hncj, _⟩ := hc j hlt
          clear hc
          injection hB9 with hB9; injection hB9 with i1 i2
          subst i1; subst i2
          have hjl : j < cs.length := by rw [HL.out]; exact hlt
          have hnj : nj ≤ 1048576 := by rw [← hdr.1]; exact (HC.out.2 j hjl).2
          have HDJ := Lib.hid hdr; clear hdr
          have HT := Lib.hid (take_nth (xs := G) (k := j) (by rw [hGL]; exact hlt))
          have hGj := HG.out j
          go_wp2_with fail
          refine (l32Case_any _ _ _ (nth cs j) _ _ HDJ.out hnj).mono ?_
          rintro e w9 ⟨A9, c9, rfl, hss9, hc9, hb9⟩
          have HSS9 := Lib.hid hss9; clear hss9
          have hs9 := hb9.size
          have HB9 := Lib.hid (HBW.out.trans (hb9.mono hsw))
          have HK9 := Lib.hid (HK.out.below hb9)
          have HX9 := Lib.hid (heap_old (o := .cells #[.string (nth cs j).name, .int .i64 (nth cs j).st, .slice A9 nj c9] 53) ((HB9.out.block _ (heap_lt HBX.out)).trans HBX.out))
          have p0 := (blk_cl (k := 0) HX9.out rfl).1
          have p1 := (blk_cl (k := 1) HX9.out rfl).1
          clear hb9 d1 d2 d3
          by_cases hjp : j = p
          · subst hjp
            rw [if_pos rfl] at hGj
            rw [hGj] at HT
            rw [if_pos (Nat.le_refl _)] at HK9
            go_wp2_with (at_builtin; refine app_caseD w.heap.size w6.heap.size wr.heap.size w.heap.size w9.heap.size none (.slice A1 j c1) j (G.take j) (w9.heap.size + 1) ⟨(nth cs j).name, v.1, v.2⟩ B5 n5 d5 ?c0 ?c1 hcap ?l1 ?l2 ?c2 rfl (.tmp 59) (.tmp 61) rfl rfl rfl ?c3 (by omega) ?c4 ?_)
            case c0 => exact (HK9.out.alloc _).alloc _
            case c1 => exact (((HSS.out.below HB9.out)).alloc _).alloc _
            case l1 => omega
            case l2 => omega
            case c2 => exact fun b hb hm => by (have h1 := HLT.out b hb hm; exact ⟨(fun h => nomatch h), Or.inr (by omega), by omega, by omega⟩)
            case c3 => (first | exact heap_new rfl | (obtain ⟨_, h⟩ := Array.getElem?_eq_some_iff.1 (heap_new (w := w9.alloc (.cells #[.string (nth cs j).name, .int .i64 v.1, .slice B5 n5 d5] 53)) (b := w9.heap.size + 1) (o := .cells #[.string (nth cs j).name, .int .i64 v.1, .slice B5 n5 d5] 53) (by simp)); exact h) | exact heap_new (by simp))
            case c4 => (try simp); omega
            intro v10 w10 how10 hg10 hat10
            have hb10 := ((HB9.out.alloc HB9.out.size (.cells #[.string (nth cs j).name, .int .i64 v.1, .slice B5 n5 d5] 53)).alloc (by simp; omega) (.cells #[.string (nth cs j).name, .int .i64 v.1, .slice B5 n5 d5] 53)).grown hg10 (by simp; omega) (fun b hb => HOB.out b hb)
            have hs10 : w9.heap.size ≤ w10.heap.size := by have := hg10.size; (try rw [World.size_alloc, World.size_alloc] at this); (try simp at this); omega
            have HK10 := Lib.hid (how10.wide (lo2 := if j + 1 ≤ j then w6.heap.size else w.heap.size) (by rw [if_neg (by omega)]; exact Nat.le_refl _) hs10)
            have HB10 := Lib.hid hb10
            have HOB10 := Lib.hid (fun q (hq : v10.ownBlock = some q) => (by
              rcases hat10 with h | h
              · exact HOB.out q (h ▸ hq)
              · rw [h] at hq
                have := Option.some.inj hq
                (try simp at this)
                omega : w6.heap.size ≤ q))
            clear how10 hg10 hat10 hb10
            go_wp2_with fail
            go_roundw
            case rel => exact ⟨j + 1, by omega, by go_num, by rw [HT.out]; exact HK10.out, HOB10.out, HB10.out⟩
            case measure => simp [intOf]; omega
          · rw [if_neg hjp] at hGj
            rw [hGj] at HT
            have hq : ((j : Int) == (p : Int)) = false := by rw [beq_eq_false_iff_ne]; omega
            have hlo : (if j ≤ p then w6.heap.size else w.heap.size) ≤ w6.heap.size := by split <;> omega
            have hlo2 : (if j + 1 ≤ p then w6.heap.size else w.heap.size) ≤ (if j ≤ p then w6.heap.size else w.heap.size) := by
              by_cases h1 : j + 1 ≤ p
              · rw [if_pos h1, if_pos (by omega)]; exact Nat.le_refl _
              · rw [if_neg h1]; split <;> omega
            generalize (if j ≤ p then w6.heap.size else w.heap.size) = L9 at *
            go_wp2_with (at_builtin; refine app_caseD w.heap.size L9 wr.heap.size L9 w9.heap.size none (.slice A1 j c1) j (G.take j) (w9.heap.size + 1) (nth cs j) A9 nj c9 ?c0 ?c1 hc9 ?l1 ?l2 ?c2 rfl (.tmp 59) (.tmp 61) rfl rfl rfl ?c3 (by omega) ?c4 ?_)
            case c0 => exact (HK9.out.alloc _).alloc _
            case c1 => exact ((HSS9.out.mono (by omega)).alloc _).alloc _
            case l1 => omega
            case l2 => omega
            case c2 => exact fun b hb hm => by (have h1 := HSS9.out.lt hm hb; exact ⟨(fun h => nomatch h), Or.inl (by omega), by omega, by omega⟩)
            case c3 => (first | exact heap_new rfl | (obtain ⟨_, h⟩ := Array.getElem?_eq_some_iff.1 (heap_new (w := w9.alloc (.cells #[.string (nth cs j).name, .int .i64 v.1, .slice B5 n5 d5] 53)) (b := w9.heap.size + 1) (o := .cells #[.string (nth cs j).name, .int .i64 v.1, .slice B5 n5 d5] 53) (by simp)); exact h) | exact heap_new (by simp))
            case c4 => (try simp); omega
            intro v10 w10 how10 hg10 hat10
            have hb10 := ((HB9.out.alloc HB9.out.size (.cells #[.string (nth cs j).name, .int .i64 (nth cs j).st, .slice A9 nj c9] 53)).alloc (by simp; omega) (.cells #[.string (nth cs j).name, .int .i64 (nth cs j).st, .slice A9 nj c9] 53)).grown hg10 (by simp; omega) (fun b hb => HOB.out b hb)
            have hs10 : w9.heap.size ≤ w10.heap.size := by have := hg10.size; (try rw [World.size_alloc, World.size_alloc] at this); (try simp at this); omega
            have HK10 := Lib.hid (how10.wide hlo2 hs10)
            have HB10 := Lib.hid hb10
            have HOB10 := Lib.hid (fun q (hq : v10.ownBlock = some q) => (by
              rcases hat10 with h | h
              · exact HOB.out q (h ▸ hq)
              · rw [h] at hq
                have := Option.some.inj hq
                (try simp at this)
                omega : w6.heap.size ≤ q))
            clear how10 hg10 hat10 hb10
            go_wp2_with fail
            go_roundw
            case rel => exact ⟨j + 1, by omega, by go_num, by rw [HT.out]; exact HK10.out, HOB10.out, HB10.out⟩
            case measure => simp [intOf]; omega
        · obtain rfl : j = m := by omega
          have hkm : G.take j = G := by rw [← hGL]; exact List.take_length
          go_wp2_with fail
          obtain ⟨A3, c3, e3, hdr3, hcap3⟩ := HK.out.dr
          cases e3
          rw [hkm] at hdr3
          exact bodyPost_ret (v := .tuple #[.slice A1 j c1, .bool true]) (by simp [results, Try.results48, go_sem]) rfl ⟨_, _, _, by rw [HPE.out], by rw [HPL2.out]; exact hdr3, hcap3, HB46.out.trans (HBW.out.mono HB46.out.size)⟩
  · have hbox := set21 (u := .slice B5 n5 d5) (set20 (u := .int .i64 (evR f s0 ds k x).1) hz5)
    have hb6 : Below w4.heap.size w4 ((w5.setCell ⟨w4.heap.size, 0, none⟩ (.int .i64 (evR f s0 ds k x).1)).setCell ⟨w4.heap.size, 1, none⟩ (.slice B5 n5 d5)) := (hbw.setCell (p := ⟨w4.heap.size, 0, none⟩) (Nat.le_refl _) _).setCell (p := ⟨w4.heap.size, 1, none⟩) (Nat.le_refl _) _
    have hrow := row_mono (row_set (o := 1) (u := .slice B5 n5 d5) (row_set (o := 0) (u := .int .i64 (evR f s0 ds k x).1) ho5 hz5 (by decide)) (set20 hz5) (by decide)) (Nat.le_trans hs4 hbs)
    generalize (w5.setCell ⟨w4.heap.size, 0, none⟩ (.int .i64 (evR f s0 ds k x).1)).setCell ⟨w4.heap.size, 1, none⟩ (.slice B5 n5 d5) = w6 at *
    clear hbw hbs hz5 q0 q0' q1 q1'
    have HBX := Lib.hid hbox; clear hbox
    have HB6 := Lib.hid hb6; clear hb6
    have hcap := own_capN hrow
    have HROW := Lib.hid hrow; clear hrow
    clear ho5 hb5 HSB
    generalize evR f s0 ds k x = v at *
    cases hev : evB f s0 ds k x
    · have HPE := Lib.hid (HPB.out.trans hev)
      have HPL2 := Lib.hid (HPL.out.trans (if_neg (by rw [HPE.out]; simp)))
      clear hev
      go_wp2_with fail
      exact bodyPost_ret (v := .tuple #[.slice (some ⟨w6.heap.size, 0, none⟩) 0 0, .bool false]) (by simp [results, Try.results48, go_sem]) rfl ⟨_, 0, 0, by rw [HPE.out], by rw [HPL2.out]; exact DR.nil, Nat.le_refl _, (HB4.out.trans (HB6.out.mono HB4.out.size)).alloc (Nat.le_trans hs4 HB6.out.size) _⟩
    · have HPE := Lib.hid (HPB.out.trans hev)
      have HPL2 := Lib.hid (HPL.out.trans (if_pos HPE.out))
      clear hev
      obtain ⟨A8, c8, e8, hss⟩ := own_sstr HROW.out
      injection e8 with e8 _ e9
      subst e8; subst e9
      have hs6 := HB6.out.size
      have HLT := Lib.hid (fun b (hb : B5 = some ⟨b, 0, none⟩) (hm : 0 < n5) => (hss.lt hm hb))
      have HSS := Lib.hid hss; clear hss
      have HD6 := Lib.hid (HD4.out.below HB6.out)
      have HB46 := Lib.hid (HB4.out.trans (HB6.out.mono HB4.out.size))
      have HK7 := Lib.hid (KRowD.made (w := w6) (base := w.heap.size) (b := w6.heap.size) (av := none) (lo1 := w6.heap.size) (hi := (w6.alloc (.cells #[] 53)).heap.size) (by omega) rfl)
      have hGL : (cs.set p ⟨(nth cs p).name, v.1, v.2⟩).length = m := by rw [List.length_set, HL.out]
      have HG := Lib.hid (fun i => nth_set (xs := cs) (j := p) (k := i) (y := ⟨(nth cs p).name, v.1, v.2⟩) (by rw [HL.out]; exact hpm))
      generalize hG : cs.set p ⟨(nth cs p).name, v.1, v.2⟩ = G at *
      clear hG
      go_wp2_with fail
      go_loopw [13, 14] (fun o i wr => ∃ j : Nat, j ≤ m ∧ i = .int .i64 (j : Int) ∧ KRowD wr w.heap.size none (if j ≤ p then w6.heap.size else w.heap.size) wr.heap.size o j (G.take j) ∧ (∀ q, o.ownBlock = some q → w6.heap.size ≤ q) ∧ Below w6.heap.size w6 wr) (fun _ i _ => m - (intOf i).toNat)
      case atStart => exact ⟨0, Nat.zero_le _, rfl, by rw [if_pos (Nat.zero_le _)]; exact HK7.out, (fun q hq => by have : w6.heap.size = q := (by simpa [Value.ownBlock] using hq); omega), (Below.refl _ _).alloc (Nat.le_refl _) _⟩
      case round =>
        obtain ⟨j, hj, rfl, hkr, hob, hbw⟩ := hrel
        have HOB := Lib.hid hob; clear hob
        have HK := Lib.hid hkr; clear hkr
        have HBW := Lib.hid hbw; clear hbw
        have hsw := HBW.out.size
        obtain ⟨A1, c1, rfl, _⟩ := HK.out.row.hat
        by_cases hlt : j < m
        · obtain ⟨b9, off9, hB9, _, hc⟩ := RCase.at_ (HD6.out.below HBW.out) hlt
          obtain ⟨Aj, nj, cj, ⟨d1, d2, d3⟩, hdr, hncj, _⟩ := hc j hlt
          clear hc
          injection hB9 with hB9; injection hB9 with i1 i2
          subst i1; subst i2
          have hjl : j < cs.length := by rw [HL.out]; exact hlt
          have hnj : nj ≤ 1048576 := by rw [← hdr.1]; exact (HC.out.2 j hjl).2
          have HDJ := Lib.hid hdr; clear hdr
          have HT := Lib.hid (take_nth (xs := G) (k := j) (by rw [hGL]; exact hlt))
          have hGj := HG.out j
          go_wp2_with fail
          refine (l32Case_any _ _ _ (nth cs j) _ _ HDJ.out hnj).mono ?_
          rintro e w9 ⟨A9, c9, rfl, hss9, hc9, hb9⟩
          have HSS9 := Lib.hid hss9; clear hss9
          have hs9 := hb9.size
          have HB9 := Lib.hid (HBW.out.trans (hb9.mono hsw))
          have HK9 := Lib.hid (HK.out.below hb9)
          have HX9 := Lib.hid (heap_old (o := .cells #[.string (nth cs j).name, .int .i64 (nth cs j).st, .slice A9 nj c9] 53) ((HB9.out.block _ (heap_lt HBX.out)).trans HBX.out))
          have p0 := (blk_cl (k := 0) HX9.out rfl).1
          have p1 := (blk_cl (k := 1) HX9.out rfl).1
          clear hb9 d1 d2 d3
          by_cases hjp : j = p
          · subst hjp
            rw [if_pos rfl] at hGj
            rw [hGj] at HT
            rw [if_pos (Nat.le_refl _)] at HK9
            go_wp2_with (at_builtin; refine app_caseD w.heap.size w6.heap.size wr.heap.size w.heap.size w9.heap.size none (.slice A1 j c1) j (G.take j) (w9.heap.size + 1) ⟨(nth cs j).name, v.1, v.2⟩ B5 n5 d5 ?c0 ?c1 hcap ?l1 ?l2 ?c2 rfl (.tmp 59) (.tmp 61) rfl rfl rfl ?c3 (by omega) ?c4 ?_)
            case c0 => exact (HK9.out.alloc _).alloc _
            case c1 => exact (((HSS.out.below HB9.out)).alloc _).alloc _
            case l1 => omega
            case l2 => omega
            case c2 => exact fun b hb hm => by (have h1 := HLT.out b hb hm; exact ⟨(fun h => nomatch h), Or.inr (by omega), by omega, by omega⟩)
            case c3 => (first | exact heap_new rfl | (obtain ⟨_, h⟩ := Array.getElem?_eq_some_iff.1 (heap_new (w := w9.alloc (.cells #[.string (nth cs j).name, .int .i64 v.1, .slice B5 n5 d5] 53)) (b := w9.heap.size + 1) (o := .cells #[.string (nth cs j).name, .int .i64 v.1, .slice B5 n5 d5] 53) (by simp)); exact h) | exact heap_new (by simp))
            case c4 => (try simp); omega
            intro v10 w10 how10 hg10 hat10
            have hb10 := ((HB9.out.alloc HB9.out.size (.cells #[.string (nth cs j).name, .int .i64 v.1, .slice B5 n5 d5] 53)).alloc (by simp; omega) (.cells #[.string (nth cs j).name, .int .i64 v.1, .slice B5 n5 d5] 53)).grown hg10 (by simp; omega) (fun b hb => HOB.out b hb)
            have hs10 : w9.heap.size ≤ w10.heap.size := by have := hg10.size; (try rw [World.size_alloc, World.size_alloc] at this); (try simp at this); omega
            have HK10 := Lib.hid (how10.wide (lo2 := if j + 1 ≤ j then w6.heap.size else w.heap.size) (by rw [if_neg (by omega)]; exact Nat.le_refl _) hs10)
            have HB10 := Lib.hid hb10
            have HOB10 := Lib.hid (fun q (hq : v10.ownBlock = some q) => (by
              rcases hat10 with h | h
              · exact HOB.out q (h ▸ hq)
              · rw [h] at hq
                have := Option.some.inj hq
                (try simp at this)
                omega : w6.heap.size ≤ q))
            clear how10 hg10 hat10 hb10
            go_wp2_with fail
            go_roundw
            case rel => exact ⟨j + 1, by omega, by go_num, by rw [HT.out]; exact HK10.out, HOB10.out, HB10.out⟩
            case measure => simp [intOf]; omega
          · rw [if_neg hjp] at hGj
            rw [hGj] at HT
            have hq : ((j : Int) == (p : Int)) = false := by rw [beq_eq_false_iff_ne]; omega
            have hlo : (if j ≤ p then w6.heap.size else w.heap.size) ≤ w6.heap.size := by split <;> omega
            have hlo2 : (if j + 1 ≤ p then w6.heap.size else w.heap.size) ≤ (if j ≤ p then w6.heap.size else w.heap.size) := by
              by_cases h1 : j + 1 ≤ p
              · rw [if_pos h1, if_pos (by omega)]; exact Nat.le_refl _
              · rw [if_neg h1]; split <;> omega
            generalize (if j ≤ p then w6.heap.size else w.heap.size) = L9 at *
            go_wp2_with (at_builtin; refine app_caseD w.heap.size L9 wr.heap.size L9 w9.heap.size none (.slice A1 j c1) j (G.take j) (w9.heap.size + 1) (nth cs j) A9 nj c9 ?c0 ?c1 hc9 ?l1 ?l2 ?c2 rfl (.tmp 59) (.tmp 61) rfl rfl rfl ?c3 (by omega) ?c4 ?_)
            case c0 => exact (HK9.out.alloc _).alloc _
            case c1 => exact ((HSS9.out.mono (by omega)).alloc _).alloc _
            case l1 => omega
            case l2 => omega
            case c2 => exact fun b hb hm => by (have h1 := HSS9.out.lt hm hb; exact ⟨(fun h => nomatch h), Or.inl (by omega), by omega, by omega⟩)
            case c3 => (first | exact heap_new rfl | (obtain ⟨_, h⟩ := Array.getElem?_eq_some_iff.1 (heap_new (w := w9.alloc (.cells #[.string (nth cs j).name, .int .i64 v.1, .slice B5 n5 d5] 53)) (b := w9.heap.size + 1) (o := .cells #[.string (nth cs j).name, .int .i64 v.1, .slice B5 n5 d5] 53) (by simp)); exact h) | exact heap_new (by simp))
            case c4 => (try simp); omega
            intro v10 w10 how10 hg10 hat10
            have hb10 := ((HB9.out.alloc HB9.out.size (.cells #[.string (nth cs j).name, .int .i64 (nth cs j).st, .slice A9 nj c9] 53)).alloc (by simp; omega) (.cells #[.string (nth cs j).name, .int .i64 (nth cs j).st, .slice A9 nj c9] 53)).grown hg10 (by simp; omega) (fun b hb => HOB.out b hb)
            have hs10 : w9.heap.size ≤ w10.heap.size := by have := hg10.size; (try rw [World.size_alloc, World.size_alloc] at this); (try simp at this); omega
            have HK10 := Lib.hid (how10.wide hlo2 hs10)
            have HB10 := Lib.hid hb10
            have HOB10 := Lib.hid (fun q (hq : v10.ownBlock = some q) => (by
              rcases hat10 with h | h
              · exact HOB.out q (h ▸ hq)
              · rw [h] at hq
                have := Option.some.inj hq
                (try simp at this)
                omega : w6.heap.size ≤ q))
            clear how10 hg10 hat10 hb10
            go_wp2_with fail
            go_roundw
            case rel => exact ⟨j + 1, by omega, by go_num, by rw [HT.out]; exact HK10.out, HOB10.out, HB10.out⟩
            case measure => simp [intOf]; omega
        · obtain rfl : j = m := by omega
          have hkm : G.take j = G := by rw [← hGL]; exact List.take_length
          go_wp2_with fail
          obtain ⟨A3, c3, e3, hdr3, hcap3⟩ := HK.out.dr
          cases e3
          rw [hkm] at hdr3
          exact bodyPost_ret (v := .tuple #[.slice A1 j c1, .bool true]) (by simp [results, Try.results48, go_sem]) rfl ⟨_, _, _, by rw [HPE.out], by rw [HPL2.out]; exact hdr3, hcap3, HB46.out.trans (HBW.out.mono HB46.out.size)⟩

end Go.Proofs.Ythcpjkhijjkolaa

/- Events leave runs and pools valid. No program in sight. -/
namespace Go.Proofs.Ythcpjkhijjkolaa

theorem can_zero {f : Flow} {st : Int} {done : List Str} {x : Str} (h : canB f st done x = true) : st = 0 := by
  unfold canB at h
  simp only [Bool.and_eq_true, decide_eq_true_eq] at h
  exact h.2.1
theorem run_did {f : Flow} {st : Int} {done : List Str} {x : Str} (h : canB f st done x = true) : runB f (forthI (done.length + 1) f.steps.length) (done ++ [x]) = true := by
  have h1 := can_ord h
  have h2 := ord_len h1
  have h3 : (done ++ [x]).length = done.length + 1 := by simp
  rw [h3] at h2
  unfold runB
  rw [run_flow (can_run h), h1, h3]
  unfold forthI
  by_cases e : done.length + 1 = f.steps.length
  · rw [if_pos e]; simp [e]
  · rw [if_neg e]; simp; omega
theorem back_run {f : Flow} {done : List Str} (hf : flowB f = true) (ho : ordB f.steps done = true) (hl : done.length < f.steps.length) : runB f (backI f.steps done done.length) done = true := by
  have hle := leftN_le f.steps done done.length
  rw [back_eq]
  unfold runB
  rw [hf, ho]
  by_cases h : leftN f.steps done done.length = done.length
  · rw [if_pos h]; simp [hl, h]
  · rw [if_neg h]; simp [hl]; omega
theorem run_short {f : Flow} {st : Int} {done : List Str} (h : runB f st done = true) (hs : st = 0 ∨ st = 1) : done.length < f.steps.length := by
  unfold runB at h
  rcases hs with rfl | rfl <;> simp at h <;> omega
theorem run_ev {f : Flow} {st : Int} {done : List Str} {k : Int} {x : Str} (h : evB f st done k x = true) : runB f (evR f st done k x).1 (evR f st done k x).2 = true := by
  by_cases h1 : k = 1
  · subst h1
    rw [(ev_1 f st done x).2] at h
    rw [(ev_1 f st done x).1, doR_yes h]
    exact run_did h
  by_cases h2 : k = 2
  · subst h2
    rw [(ev_2 f st done x).2] at h
    rw [(ev_2 f st done x).1, failR_yes h]
    exact back_run (run_flow (can_run h)) (run_ord (can_run h)) (run_short (can_run h) (.inl (can_zero h)))
  by_cases h3 : k = 3
  · subst h3
    by_cases hu : undoB f st done = true ∧ undoN f st done = x
    · rw [(ev_3 hu.1 hu.2).1]
      obtain ⟨hr, hs, j, hj⟩ := undo_run hu.1
      rw [(undo_yes hu.1 hj).1]
      have hl := run_short hr (.inr hs)
      have ht : (done.take j).length = j := by rw [List.length_take]; omega
      have := back_run (run_flow hr) (ord_take (run_ord hr) j) (by rw [ht]; omega)
      rw [ht] at this
      exact this
    · have hn : undoB f st done = false ∨ undoN f st done ≠ x := by
        by_cases hb : undoB f st done = true
        · exact .inr fun e => hu ⟨hb, e⟩
        · exact .inl (by simpa using hb)
      rw [(ev_3n hn).2] at h
      cases h
  · rw [(ev_no h1 h2 h3).2] at h
    cases h
theorem pe_parts {f : Flow} {cs : List Case} {nm x : Str} {k : Int} (h : peB f cs nm k x = true) : poolB f cs = true ∧ pAt cs nm < cs.length ∧ idxI (caseNames cs) nm = (pAt cs nm : Int) ∧ (nth cs (pAt cs nm)).name = nm ∧ evB f (nth cs (pAt cs nm)).st (nth cs (pAt cs nm)).done k x = true := by
  unfold peB at h
  simp only [Bool.and_eq_true] at h
  obtain ⟨h1, h2, h3⟩ := h
  obtain ⟨h4, h5, h6⟩ := pAt_ex h2
  exact ⟨h1, h4, h5, h6, h3⟩
theorem peL_yes {f : Flow} {cs : List Case} {nm x : Str} {k : Int} (h : peB f cs nm k x = true) : peL f cs nm k x = cs.set (pAt cs nm) ⟨(nth cs (pAt cs nm)).name, (evR f (nth cs (pAt cs nm)).st (nth cs (pAt cs nm)).done k x).1, (evR f (nth cs (pAt cs nm)).st (nth cs (pAt cs nm)).done k x).2⟩ := if_pos h
theorem set_names (cs : List Case) {p : Nat} (hp : p < cs.length) (st : Int) (done : List Str) : (cs.set p ⟨(nth cs p).name, st, done⟩).map (·.name) = cs.map (·.name) := by
  rw [List.map_set]
  refine List.ext_getElem (by simp) fun i h1 h2 => ?_
  rw [List.getElem_set]
  split
  · rename_i e
    subst e
    rw [nth_eq hp]; simp
  · rfl
theorem pool_ev {f : Flow} {cs : List Case} {nm x : Str} {k : Int} (h : peB f cs nm k x = true) : poolB f (peL f cs nm k x) = true := by
  obtain ⟨h1, h2, _, _, h5⟩ := pe_parts h
  rw [peL_yes h]
  obtain ⟨g1, g2, g3, g4⟩ := poolB_iff.1 h1
  refine poolB_iff.2 ⟨fun c hc => ?_, ?_, g3, by rw [List.length_set]; exact g4⟩
  · rcases List.mem_or_eq_of_mem_set hc with hc | rfl
    · exact g1 c hc
    · exact ⟨(g1 _ (mem_nth h2)).1, run_ev h5⟩
  · have e1 : ∀ ds : List Case, ds.Pairwise caseLt ↔ (ds.map (·.name)).Pairwise (fun a b => strLt a b = true) := fun ds => by
      rw [List.pairwise_map]
      rfl
    rw [e1, set_names cs h2, ← e1]
    exact g2
theorem okCases_ev {f : Flow} {cs : List Case} {nm x : Str} {k : Int} (h : okCases cs) : okCases (peL f cs nm k x) := by
  cases hp : peB f cs nm k x
  · rw [peL_no hp]; exact okCases_nil
  · obtain ⟨_, h2, _, _, h5⟩ := pe_parts hp
    rw [peL_yes hp]
    refine ⟨by rw [List.length_set]; exact h.1, fun j hj => ?_⟩
    rw [List.length_set] at hj
    rw [nth_set h2]
    split
    · exact ⟨(h.2 _ h2).1, Nat.le_trans (run_sizes (run_ev h5)).1 (by omega)⟩
    · exact h.2 j hj
theorem peL_len {f : Flow} {cs : List Case} {nm x : Str} {k : Int} (h : peB f cs nm k x = true) : (peL f cs nm k x).length = cs.length := by rw [peL_yes h, List.length_set]
theorem peL_other {f : Flow} {cs : List Case} {nm x : Str} {k : Int} (h : peB f cs nm k x = true) {i : Nat} (hi : (nth cs i).name ≠ nm) : nth (peL f cs nm k x) i = nth cs i := by
  obtain ⟨_, h2, _, h4, _⟩ := pe_parts h
  rw [peL_yes h, nth_set h2, if_neg (fun e => hi (by rw [e]; exact h4))]
theorem peL_at {f : Flow} {cs : List Case} {nm x : Str} {k : Int} (h : peB f cs nm k x = true) : nth (peL f cs nm k x) (pAt cs nm) = ⟨(nth cs (pAt cs nm)).name, (evR f (nth cs (pAt cs nm)).st (nth cs (pAt cs nm)).done k x).1, (evR f (nth cs (pAt cs nm)).st (nth cs (pAt cs nm)).done k x).2⟩ := by
  obtain ⟨_, h2, _⟩ := pe_parts h
  rw [peL_yes h, nth_set h2, if_pos rfl]
end Go.Proofs.Ythcpjkhijjkolaa

/- Drawing a number: one value, told ahead of the call. -/
namespace Go.Proofs.Ythcpjkhijjkolaa
open Go.RowKit

theorem pick1_any (g p : Nat) (n : Int) (w : World) (h : Rd 131 w g p) (hp : p ≤ 1099511627776) (hn : n ≤ 1099511627776) :
    ∃ v : Int, 0 ≤ v ∧ (1 ≤ n → v < n) ∧ v ≤ 1099511627776 ∧ Calls Try.prog 92 #[.pointer (some ⟨g, 0, none⟩), .int .i64 n] w fun e w' =>
      e = .returned (.int .i64 v) ∧ Rd 131 w' g (p + 1) ∧ On g w w' ∧ w'.heap.size = w.heap.size := by
  have HL := Lib.hid h.lt
  have HN := Lib.hid (Rd.step h)
  have HO := Lib.hid ((On.refl g w).set_ 1 (.int .i64 ((p : Int) + 1)))
  have HS := Lib.hid (show (w.setCell ⟨g, 1, none⟩ (.int .i64 ((p : Int) + 1))).heap.size = w.heap.size by simp [World.setCell])
  obtain ⟨A, len, c, hlen, hg, hr⟩ := h
  have hr1 : w.cell? ⟨g, 1, none⟩ = some (.int .i64 (p : Int)) := by simp [World.cell?, hg]
  have hr2 : w.frozen? ⟨g, 1, none⟩ = false := by simp [World.frozen?, hg]
  have hr3 : (w.setCell ⟨g, 1, none⟩ (.int .i64 ((p : Int) + 1))).cell? ⟨g, 0, none⟩ = some (.slice A len c) := by simp [World.cell?, World.setCell, Array.getElem?_modify, hg]
  have hr4 : (w.setCell ⟨g, 1, none⟩ (.int .i64 ((p : Int) + 1))).cell? ⟨g, 1, none⟩ = some (.int .i64 ((p : Int) + 1)) := by simp [World.cell?, World.setCell, Array.getElem?_modify, hg]
  clear hg
  by_cases h1 : n < 1
  · refine ⟨0, by omega, by omega, by omega, ?_⟩
    go_enter Try.func92, Try.ntmps92
    go_wp2_with fail
    go_ret
    exact ⟨rfl, HN.out, HO.out, HS.out⟩
  by_cases h2 : len < 1
  · have h3 : ((len : Int) == 0) = true := by rw [beq_iff_eq]; omega
    refine ⟨0, by omega, by omega, by omega, ?_⟩
    go_enter Try.func92, Try.ntmps92
    go_wp2_with fail
    go_ret
    exact ⟨rfl, HN.out, HO.out, HS.out⟩
  have h3 : ((len : Int) == 0) = false := by rw [beq_eq_false_iff_ne]; omega
  obtain ⟨b, off, rfl, hbg, hc⟩ := hr (by omega)
  have hcs : ∀ k, k < len → ∃ u : Nat, u < 256 ∧ (w.setCell ⟨g, 1, none⟩ (.int .i64 ((p : Int) + 1))).cell? ⟨b, off + k, none⟩ = some (.int .u8 (u : Int)) := fun k hk => by
    obtain ⟨u, hu, hcu⟩ := hc k hk
    exact ⟨u, hu, (World.cell?_setCell_other w _ _ _ (fun e => by injection e; omega)).trans hcu⟩
  clear hc hr
  by_cases h4 : p < len
  · obtain ⟨u, hu, hcu⟩ := hcs p h4
    clear hcs
    have hu2 : (u : Int) < 256 := by omega
    refine ⟨(u : Int) % n, Int.emod_nonneg _ (by omega), fun _ => Int.emod_lt_of_pos _ (by omega), by have := Int.emod_lt_of_pos (u : Int) (show (0 : Int) < n by omega); omega, ?_⟩
    go_enter Try.func92, Try.ntmps92
    go_wp2_with fail
    go_ret
    exact ⟨rfl, HN.out, HO.out, HS.out⟩
  · have hl0 : 0 < len := by omega
    have hT1 : (p : Int).tmod (len : Int) = ((p % len : Nat) : Int) := rfl
    have hT2 : ((p : Int) * 7 + 3).tmod (len : Int) = (((p * 7 + 3) % len : Nat) : Int) := rfl
    have hm1 : p % len < len := Nat.mod_lt _ hl0
    have hm2 : (p * 7 + 3) % len < len := Nat.mod_lt _ hl0
    generalize p % len = i1 at hT1 hm1
    generalize (p * 7 + 3) % len = i2 at hT2 hm2
    obtain ⟨u, hu, hcu⟩ := hcs i1 hm1
    obtain ⟨v, hv, hcv⟩ := hcs i2 hm2
    clear hcs
    have hdl : p / len ≤ p := Nat.div_le_self _ _
    obtain ⟨q, hq⟩ : ∃ q, q = p / len := ⟨_, rfl⟩
    have hz : ¬ len = 0 := by omega
    have hT3 : (p : Int).tdiv (len : Int) = (q : Int) := by rw [hq]; rfl
    rw [← hq] at hdl
    have W1 : IntKind.i64.wrap ((u : Int) * 131) = (u : Int) * 131 := IntWalk.i64_in _ (by omega)
    have W2 : IntKind.i64.wrap ((p : Int) * 7) = (p : Int) * 7 := IntWalk.i64_in _ (by omega)
    have W3 : IntKind.i64.wrap ((p : Int) * 7 + 3) = (p : Int) * 7 + 3 := IntWalk.i64_in _ (by omega)
    have W4 : IntKind.i64.wrap ((v : Int) * 1117) = (v : Int) * 1117 := IntWalk.i64_in _ (by omega)
    have W5 : IntKind.i64.wrap ((u : Int) * 131 + (v : Int) * 1117) = (u : Int) * 131 + (v : Int) * 1117 := IntWalk.i64_in _ (by omega)
    have W6 : IntKind.i64.wrap ((p : Int) * 29) = (p : Int) * 29 := IntWalk.i64_in _ (by omega)
    have W7 : IntKind.i64.wrap ((u : Int) * 131 + (v : Int) * 1117 + (p : Int) * 29) = (u : Int) * 131 + (v : Int) * 1117 + (p : Int) * 29 := IntWalk.i64_in _ (by omega)
    have W8 : IntKind.i64.wrap (q : Int) = (q : Int) := IntWalk.i64_in _ (by omega)
    have W9 : IntKind.i64.wrap ((q : Int) * 53) = (q : Int) * 53 := IntWalk.i64_in _ (by omega)
    have W10 : IntKind.i64.wrap ((u : Int) * 131 + (v : Int) * 1117 + (p : Int) * 29 + (q : Int) * 53) = (u : Int) * 131 + (v : Int) * 1117 + (p : Int) * 29 + (q : Int) * 53 := IntWalk.i64_in _ (by omega)
    clear hq
    have hXX : 0 ≤ (bits .xor .i64 ((u : Int) * 131 + (v : Int) * 1117 + (p : Int) * 29 + (q : Int) * 53) (((u : Int) * 131 + (v : Int) * 1117 + (p : Int) * 29 + (q : Int) * 53) / 64)).tmod n ∧ (bits .xor .i64 ((u : Int) * 131 + (v : Int) * 1117 + (p : Int) * 29 + (q : Int) * 53) (((u : Int) * 131 + (v : Int) * 1117 + (p : Int) * 29 + (q : Int) * 53) / 64)).tmod n < n := by
      obtain ⟨x, hx⟩ : ∃ x : Nat, (x : Int) = ((u : Int) * 131 + (v : Int) * 1117 + (p : Int) * 29 + (q : Int) * 53) := ⟨u * 131 + v * 1117 + p * 29 + q * 53, by omega⟩
      have hxx := xor_in x n (by omega) (by omega)
      rw [hx] at hxx
      exact hxx
    refine ⟨(bits .xor .i64 ((u : Int) * 131 + (v : Int) * 1117 + (p : Int) * 29 + (q : Int) * 53) (((u : Int) * 131 + (v : Int) * 1117 + (p : Int) * 29 + (q : Int) * 53) / 64)).tmod n, hXX.1, fun _ => hXX.2, by omega, ?_⟩
    clear hXX
    go_enter Try.func92, Try.ntmps92
    go_wp2_with fail
    go_quiet (fail)
    clear W1 W2 W3 W4 W5 W6 W7 W8 W9 W10 hT1 hT2 hT3
    go_wp2_with fail
    go_ret
    exact ⟨rfl, HN.out, HO.out.drewN _, HS.out⟩

/-- pick, its value told ahead. -/
theorem pick1 (w0 : World) (g q : Nat) (n : Int) (w : World) (h : Dr 131 w0 g q w) (hq : q ≤ 1099511627776) (hn : n ≤ 1099511627776) :
    ∃ v : Int, 0 ≤ v ∧ (1 ≤ n → v < n) ∧ v ≤ 1099511627776 ∧ Calls Try.prog 92 #[.pointer (some ⟨g, 0, none⟩), .int .i64 n] w fun e w' =>
      e = .returned (.int .i64 v) ∧ Dr 131 w0 g (q + 1) w' ∧ On g w w' := by
  obtain ⟨p, hp, hr⟩ := h.rd
  obtain ⟨v, h1, h2, h3, h4⟩ := pick1_any g p n w hr (by omega) hn
  refine ⟨v, h1, h2, h3, h4.mono ?_⟩
  rintro e w' ⟨h5, h6, h7, _⟩
  exact ⟨h5, ⟨h.on.trans h7, p + 1, by omega, h6⟩, h7⟩
end Go.Proofs.Ythcpjkhijjkolaa

/- A region whose first operations come in one forced order, and whose others read and call quietly. No program in sight. -/
namespace Go.Proofs.Ythcpjkhijjkolaa
open Go.RowKit

section
variable {P : Program} {ops : Array Oper} {md : Region.Mode} {Q' : Exit → Act → World → Prop}
def wpHead (P : Program) (ops : Array Oper) (Q' : Exit → Act → World → Prop) (K : Act → World → Prop) : List Oper → Act → World → Prop
  | [], a, w => K a w
  | o :: rest, a, w => if Region.wanted o (yielded ops a.tmps) = true then o.wp P a w (wpHead P ops Q' K rest) Q' else wpHead P ops Q' K rest (a.put o.dst undef) w
theorem wpHead_nil {K : Act → World → Prop} {a : Act} {w : World} (h : K a w) : wpHead P ops Q' K [] a w := h
theorem wpHead_step {K : Act → World → Prop} {o : Oper} {rest : List Oper} {a : Act} {w : World}
    (h : ∀ K' : Act → World → Prop, (∀ a w, wpHead P ops Q' K rest a w → K' a w) → if Region.wanted o (yielded ops a.tmps) = true then o.wp P a w K' Q' else K' (a.put o.dst undef) w) : wpHead P ops Q' K (o :: rest) a w :=
  h _ (fun _ _ h => h)
def headGo (md : Region.Mode) (ops : Array Oper) (g : Nat) : Nat → Nat → Array Bool → Bool
  | 0, k, listed => Region.lexFrom md ops g k listed
  | m + 1, k, listed => (Region.ready md ops listed == [k]) && headGo md ops g m (k + 1) (listed.setIfInBounds k true)
def headB (md : Region.Mode) (ops : Array Oper) (n : Nat) : Bool := Region.noSelect ops && decide (n ≤ ops.size) && headGo md ops (ops.size - n) n 0 (Array.replicate ops.size false)

theorem wpAny_head (hs : Region.noSelect ops = true) (l2 : List Oper) : ∀ (l1 : List Oper) (k : Nat) (listed : Array Bool) (a : Act) (w : World), (∀ j, (l1 ++ l2)[j]? = ops[k + j]?) →
    headGo md ops l2.length l1.length k listed = true → wpHead P ops Q' (fun a' w' => wpQuiet P ops (fun x => ∃ m, x = w'.drewN m) (fun a'' => ∀ x, (∃ m, x = w'.drewN m) → Q' .normal a'' x) l2 a') l1 a w →
    wpAny P md ops Q' (l1.length + l2.length) listed a w
  | [], k, listed, a, w, hl, hB, h => by
    rw [List.length_nil, Nat.zero_add]
    exact wpAny_of_quiet (C := fun x => ∃ m, x = w.drewN m) (Q := fun a' => ∀ x, (∃ m, x = w.drewN m) → Q' .normal a' x) (fun _ w' hw' h => h w' hw') _ _ _ _ ⟨0, rfl⟩ (wpAnyQ_lex hs l2 k listed a (by simpa using hl) hB h)
  | o :: l1, k, listed, a, w, hl, hB, h => by
    have h0 : ops[k]? = some o := by simpa using (hl 0).symm
    simp only [List.length_cons, headGo, Bool.and_eq_true, beq_iff_eq] at hB
    rw [List.length_cons, show l1.length + 1 + l2.length = (l1.length + l2.length) + 1 by omega]
    refine ⟨fun h1 => (by rw [hB.1] at h1; cases h1), fun i hi => ?_⟩
    rw [hB.1] at hi
    have hik : i = k := by simpa using hi
    subst hik
    have hw : wpOp P ops Q' i (wpHead P ops Q' (fun a' w' => wpQuiet P ops (fun x => ∃ m, x = w'.drewN m) (fun a'' => ∀ x, (∃ m, x = w'.drewN m) → Q' .normal a'' x) l2 a') l1) a w := by
      unfold wpOp
      simp only [h0]
      unfold wpHead at h
      split
      · rename_i hwant
        rw [if_pos hwant] at h
        exact .inl h
      · rename_i hwant
        rw [if_neg hwant] at h
        exact h
    exact wpOp_mono (fun a' w' h' => wpAny_head hs l2 l1 (i + 1) _ a' w' (fun j => by have := hl (j + 1); simpa [Nat.add_assoc, Nat.add_comm 1 j] using this) hB.2 h') hw

theorem wp_region_head {id : Nat} {Q : Exit → Act → World → Prop} {a : Act} {w : World} {l : List Oper} (n : Nat) (hm : P.follows .mixedOrders = true) (hB : headB .any l.toArray n = true)
    (h : wpHead P l.toArray Q (fun a' w' => wpQuiet P l.toArray (fun x => ∃ m, x = w'.drewN m) (fun a'' => ∀ x, (∃ m, x = w'.drewN m) → Q .normal a'' x) (l.drop n) a') (l.take n) a w.drew) : (Code.region id l.toArray true).wp P Q a w := by
  simp only [headB, Bool.and_eq_true, decide_eq_true_eq] at hB
  obtain ⟨⟨hs, hn⟩, hg⟩ := hB
  have hn' : n ≤ l.length := by simpa using hn
  refine wp_region_any hm ?_
  have h1 : (l.take n).length = n := by rw [List.length_take]; omega
  have h2 : (l.drop n).length = l.toArray.size - n := by rw [List.length_drop]; simp
  have := wpAny_head (md := .any) hs (l.drop n) (l.take n) 0 (Array.replicate l.toArray.size false) a w.drew (fun j => by rw [List.take_append_drop]; simp) (by rw [h1, h2]; exact hg) h
  rw [h1, h2, show n + (l.toArray.size - n) = l.toArray.size by omega] at this
  exact this
end
end Go.Proofs.Ythcpjkhijjkolaa

/- Drawing names and steps: some name, some step. -/
namespace Go.Proofs.Ythcpjkhijjkolaa
open Go.RowKit

theorem l91Name_any (w0 : World) (g q : Nat) (w : World) (h : Dr 131 w0 g q w) (hq : q ≤ 1099511620000) :
    Calls Try.prog 94 #[.pointer (some ⟨g, 0, none⟩)] w fun e w' => ∃ s : Str, e = .returned (.string s) ∧ s.size ≤ 6 ∧ Dr 131 w0 g (q + 2) w' ∧ On g w w' := by
  have HD := Lib.hid h
  have hgl := h.lt
  go_enter Try.func94, Try.ntmps94
  go_wp2_with fail
  refine (pick w0 g _ _ _ h (by omega) (by omega)).mono ?_
  rintro e w1 ⟨v, rfl, hv0, hv1, hv2, hd1, hon⟩
  have hs1 := hon.size
  by_cases hz : v = 0
  · subst hz
    go_wp2_with fail
    refine (of_ w0 g _ _ _ _ [⟨#[]⟩, ⟨#[65]⟩, ⟨#[97, 98, 99, 100, 101, 102]⟩, ⟨#[97, 98, 99, 100, 101]⟩, ⟨#[97, 49]⟩] _ _ (hd1.alloc _) (by omega) (lit_str _ 5 rfl rfl) (by omega) (by omega) (by omega)).mono ?_
    rintro e w2 ⟨s, rfl, hm, hd2, hon2⟩
    go_wp2_with fail
    go_ret
    refine ⟨s, rfl, ?_, hd2, (hon.alloc _).trans hon2⟩
    simp at hm
    rcases hm with rfl | rfl | rfl | rfl | rfl <;> decide
  · have hz2 : (v == 0) = false := by rw [beq_eq_false_iff_ne]; exact hz
    go_wp2_with fail
    refine (of_ w0 g _ _ _ _ [⟨#[97]⟩, ⟨#[98]⟩, ⟨#[99]⟩, ⟨#[100]⟩, ⟨#[101]⟩, ⟨#[102]⟩] _ _ (hd1.alloc _) (by omega) (lit_str _ 6 rfl rfl) (by omega) (by omega) (by omega)).mono ?_
    rintro e w2 ⟨s, rfl, hm, hd2, hon2⟩
    go_wp2_with fail
    go_ret
    refine ⟨s, rfl, ?_, hd2, (hon.alloc _).trans hon2⟩
    simp at hm
    rcases hm with rfl | rfl | rfl | rfl | rfl | rfl <;> decide

theorem okS_all {xs : List Str} (h : ∀ x ∈ xs, x.size ≤ 6) (hl : xs.length ≤ 100) : okS xs := ⟨by omega, fun j hj => by have := h _ (mem_nth hj); unfold maxLen; omega⟩
theorem own_le {w : World} {base : Nat} {e : TypeId} {size n : Nat} {A : Option Addr} {c : Nat} {xs : List Value} (h : w.ownsRow base e size (.slice A n c) n xs) : n ≤ c := by
  rcases h.2 with ⟨_, rfl⟩ | ⟨g, cap, cur, e, _, _, h1, _⟩
  · exact Nat.zero_le _
  · injection e with _ _ e
    subst e; exact h1
theorem sz_set (w : World) (a : Addr) (v : Value) : (w.setCell a v).heap.size = w.heap.size := by simp
/-- What drawing a step leaves. -/
def StepQ (w0 : World) (g q : Nat) (w : World) (e : Ending) (w' : World) : Prop :=
  ∃ (s : Step) (A : Option Addr) (n c : Nat), e = .returned (.agg #[.string s.name, .slice A n c, .bool s.undo]) ∧ RStr w' w.heap.size A n s.after ∧ okStep s ∧ n ≤ 6 ∧ n ≤ c ∧ Dr 131 w0 g (q + 100) w' ∧ On g w w'

/-- The head of the loop. -/
structure StepI (w : World) (g q F N : Nat) (s : Str) (u : Bool) (wr : World) (k n : Nat) (A : Option Addr) (c : Nat) (ys : List Str) : Prop where
  kn : n ≤ k
  ok : okS ys
  row : wr.ownsRow (w.heap.size + 1) 9 1 (.slice A n c) n (ys.map Value.string)
  dr : Dr 131 w g (q + 10 + k) wr
  res : wr.heap[w.heap.size]? = some (.cells #[.string ⟨#[]⟩, .slice none 0 0, .bool false] 56 (0, 0))
  box : wr.heap[F]? = some (.cells #[.string s, .slice A n c, .bool u] 56 (0, 0))
  nms : wr.heap[N]? = some (.cells nmF 9 (0, 0))
  nmo : (Value.slice A n c).ownBlock ≠ some N
  fw : w.heap.size < F
  nw : w.heap.size < N
theorem StepI.len {w : World} {g q F N : Nat} {s : Str} {u : Bool} {wr : World} {k n : Nat} {A : Option Addr} {c : Nat} {ys : List Str} (h : StepI w g q F N s u wr k n A c ys) : ys.length = n := by
  have := h.row.1; simpa using this

end Go.Proofs.Ythcpjkhijjkolaa

/- Drawing a flow and a run out of a code. -/
namespace Go.Proofs.Ythcpjkhijjkolaa
open Go.RowKit

/-- What drawing a flow and a run leaves. -/
def BothQ (w0 : World) (g q : Nat) (w : World) (e : Ending) (w' : World) : Prop :=
  ∃ (v : Int) (A : Option Addr) (n c : Nat) (ss : List Step) (st : Int) (B : Option Addr) (m d : Nat) (xs : List Str), e = .returned (.tuple #[.agg #[.int .i64 v, .slice A n c], .agg #[.int .i64 st, .slice B m d]]) ∧
    RStep w' w.heap.size A n ss ∧ okSteps ss ∧ 1 ≤ n ∧ n ≤ 6 ∧ RStr w' w.heap.size B m xs ∧ m ≤ d ∧ m ≤ 9 ∧ Dr 131 w0 g (q + 200) w' ∧ On g w w'

set_option maxRecDepth 100000 in
set_option maxHeartbeats 1000000 in
theorem l91Both_any (w0 : World) (g q : Nat) (w : World) (h : Dr 131 w0 g q w) (hq : q ≤ 1099511600000) :
    Calls Try.prog 67 #[.pointer (some ⟨g, 0, none⟩)] w (BothQ w0 g q w) := by
  have HD := Lib.hid h; clear h
  have hgl := HD.out.lt
  have hd0 := (HD.out.here.alloc (.cells #[.int .i64 0, .slice none 0 0] 33)).alloc (.cells #[.int .i64 0, .slice none 0 0] 35)
  go_enter Try.func67, Try.ntmps67
  go_wp2_with fail
  refine (l91Flow_any w g q _ hd0 (by omega)).mono ?_
  rintro e w1 ⟨ver, A, n, c, ss, rfl, hs, hok, hn1, hn6, hd1, hon1⟩
  have hs1 := hon1.size
  rw [show ((w.alloc (.cells #[.int .i64 0, .slice none 0 0] 33)).alloc (.cells #[.int .i64 0, .slice none 0 0] 35)).heap.size = w.heap.size + 1 + 1 by simp] at hs1 hs
  have HRF := Lib.hid (heap_old (o := .cells #[.int .i64 ver, .slice A n c] 33) (hon1.blk (b := w.heap.size) (heap_old (heap_new rfl)) (by omega)))
  have HRR := Lib.hid (heap_old (o := .cells #[.int .i64 ver, .slice A n c] 33) (hon1.blk (b := w.heap.size + 1) (heap_new (by simp)) (by omega)))
  have HX1 := Lib.hid (heap_new (w := w1) (o := .cells #[.int .i64 ver, .slice A n c] 33) rfl)
  have HS1 := Lib.hid ((hs.alloc (.cells #[.int .i64 ver, .slice A n c] 33)).drew); clear hs hon1 hd0
  have HOK := Lib.hid hok; clear hok
  have HD1 := Lib.hid ((hd1.alloc (.cells #[.int .i64 ver, .slice A n c] 33)).drew); clear hd1
  have HRUN := Lib.hid (l91Run_any w g _ A n c ⟨ver, ss⟩ (w.heap.size + 1 + 1) _ HD1.out (by omega) HS1.out HOK.out (by omega) (by omega))
  have x0 := (blk_cl (k := 0) HX1.out rfl).1
  have x1 := (blk_cl (k := 1) HX1.out rfl).1
  go_wp2_with fail
  go_region_with (go_at_call 113; refine HRUN.out.mono ?_; rintro e w3 ⟨st, A3, n3, c3, xs, rfl, hss3, hnc3, hn39, hd3, hon3⟩; have HF3 := Lib.hid (hon3.blk HRF.out (by omega)); have HR3 := Lib.hid (hon3.blk HRR.out (by omega)); have hx3 := hon3.blk HX1.out (by simp; omega); have z0 := (blk_cl (k := 0) hx3 rfl).1; have z1 := (blk_cl (k := 1) hx3 rfl).1; have r0a := (blk_cl (k := 0) HF3.out rfl).1; have r0b := (blk_cl (k := 0) HF3.out rfl).2; have r1a := (blk_cl (k := 1) HF3.out rfl).1; have r1b := (blk_cl (k := 1) HF3.out rfl).2; have q0a := (blk_cl (k := 0) HR3.out rfl).1; have q0b := (blk_cl (k := 0) HR3.out rfl).2; have q1a := (blk_cl (k := 1) HR3.out rfl).1; have q1b := (blk_cl (k := 1) HR3.out rfl).2)
  all_goals go_wp2_with fail
  all_goals
    have hF := set21 (u := .slice A n c) (set20 (u := .int .i64 ver) HF3.out)
    have hF2 := set_ne (b := w.heap.size + 1) (o := 1) (u := .slice A3 n3 c3) (set_ne (b := w.heap.size + 1) (o := 0) (u := .int .i64 st) hF (by omega)) (by omega)
    have hR := set21 (u := .slice A3 n3 c3) (set20 (u := .int .i64 st) (set_ne (b := w.heap.size) (o := 1) (u := .slice A n c) (set_ne (b := w.heap.size) (o := 0) (u := .int .i64 ver) HR3.out (by omega)) (by omega)))
    have e0 := (blk_cl (k := 0) hF2 rfl).1
    have e1 := (blk_cl (k := 1) hF2 rfl).1
    have e2 := (blk_cl (k := 0) hR rfl).1
    have e3 := (blk_cl (k := 1) hR rfl).1
    have hsz : (w1.alloc (.cells #[.int .i64 ver, .slice A n c] 33)).drew.heap.size = w1.heap.size + 1 := by simp
    have hst3 := HS1.out.on hon3 (by omega)
    have hss := hss3.hat
    rw [hsz] at hss
    have hdr := (((hd3.set_ (b := w.heap.size) (Nat.le_refl _) hgl 0 (.int .i64 ver)).set_ (b := w.heap.size) (Nat.le_refl _) hgl 1 (.slice A n c)).set_ (b := w.heap.size + 1) (Nat.le_succ _) (by omega) 0 (.int .i64 st)).set_ (b := w.heap.size + 1) (Nat.le_succ _) (by omega) 1 (.slice A3 n3 c3)
    exact bodyPost_ret (v := .tuple #[.agg #[.int .i64 ver, .slice A n c], .agg #[.int .i64 st, .slice A3 n3 c3]]) (by simp [results, Try.results67, go_sem, e0, e1, e2, e3]) rfl
      ⟨_, _, _, _, ss, _, _, _, _, xs, rfl, ((((hst3.setLow (by omega)).setLow (by omega)).setLow (by omega)).setLow (by omega)).lower (by omega), HOK.out, hn1, hn6, ((((hss.setLow (by omega)).setLow (by omega)).setLow (by omega)).setLow (by omega)).lower (by omega), hnc3, hn39, (HD.out.trans hdr).more (by omega), hdr.on⟩

def BothD (w : World) (e : Ending) (w' : World) : Prop :=
  ∃ (f : Flow) (A : Option Addr) (n c : Nat) (st : Int) (B : Option Addr) (m d : Nat) (xs : List Str), e = .returned (.tuple #[.agg #[.int .i64 f.ver, .slice A n c], .agg #[.int .i64 st, .slice B m d]]) ∧
    RStep w' w.heap.size A n f.steps ∧ okSteps f.steps ∧ 1 ≤ n ∧ n ≤ 6 ∧ RStr w' w.heap.size B m xs ∧ m ≤ d ∧ m ≤ 9 ∧ Below w.heap.size w w'

set_option maxRecDepth 100000 in
theorem drawRunText_any (A : Option Addr) (n c : Nat) (w : World) (hr : RByte w A n) (hc : n ≤ c) (hn : n ≤ 1048576) : Calls Try.prog 22 #[.slice A n c] w (BothD w) := by
  have HR := Lib.hid ((hr.alloc (.cells #[.int .i64 0, .slice none 0 0] 33)).alloc (.cells #[.int .i64 0, .slice none 0 0] 35)); clear hr
  go_enter Try.func22, Try.ntmps22
  go_wp2_with fail
  refine (open_any _ _ _ _ HR.out hc hn).mono ?_
  rintro e w1 ⟨rfl, hrd, hb1⟩
  have hsz : ((w.alloc (.cells #[.int .i64 0, .slice none 0 0] 33)).alloc (.cells #[.int .i64 0, .slice none 0 0] 35)).heap.size = w.heap.size + 1 + 1 := by simp
  rw [hsz] at hrd hb1 ⊢
  have hd0 : Dr 131 w1 (w.heap.size + 1 + 1) 0 w1 := ⟨On.refl _ _, 0, Nat.le_refl _, hrd⟩
  have hl1 := hrd.lt
  have HRF := Lib.hid ((hb1.block w.heap.size (by omega)).trans (heap_old (o := .cells #[.int .i64 0, .slice none 0 0] 35) (heap_new (w := w) (o := .cells #[.int .i64 0, .slice none 0 0] 33) rfl)))
  have HRR := Lib.hid ((hb1.block (w.heap.size + 1) (by omega)).trans (heap_new (w := w.alloc (.cells #[.int .i64 0, .slice none 0 0] 33)) (o := .cells #[.int .i64 0, .slice none 0 0] 35) (by simp)))
  have HB1 := Lib.hid ((((Below.refl w.heap.size w).alloc (Nat.le_refl _) (.cells #[.int .i64 0, .slice none 0 0] 33)).alloc (by simp) (.cells #[.int .i64 0, .slice none 0 0] 35)).trans (hb1.mono (by omega)))
  clear hrd hb1 hsz
  go_wp2_with fail
  refine (l91Both_any w1 _ _ _ hd0 (by omega)).mono ?_
  rintro e w2 ⟨v, A2, n2, c2, ss, st, B2, m2, d2, xs, rfl, hs, hok, h1, h6, hxs, hmd, hm9, hd, hon⟩
  have HS := Lib.hid hs; clear hs
  have HX := Lib.hid hxs; clear hxs
  have HF3 := Lib.hid (hon.blk HRF.out (by omega))
  have HR3 := Lib.hid (hon.blk HRR.out (by omega))
  have HB2 := Lib.hid (HB1.out.trans ((hon.low (Nat.le_of_lt hl1)).mono (by omega)))
  have HOK := Lib.hid hok; clear hok
  clear hon hd hd0
  have r0a := (blk_cl (k := 0) HF3.out rfl).1
  have r0b := (blk_cl (k := 0) HF3.out rfl).2
  have r1a := (blk_cl (k := 1) HF3.out rfl).1
  have r1b := (blk_cl (k := 1) HF3.out rfl).2
  have q0a := (blk_cl (k := 0) HR3.out rfl).1
  have q0b := (blk_cl (k := 0) HR3.out rfl).2
  have q1a := (blk_cl (k := 1) HR3.out rfl).1
  have q1b := (blk_cl (k := 1) HR3.out rfl).2
  go_wp2_with fail
  have hF := set21 (u := .slice A2 n2 c2) (set20 (u := .int .i64 v) HF3.out)
  have hF2 := set_ne (b := w.heap.size + 1) (o := 1) (u := .slice B2 m2 d2) (set_ne (b := w.heap.size + 1) (o := 0) (u := .int .i64 st) hF (by omega)) (by omega)
  have hR := set21 (u := .slice B2 m2 d2) (set20 (u := .int .i64 st) (set_ne (b := w.heap.size) (o := 1) (u := .slice A2 n2 c2) (set_ne (b := w.heap.size) (o := 0) (u := .int .i64 v) HR3.out (by omega)) (by omega)))
  have e0 := (blk_cl (k := 0) hF2 rfl).1
  have e1 := (blk_cl (k := 1) hF2 rfl).1
  have e2 := (blk_cl (k := 0) hR rfl).1
  have e3 := (blk_cl (k := 1) hR rfl).1
  have hbl := (((HB2.out.setCell (p := ⟨w.heap.size, 0, none⟩) (Nat.le_refl _) (.int .i64 v)).setCell (p := ⟨w.heap.size, 1, none⟩) (Nat.le_refl _) (.slice A2 n2 c2)).setCell (p := ⟨w.heap.size + 1, 0, none⟩) (Nat.le_succ _) (.int .i64 st)).setCell (p := ⟨w.heap.size + 1, 1, none⟩) (Nat.le_succ _) (.slice B2 m2 d2)
  exact bodyPost_ret (v := .tuple #[.agg #[.int .i64 v, .slice A2 n2 c2], .agg #[.int .i64 st, .slice B2 m2 d2]]) (by simp [results, Try.results22, go_sem, e0, e1, e2, e3]) rfl
    ⟨⟨v, ss⟩, _, _, _, _, _, _, _, xs, rfl, ((((HS.out.setLow (by omega)).setLow (by omega)).setLow (by omega)).setLow (by omega)).lower (by omega), HOK.out, h1, h6, ((((HX.out.setLow (by omega)).setLow (by omega)).setLow (by omega)).setLow (by omega)).lower (by omega), hmd, hm9, hbl⟩
end Go.Proofs.Ythcpjkhijjkolaa

/- Drawing events: what is next, and a step's name. -/
namespace Go.Proofs.Ythcpjkhijjkolaa
open Go.RowKit

set_option maxRecDepth 100000 in
set_option maxHeartbeats 1000000 in
theorem runNextS_any (A B : Option Addr) (n c m d : Nat) (f : Flow) (st : Int) (done : List Str) (lo lo' : Nat) (w : World) (hr : RStep w lo A n f.steps) (hok : okSteps f.steps) (hd : RStr w lo' B m done) (hm : m ≤ 1048576) (hmd : m ≤ d) :
    Calls Try.prog 122 #[.agg #[.int .i64 f.ver, .slice A n c], .agg #[.int .i64 st, .slice B m d]] w fun e w' => ∃ A' n' c' xs, e = .returned (.slice A' n' c') ∧ RStr w' w.heap.size A' n' xs ∧ n' ≤ 1048576 ∧ (∀ x ∈ xs, x.size ≤ maxLen) ∧ Below w.heap.size w w' := by
  have HO := Lib.hid hok; clear hok
  have HL := Lib.hid hd.1
  have HX0 := Lib.hid (heap_old (o := .cells #[.int .i64 st, .slice B m d] 35) (heap_new (w := w) (o := .cells #[.int .i64 f.ver, .slice A n c] 33) rfl))
  have HY0 := Lib.hid (heap_new (w := w.alloc (.cells #[.int .i64 f.ver, .slice A n c] 33)) (b := w.heap.size + 1) (o := .cells #[.int .i64 st, .slice B m d] 35) (by simp))
  have HB0 := Lib.hid (((Below.refl w.heap.size w).alloc (Nat.le_refl _) (.cells #[.int .i64 f.ver, .slice A n c] 33)).alloc (by simp) (.cells #[.int .i64 st, .slice B m d] 35))
  have HR := Lib.hid ((hr.alloc (.cells #[.int .i64 f.ver, .slice A n c] 33)).alloc (.cells #[.int .i64 st, .slice B m d] 35)); clear hr
  have HD := Lib.hid ((hd.alloc (.cells #[.int .i64 f.ver, .slice A n c] 33)).alloc (.cells #[.int .i64 st, .slice B m d] 35)); clear hd
  go_enter Try.func122, Try.ntmps122
  go_wp2_with fail
  refine (runS_any _ _ _ _ _ _ f st done _ _ _ HR.out HO.out HD.out hm hmd).mono ?_
  rintro e w1 ⟨rfl, hb⟩
  have HX1 := Lib.hid ((hb.block _ (heap_lt HX0.out)).trans HX0.out)
  have HY1 := Lib.hid ((hb.block _ (heap_lt HY0.out)).trans HY0.out)
  have HB1 := Lib.hid (HB0.out.trans (hb.mono HB0.out.size))
  have HR1 := Lib.hid (HR.out.below hb)
  have HD1 := Lib.hid (HD.out.below hb)
  have hs1 := HB1.out.size
  clear hb
  have x0 := (blk_cl (k := 0) HX1.out rfl).1
  have x1 := (blk_cl (k := 1) HX1.out rfl).1
  have y0 := (blk_cl (k := 0) HY1.out rfl).1
  have y1 := (blk_cl (k := 1) HY1.out rfl).1
  cases hrun : runB f st done
  · clear hrun
    go_wp2_with fail
    go_ret
    exact ⟨_, 0, _, [], rfl, RL.nil, Nat.zero_le _, (fun x hx => by cases hx), HB1.out.alloc hs1 _⟩
  by_cases h0 : st = 0
  · subst h0
    clear hrun
    go_wp2_with fail
    refine (flowReadyS_any _ _ _ _ _ _ f done _ _ _ HR1.out HO.out HD1.out hm).mono ?_
    rintro e w2 ⟨A2, n2, c2, rfl, h2, hb2⟩
    have hmem : ∀ x ∈ readyF f done, x ∈ namesOf f.steps := fun x hx => by
      unfold readyF at hx
      split at hx
      · exact (rdyL_new hx).2
      · cases hx
    have hlen : (readyF f done).length ≤ f.steps.length := by
      unfold readyF
      split
      · exact rdyL_len _ _
      · exact Nat.zero_le _
    have hl : n2 ≤ 1048576 := by rw [← h2.1]; exact Nat.le_trans hlen HO.out.1
    go_wp2_with fail
    go_ret
    refine ⟨_, _, _, _, rfl, h2.lower hs1, hl, fun x hx => ?_, HB1.out.trans (hb2.mono hs1)⟩
    obtain ⟨j, hj, rfl⟩ := nth_of_mem (hmem x hx)
    exact (namesOf_ok HO.out).2 j hj
  by_cases h1 : st = 1
  · subst h1
    obtain ⟨k, hk⟩ : ∃ k, done.length = k + 1 := ⟨done.length - 1, by
      unfold runB at hrun
      simp at hrun
      omega⟩
    have hnm := (run_sizes hrun).2 k (by omega)
    clear hrun
    obtain rfl : m = k + 1 := by rw [← HL.out, hk]
    obtain ⟨b, off, rfl, _, hcc⟩ := RStr.at_ HD1.out (show k < k + 1 by omega)
    have z0 := (hcc k (by omega)).1
    clear hcc
    generalize nth done k = x at *
    have hk1 : (k : Int) < (k : Int) + 1 := by omega
    go_wp2_with fail
    go_ret
    refine ⟨_, 1, _, [x], rfl, (lit_str [x] 1 rfl rfl).lower hs1, by omega, fun y hy => ?_, HB1.out.alloc hs1 _⟩
    rw [List.mem_singleton.1 hy]
    have := (nameB_size hnm).2
    unfold maxLen; omega
  · have q0 : (st == 0) = false := by rw [beq_eq_false_iff_ne]; exact h0
    have q1 : (st == 1) = false := by rw [beq_eq_false_iff_ne]; exact h1
    clear hrun h0 h1
    go_wp2_with fail
    go_ret
    exact ⟨_, 0, _, [], rfl, RL.nil, Nat.zero_le _, (fun x hx => by cases hx), HB1.out.alloc hs1 _⟩

set_option maxRecDepth 100000 in
set_option maxHeartbeats 1000000 in
theorem l91At_any (w0 : World) (g q : Nat) (A : Option Addr) (n c : Nat) (f : Flow) (lo : Nat) (w : World) (h : Dr 131 w0 g q w) (hq : q ≤ 1099511610000) (hr : RStep w lo A n f.steps) (hok : okSteps f.steps) (hn1 : 1 ≤ n) (hlo : g < lo) :
    Calls Try.prog 121 #[.pointer (some ⟨g, 0, none⟩), .agg #[.int .i64 f.ver, .slice A n c]] w fun e w' => ∃ s : Str, e = .returned (.string s) ∧ s.size ≤ maxLen ∧ Dr 131 w0 g (q + 3) w' ∧ On g w w' := by
  have HL := Lib.hid hr.1
  have hn : n ≤ 1048576 := by have := hok.1; rw [hr.1] at this; exact this
  have hgl := h.lt
  have HX0 := Lib.hid (heap_new (w := w) (o := .cells #[.int .i64 f.ver, .slice A n c] 33) rfl)
  have HR0 := Lib.hid (hr.alloc (.cells #[.int .i64 f.ver, .slice A n c] 33)); clear hr
  have HD0 := Lib.hid (h.alloc (.cells #[.int .i64 f.ver, .slice A n c] 33)); clear h
  have HON := Lib.hid ((On.refl g w).alloc (.cells #[.int .i64 f.ver, .slice A n c] 33))
  go_enter Try.func121, Try.ntmps121
  go_wp2_with fail
  refine (pick w0 g _ _ _ HD0.out (by omega) (by omega)).mono ?_
  rintro e w2 ⟨v, rfl, _, _, _, hd2, hon2⟩
  have HD2 := Lib.hid hd2; clear hd2
  have HX2 := Lib.hid (hon2.blk HX0.out (by omega))
  have HR2 := Lib.hid (HR0.out.on hon2 (by omega))
  have HON2 := Lib.hid (HON.out.trans hon2)
  clear hon2
  by_cases hv : 0 < v
  · obtain ⟨v2, hv0, hv1, _, hcall⟩ := pick1 w0 g _ (n : Int) _ HD2.out.drew (by omega) (by omega)
    obtain ⟨j, rfl⟩ := Int.eq_ofNat_of_zero_le hv0
    have hjn : j < n := by have := hv1 (by omega); omega
    have HC := Lib.hid hcall; clear hcall hv0 hv1
    obtain ⟨b, off, rfl, ⟨hb1, hb2⟩, hcc⟩ := RStep.at_ HR2.out hjn
    obtain ⟨_, _, _, ⟨d1, _, _⟩, _⟩ := hcc j hjn
    clear hcc
    have hsz : (nth f.steps j).name.size ≤ maxLen := (hok.2 j (by rw [HL.out]; exact hjn)).1
    generalize (nth f.steps j).name = x at *
    have HSB : Hid (∀ w', On g w2 w' → w'.cell? ⟨w.heap.size, 1, none⟩ = some (.slice (some ⟨b, off, none⟩) n c) ∧ w'.cell? ⟨b, off + j * 3, none⟩ = some (.string x)) := fun w' h => ⟨(blk_cl (k := 1) (h.blk HX2.out (by omega)) rfl).1, (h.cell hb2 (by omega)).trans d1⟩
    have hj0 : (0 : Int) ≤ (j : Int) := by omega
    have hj1 : (j : Int) < (n : Int) := by omega
    go_wp2_with fail
    go_region_held3 (fun w' => w'.cell? ⟨w.heap.size, 1, none⟩ = some (.slice (some ⟨b, off, none⟩) n c) ∧ w'.cell? ⟨b, off + j * 3, none⟩ = some (.string x))
      (first | exact HSB.out _ ((On.refl _ _).drew.trans hon3) | exact HSB.out _ (On.refl _ _).drew | fail "keep")
      (first | (go_at_call 92; refine HC.out.mono ?_; rintro e w3 ⟨rfl, hd3, hon3⟩) | fail "no arm")
    go_wp2_with fail
    go_ret
    exact ⟨x, rfl, hsz, hd3.more (by omega), HON2.out.trans ((On.refl _ _).drew.trans hon3)⟩
  · go_wp2_with fail
    refine (l91Name_any w0 g _ _ HD2.out (by omega)).mono ?_
    rintro e w3 ⟨s, rfl, hs, hd3, hon3⟩
    go_wp2_with fail
    go_ret
    exact ⟨s, rfl, by unfold maxLen; omega, hd3.more (by omega), HON2.out.trans hon3⟩
end Go.Proofs.Ythcpjkhijjkolaa

/- Drawing events. -/
namespace Go.Proofs.Ythcpjkhijjkolaa
open Go.RowKit

set_option maxRecDepth 100000 in
set_option maxHeartbeats 8000000 in
theorem l91Event_any (w0 : World) (g q : Nat) (A B : Option Addr) (n c m d : Nat) (f : Flow) (st : Int) (done : List Str) (lo lo' : Nat) (w : World) (h : Dr 131 w0 g q w) (hq : q ≤ 1099511600000) (hr : RStep w lo A n f.steps) (hok : okSteps f.steps) (hn1 : 1 ≤ n) (hlo : g < lo) (hd : RStr w lo' B m done) (hm : m ≤ 1048576) (hmd : m ≤ d) (hlo' : g < lo') :
    Calls Try.prog 93 #[.pointer (some ⟨g, 0, none⟩), .agg #[.int .i64 f.ver, .slice A n c], .agg #[.int .i64 st, .slice B m d]] w fun e w' => ∃ (k : Int) (x : Str), e = .returned (.agg #[.int .i64 k, .string x]) ∧ x.size ≤ maxLen ∧ Dr 131 w0 g (q + 30) w' ∧ On g w w' := by
  have hgl := h.lt
  have HD0 := Lib.hid h
  have hdw := ((h.here.alloc (.cells #[.int .i64 f.ver, .slice A n c] 33)).alloc (.cells #[.int .i64 st, .slice B m d] 35)).alloc (.cells #[.int .i64 0, .string ⟨#[]⟩] 73); clear h
  have HX := Lib.hid (heap_old (o := .cells #[.int .i64 0, .string ⟨#[]⟩] 73) (heap_old (o := .cells #[.int .i64 st, .slice B m d] 35) (heap_new (w := w) (o := .cells #[.int .i64 f.ver, .slice A n c] 33) rfl)))
  have HY := Lib.hid (heap_old (o := .cells #[.int .i64 0, .string ⟨#[]⟩] 73) (heap_new (w := w.alloc (.cells #[.int .i64 f.ver, .slice A n c] 33)) (b := w.heap.size + 1) (o := .cells #[.int .i64 st, .slice B m d] 35) (by simp)))
  have HZ := Lib.hid (heap_new (w := (w.alloc (.cells #[.int .i64 f.ver, .slice A n c] 33)).alloc (.cells #[.int .i64 st, .slice B m d] 35)) (b := w.heap.size + 2) (o := .cells #[.int .i64 0, .string ⟨#[]⟩] 73) (by simp))
  have HRW := Lib.hid (((hr.alloc (.cells #[.int .i64 f.ver, .slice A n c] 33)).alloc (.cells #[.int .i64 st, .slice B m d] 35)).alloc (.cells #[.int .i64 0, .string ⟨#[]⟩] 73)); clear hr
  have HSW := Lib.hid (((hd.alloc (.cells #[.int .i64 f.ver, .slice A n c] 33)).alloc (.cells #[.int .i64 st, .slice B m d] 35)).alloc (.cells #[.int .i64 0, .string ⟨#[]⟩] 73)); clear hd
  have hWs : (((w.alloc (.cells #[.int .i64 f.ver, .slice A n c] 33)).alloc (.cells #[.int .i64 st, .slice B m d] 35)).alloc (.cells #[.int .i64 0, .string ⟨#[]⟩] 73)).heap.size = w.heap.size + 3 := by simp
  go_enter Try.func93, Try.ntmps93
  go_upto_region 1 with fail
  generalize hW : ((w.alloc (.cells #[.int .i64 f.ver, .slice A n c] 33)).alloc (.cells #[.int .i64 st, .slice B m d] 35)).alloc (.cells #[.int .i64 0, .string ⟨#[]⟩] 73) = W at *
  clear hW
  have hW2 : w.heap.size + 2 < W.heap.size := by omega
  clear hWs
  have HDw := Lib.hid hdw
  have HDW := Lib.hid hdw.here; clear hdw
  have HSB : Hid (∀ w', On g W w' → w'.cell? ⟨w.heap.size, 0, none⟩ = some (.int .i64 f.ver) ∧ w'.cell? ⟨w.heap.size, 1, none⟩ = some (.slice A n c)) := fun w' h => ⟨(blk_cl (k := 0) (h.blk HX.out (by omega)) rfl).1, (blk_cl (k := 1) (h.blk HX.out (by omega)) rfl).1⟩
  have hneW : W.heap.size ≠ g := by omega
  go_cut [7] (fun s7 wx => ∃ (b : Nat) (k : Int) (x : Str), s7 = .pointer (some ⟨b, 0, none⟩) ∧ wx.heap[b]? = some (.cells #[.int .i64 k, .string x] 73 (0, 0)) ∧ x.size ≤ maxLen ∧ W.heap.size ≤ b ∧ Dr 131 W g (q + 4) wx)
  case first =>
    go_region_held3 (fun w' => w'.cell? ⟨w.heap.size, 0, none⟩ = some (.int .i64 f.ver) ∧ w'.cell? ⟨w.heap.size, 1, none⟩ = some (.slice A n c))
      ((refine HSB.out _ ?_; (repeat (first | with_reducible exact On.refl _ _ | exact hd5.on | exact hd4.on | refine On.setNew ?_ (by first | exact Nat.le_refl _ | exact hd4.on.size | exact hd5.on.size | omega) _ _ | refine On.drew ?_ | refine On.alloc ?_ _ | fail "x")); done))
      (first
        | (go_at_call 92; refine (pick W g _ _ _ (by repeat (first | with_reducible exact HDW.out | apply Dr.drew | apply Dr.alloc)) (by omega) (by omega)).mono ?_; rintro e w3 ⟨v1, rfl, hv3, hv4, hv5, hd4, hon4⟩; have hne3 : w3.heap.size ≠ g := (by have := hd4.on.size; omega))
        | (go_at_call 121; refine (l91At_any W g _ A n c f lo _ (by repeat (first | with_reducible exact hd4 | apply Dr.alloc)) (by omega) (HRW.out.on (by repeat (first | with_reducible exact hd4.on | apply On.alloc)) (by omega)) hok hn1 hlo).mono ?_; rintro e w4 ⟨s, rfl, hs, hd5, hon5⟩; have hb := hon5.blk (b := w3.heap.size) (x := .cells #[.int .i64 0, .string ⟨#[]⟩] 73 (0, 0)) (heap_new rfl) hne3; have y0 := (blk_cl (k := 0) hb rfl).1; have y0' := (blk_cl (k := 0) hb rfl).2; have y1 := (blk_cl (k := 1) hb rfl).1; have y1' := (blk_cl (k := 1) hb rfl).2)
        | (go_at_call 121; refine (l91At_any W g _ A n c f lo _ (by repeat (first | with_reducible exact hd4 | apply Dr.alloc)) (by omega) (HRW.out.on (by repeat (first | with_reducible exact hd4.on | apply On.alloc)) (by omega)) hok hn1 hlo).mono ?_; rintro e w4 ⟨s, rfl, hs, hd5, hon5⟩; have hb := hon5.blk (hon4.blk (b := W.heap.size) (x := .cells #[.int .i64 0, .string ⟨#[]⟩] 73 (0, 0)) (heap_new rfl) hneW) hneW; have y0 := (blk_cl (k := 0) hb rfl).1; have y0' := (blk_cl (k := 0) hb rfl).2; have y1 := (blk_cl (k := 1) hb rfl).1; have y1' := (blk_cl (k := 1) hb rfl).2)
        | (go_at_call 121; refine (l91At_any W g _ A n c f lo _ (by repeat (first | with_reducible exact hd4 | apply Dr.alloc)) (by omega) (HRW.out.on (by repeat (first | with_reducible exact hd4.on | apply On.alloc)) (by omega)) hok hn1 hlo).mono ?_; rintro e w4 ⟨s, rfl, hs, hd5, hon5⟩)
        | fail "no arm")
    all_goals
      go_wp2_with fail
      go_meet
      have hs5 := hd5.on.size
      have hs4 := hd4.on.size
      have hm4 : q + 1 + 3 ≤ q + 4 := by omega
      have hgW : g < W.heap.size := by omega
      have hg3 : g < w3.heap.size := by omega
      first
        | with_reducible exact ⟨_, _, _, rfl, heap_new rfl, hs, hs5, (hd5.alloc _).more hm4⟩
        | with_reducible exact ⟨_, _, _, rfl, set21 (set20 hb), hs, hs4, ((hd5.set_ hs4 hg3 _ _).set_ hs4 hg3 _ _).more hm4⟩
        | with_reducible exact ⟨_, _, _, rfl, set21 (set20 hb), hs, Nat.le_refl _, ((hd5.set_ (Nat.le_refl _) hgW _ _).set_ (Nat.le_refl _) hgW _ _).more hm4⟩
  case rest =>
    obtain ⟨b, k, x, rfl, hev, hxs, hbW, hdc⟩ := hcut
    have HEV := Lib.hid hev; clear hev
    have HDC := Lib.hid hdc; clear hdc
    have hsc := HDC.out.on.size
    have x0 := (HSB.out _ HDC.out.on).1
    have x1 := (HSB.out _ HDC.out.on).2
    have HYC := Lib.hid (HDC.out.on.blk HY.out (by omega))
    have y0 := (blk_cl (k := 0) HYC.out rfl).1
    have y1 := (blk_cl (k := 1) HYC.out rfl).1
    go_wp2_with fail
    refine (runNextS_any _ _ _ _ _ _ f st done _ _ _ (HRW.out.on HDC.out.on (by omega)) hok (HSW.out.on HDC.out.on (by omega)) hm hmd).mono ?_
    rintro e w5 ⟨A5, n5, c5, xs, rfl, hx5, hn5, hsz5, hb5⟩
    have HEV5 := Lib.hid ((hb5.block _ (heap_lt HEV.out)).trans HEV.out)
    have HD5 := Lib.hid (HDC.out.below hb5)
    have hs5 := HD5.out.on.size
    have HX5 := Lib.hid (hx5.lower (show W.heap.size ≤ wc.heap.size from hsc)); clear hx5 hb5 x0 x1 y0 y1
    by_cases hn0 : n5 = 0
    · subst hn0
      have e0 := (blk_cl (k := 0) HEV5.out rfl).1
      have e0' := (blk_cl (k := 0) HEV5.out rfl).2
      have e1 := (blk_cl (k := 1) HEV5.out rfl).1
      have e1' := (blk_cl (k := 1) HEV5.out rfl).2
      go_wp2_with fail
      refine (pick W g _ _ _ HD5.out (by omega) (by omega)).mono ?_
      rintro e w9 ⟨v9, rfl, a1, a2, a3, hd9, hon9⟩
      have HE9 := Lib.hid (hon9.blk HEV5.out (by omega))
      have HD9 := Lib.hid hd9; clear hd9 hon9 e0 e0' e1 e1'
      by_cases hz9 : v9 = 0
      · subst hz9
        have e0 := (blk_cl (k := 0) HE9.out rfl).1
        have e0' := (blk_cl (k := 0) HE9.out rfl).2
        have e1 := (blk_cl (k := 1) HE9.out rfl).1
        have e1' := (blk_cl (k := 1) HE9.out rfl).2
        have HDA := Lib.hid (HD9.out.alloc (.cells #[.int .i64 0, .int .i64 4] 3))
        have HEA := Lib.hid (heap_old (o := .cells #[.int .i64 0, .int .i64 4] 3) HE9.out)
        have HLA := Lib.hid (heap_new (w := w9) (o := .cells #[.int .i64 0, .int .i64 4] 3) rfl)
        have hs9 := HD9.out.on.size
        go_wp2_with fail
        refine (pick W g _ _ _ HDA.out (by omega) (by omega)).mono ?_
        rintro e w10 ⟨v10, rfl, b1, b2, b3, hd10, hon10⟩
        have HE10 := Lib.hid (hon10.blk HEA.out (by omega))
        have HL10 := Lib.hid (hon10.blk HLA.out (by omega))
        have HD10 := Lib.hid hd10; clear hd10 hon10 e0 e0' e1 e1'
        have l0 := (blk_cl (k := 0) HL10.out rfl).1
        have l1 := (blk_cl (k := 1) HL10.out rfl).1
        have hv10 : v10 = 0 ∨ v10 = 1 := by have := b2 (by omega); omega
        clear b1 b2 b3
        rcases hv10 with rfl | rfl
        · have HEB := Lib.hid (set20 (u := .int .i64 0) HE10.out)
          have HDB := Lib.hid (HD10.out.set_ (b := b) (by omega) (by omega) 0 (.int .i64 0))
          have c0 := (blk_cl (k := 0) HE10.out rfl).1
          have c0' := (blk_cl (k := 0) HE10.out rfl).2
          have e0 := (blk_cl (k := 0) HEB.out rfl).1
          have e0' := (blk_cl (k := 0) HEB.out rfl).2
          have e1 := (blk_cl (k := 1) HEB.out rfl).1
          have e1' := (blk_cl (k := 1) HEB.out rfl).2
          have HZ9 := Lib.hid (HDB.out.on.blk HZ.out (by omega))
          have z0 := (blk_cl (k := 0) HZ9.out rfl).1
          have z0' := (blk_cl (k := 0) HZ9.out rfl).2
          have z1 := (blk_cl (k := 1) HZ9.out rfl).1
          have z1' := (blk_cl (k := 1) HZ9.out rfl).2
          go_wp2_with fail
          have hres := set21 (u := .string x) (set20 (u := .int .i64 0) HZ9.out)
          have r0 := (blk_cl (k := 0) hres rfl).1
          have r1 := (blk_cl (k := 1) hres rfl).1
          have hdr := (((HDw.out.trans HDB.out).set_ (b := w.heap.size + 2) (by omega) (by omega) 0 (.int .i64 0)).set_ (b := w.heap.size + 2) (by omega) (by omega) 1 (.string x))
          exact bodyPost_ret (v := .agg #[.int .i64 0, .string x]) (by simp [results, Try.results93, go_sem, r0, r1]) rfl ⟨_, _, rfl, hxs, (HD0.out.trans hdr).more (by omega), hdr.on⟩
        · have HEB := Lib.hid (set20 (u := .int .i64 4) HE10.out)
          have HDB := Lib.hid (HD10.out.set_ (b := b) (by omega) (by omega) 0 (.int .i64 4))
          have c0 := (blk_cl (k := 0) HE10.out rfl).1
          have c0' := (blk_cl (k := 0) HE10.out rfl).2
          have e0 := (blk_cl (k := 0) HEB.out rfl).1
          have e0' := (blk_cl (k := 0) HEB.out rfl).2
          have e1 := (blk_cl (k := 1) HEB.out rfl).1
          have e1' := (blk_cl (k := 1) HEB.out rfl).2
          have HZ9 := Lib.hid (HDB.out.on.blk HZ.out (by omega))
          have z0 := (blk_cl (k := 0) HZ9.out rfl).1
          have z0' := (blk_cl (k := 0) HZ9.out rfl).2
          have z1 := (blk_cl (k := 1) HZ9.out rfl).1
          have z1' := (blk_cl (k := 1) HZ9.out rfl).2
          go_wp2_with fail
          have hres := set21 (u := .string x) (set20 (u := .int .i64 4) HZ9.out)
          have r0 := (blk_cl (k := 0) hres rfl).1
          have r1 := (blk_cl (k := 1) hres rfl).1
          have hdr := (((HDw.out.trans HDB.out).set_ (b := w.heap.size + 2) (by omega) (by omega) 0 (.int .i64 4)).set_ (b := w.heap.size + 2) (by omega) (by omega) 1 (.string x))
          exact bodyPost_ret (v := .agg #[.int .i64 4, .string x]) (by simp [results, Try.results93, go_sem, r0, r1]) rfl ⟨_, _, rfl, hxs, (HD0.out.trans hdr).more (by omega), hdr.on⟩
      · have hz9b : (v9 == 0) = false := by rw [beq_eq_false_iff_ne]; exact hz9
        clear hz9
        have e0 := (blk_cl (k := 0) HE9.out rfl).1
        have e0' := (blk_cl (k := 0) HE9.out rfl).2
        have e1 := (blk_cl (k := 1) HE9.out rfl).1
        have e1' := (blk_cl (k := 1) HE9.out rfl).2
        have HZ9 := Lib.hid (HD9.out.on.blk HZ.out (by omega))
        have z0 := (blk_cl (k := 0) HZ9.out rfl).1
        have z0' := (blk_cl (k := 0) HZ9.out rfl).2
        have z1 := (blk_cl (k := 1) HZ9.out rfl).1
        have z1' := (blk_cl (k := 1) HZ9.out rfl).2
        go_wp2_with fail
        have hres := set21 (u := .string x) (set20 (u := .int .i64 k) HZ9.out)
        have r0 := (blk_cl (k := 0) hres rfl).1
        have r1 := (blk_cl (k := 1) hres rfl).1
        have hdr := (((HDw.out.trans HD9.out).set_ (b := w.heap.size + 2) (by omega) (by omega) 0 (.int .i64 k)).set_ (b := w.heap.size + 2) (by omega) (by omega) 1 (.string x))
        exact bodyPost_ret (v := .agg #[.int .i64 k, .string x]) (by simp [results, Try.results93, go_sem, r0, r1]) rfl ⟨_, _, rfl, hxs, (HD0.out.trans hdr).more (by omega), hdr.on⟩
    · have hn05 : (0 : Int) < (n5 : Int) := by omega
      have hn05b : 0 < n5 := by omega
      go_wp2_with fail
      refine (pick W g _ _ _ HD5.out (by omega) (by omega)).mono ?_
      rintro e w6 ⟨v6, rfl, a1, a2, a3, hd6, hon6⟩
      have HEV6 := Lib.hid (hon6.blk HEV5.out (by omega))
      have HX6 := Lib.hid (HX5.out.on hon6 (by omega))
      have HD6 := Lib.hid hd6; clear hd6 hon6
      have hs6 := HD6.out.on.size
      by_cases hv6 : 0 < v6
      · go_wp2_with fail
        refine (pick W g _ _ _ HD6.out (by omega) (by omega)).mono ?_
        rintro e w7 ⟨v7, rfl, b1, b2, b3, hd7, hon7⟩
        obtain ⟨j, rfl⟩ := Int.eq_ofNat_of_zero_le b1
        have hjn : j < n5 := by have := b2 (by omega); omega
        have HEV7 := Lib.hid (hon7.blk HEV6.out (by omega))
        have HX7 := Lib.hid (HX6.out.on hon7 (by omega))
        have HD7 := Lib.hid hd7; clear hd7 hon7 b1 b2 b3
        have hs7 := HD7.out.on.size
        obtain ⟨bx, ox, rfl, ⟨hbx1, hbx2⟩, hcc⟩ := RStr.at_ HX7.out hjn
        have u0 := (hcc j hjn).1
        have hxj := hsz5 _ (mem_nth (xs := xs) (k := j) (by rw [HX7.out.1]; exact hjn))
        clear hcc
        generalize nth xs j = xj at *
        have hj0 : (0 : Int) ≤ (j : Int) := by omega
        have hj1 : (j : Int) < (n5 : Int) := by omega
        have HEV8 := Lib.hid (set21 (u := .string xj) HEV7.out)
        have HD8 := Lib.hid (HD7.out.set_ (b := b) (by omega) (by omega) 1 (.string xj))
        have e0 := (blk_cl (k := 0) HEV7.out rfl).1
        have e0' := (blk_cl (k := 0) HEV7.out rfl).2
        have e1 := (blk_cl (k := 1) HEV7.out rfl).1
        have e1' := (blk_cl (k := 1) HEV7.out rfl).2
        go_wp2_with fail
        refine (pick W g _ _ _ HD8.out (by omega) (by omega)).mono ?_
        rintro e w8 ⟨v8, rfl, b1, b2, b3, hd8, hon8⟩
        have HEV9 := Lib.hid (hon8.blk HEV8.out (by omega))
        have HDX := Lib.hid hd8; clear e0 e0' e1 e1' u0
        have hs8 := HDX.out.on.size
        have HYX := Lib.hid (HDX.out.on.blk HY.out (by omega))
        have y0 := (blk_cl (k := 0) HYX.out rfl).1
        have hv8 : v8 = 0 ∨ v8 = 1 ∨ v8 = 2 := by have := b2 (by omega); omega
        clear hd8 hon8 b1 b2 b3
        have e0 := (blk_cl (k := 0) HEV9.out rfl).1
        have e0' := (blk_cl (k := 0) HEV9.out rfl).2
        have HYS := Lib.hid (fun u => (blk_cl (k := 0) (set_ne (b := b) (o := 0) (u := u) HYX.out (by omega)) rfl).1)
        have hys := HYS.out
        by_cases h1 : st = 1
        · subst h1
          rcases hv8 with rfl | rfl | rfl
          · have HE1 := Lib.hid (set20 (u := .int .i64 3) (set20 (u := .int .i64 1) HEV9.out))
            have HDY := Lib.hid ((HDX.out.set_ (b := b) (by omega) (by omega) 0 (.int .i64 1)).set_ (b := b) (by omega) (by omega) 0 (.int .i64 3))
            have f0 := (blk_cl (k := 0) (set20 (u := .int .i64 1) HEV9.out) rfl).1
            have f0' := (blk_cl (k := 0) (set20 (u := .int .i64 1) HEV9.out) rfl).2
            have e0 := (blk_cl (k := 0) HE1.out rfl).1
            have e0' := (blk_cl (k := 0) HE1.out rfl).2
            have e1 := (blk_cl (k := 1) HE1.out rfl).1
            have e1' := (blk_cl (k := 1) HE1.out rfl).2
            go_wp2_with fail
            refine (pick W g _ _ _ HDY.out (by omega) (by omega)).mono ?_
            rintro e w9 ⟨v9, rfl, a1, a2, a3, hd9, hon9⟩
            have HE9 := Lib.hid (hon9.blk HE1.out (by omega))
            have HD9 := Lib.hid hd9; clear hd9 hon9 e0 e0' e1 e1'
            by_cases hz9 : v9 = 0
            · subst hz9
              have e0 := (blk_cl (k := 0) HE9.out rfl).1
              have e0' := (blk_cl (k := 0) HE9.out rfl).2
              have e1 := (blk_cl (k := 1) HE9.out rfl).1
              have e1' := (blk_cl (k := 1) HE9.out rfl).2
              have HDA := Lib.hid (HD9.out.alloc (.cells #[.int .i64 0, .int .i64 4] 3))
              have HEA := Lib.hid (heap_old (o := .cells #[.int .i64 0, .int .i64 4] 3) HE9.out)
              have HLA := Lib.hid (heap_new (w := w9) (o := .cells #[.int .i64 0, .int .i64 4] 3) rfl)
              have hs9 := HD9.out.on.size
              go_wp2_with fail
              refine (pick W g _ _ _ HDA.out (by omega) (by omega)).mono ?_
              rintro e w10 ⟨v10, rfl, b1, b2, b3, hd10, hon10⟩
              have HE10 := Lib.hid (hon10.blk HEA.out (by omega))
              have HL10 := Lib.hid (hon10.blk HLA.out (by omega))
              have HD10 := Lib.hid hd10; clear hd10 hon10 e0 e0' e1 e1'
              have l0 := (blk_cl (k := 0) HL10.out rfl).1
              have l1 := (blk_cl (k := 1) HL10.out rfl).1
              have hv10 : v10 = 0 ∨ v10 = 1 := by have := b2 (by omega); omega
              clear b1 b2 b3
              rcases hv10 with rfl | rfl
              · have HEB := Lib.hid (set20 (u := .int .i64 0) HE10.out)
                have HDB := Lib.hid (HD10.out.set_ (b := b) (by omega) (by omega) 0 (.int .i64 0))
                have c0 := (blk_cl (k := 0) HE10.out rfl).1
                have c0' := (blk_cl (k := 0) HE10.out rfl).2
                have e0 := (blk_cl (k := 0) HEB.out rfl).1
                have e0' := (blk_cl (k := 0) HEB.out rfl).2
                have e1 := (blk_cl (k := 1) HEB.out rfl).1
                have e1' := (blk_cl (k := 1) HEB.out rfl).2
                have HZ9 := Lib.hid (HDB.out.on.blk HZ.out (by omega))
                have z0 := (blk_cl (k := 0) HZ9.out rfl).1
                have z0' := (blk_cl (k := 0) HZ9.out rfl).2
                have z1 := (blk_cl (k := 1) HZ9.out rfl).1
                have z1' := (blk_cl (k := 1) HZ9.out rfl).2
                go_wp2_with fail
                have hres := set21 (u := .string xj) (set20 (u := .int .i64 0) HZ9.out)
                have r0 := (blk_cl (k := 0) hres rfl).1
                have r1 := (blk_cl (k := 1) hres rfl).1
                have hdr := (((HDw.out.trans HDB.out).set_ (b := w.heap.size + 2) (by omega) (by omega) 0 (.int .i64 0)).set_ (b := w.heap.size + 2) (by omega) (by omega) 1 (.string xj))
                exact bodyPost_ret (v := .agg #[.int .i64 0, .string xj]) (by simp [results, Try.results93, go_sem, r0, r1]) rfl ⟨_, _, rfl, hxj, (HD0.out.trans hdr).more (by omega), hdr.on⟩
              · have HEB := Lib.hid (set20 (u := .int .i64 4) HE10.out)
                have HDB := Lib.hid (HD10.out.set_ (b := b) (by omega) (by omega) 0 (.int .i64 4))
                have c0 := (blk_cl (k := 0) HE10.out rfl).1
                have c0' := (blk_cl (k := 0) HE10.out rfl).2
                have e0 := (blk_cl (k := 0) HEB.out rfl).1
                have e0' := (blk_cl (k := 0) HEB.out rfl).2
                have e1 := (blk_cl (k := 1) HEB.out rfl).1
                have e1' := (blk_cl (k := 1) HEB.out rfl).2
                have HZ9 := Lib.hid (HDB.out.on.blk HZ.out (by omega))
                have z0 := (blk_cl (k := 0) HZ9.out rfl).1
                have z0' := (blk_cl (k := 0) HZ9.out rfl).2
                have z1 := (blk_cl (k := 1) HZ9.out rfl).1
                have z1' := (blk_cl (k := 1) HZ9.out rfl).2
                go_wp2_with fail
                have hres := set21 (u := .string xj) (set20 (u := .int .i64 4) HZ9.out)
                have r0 := (blk_cl (k := 0) hres rfl).1
                have r1 := (blk_cl (k := 1) hres rfl).1
                have hdr := (((HDw.out.trans HDB.out).set_ (b := w.heap.size + 2) (by omega) (by omega) 0 (.int .i64 4)).set_ (b := w.heap.size + 2) (by omega) (by omega) 1 (.string xj))
                exact bodyPost_ret (v := .agg #[.int .i64 4, .string xj]) (by simp [results, Try.results93, go_sem, r0, r1]) rfl ⟨_, _, rfl, hxj, (HD0.out.trans hdr).more (by omega), hdr.on⟩
            · have hz9b : (v9 == 0) = false := by rw [beq_eq_false_iff_ne]; exact hz9
              clear hz9
              have e0 := (blk_cl (k := 0) HE9.out rfl).1
              have e0' := (blk_cl (k := 0) HE9.out rfl).2
              have e1 := (blk_cl (k := 1) HE9.out rfl).1
              have e1' := (blk_cl (k := 1) HE9.out rfl).2
              have HZ9 := Lib.hid (HD9.out.on.blk HZ.out (by omega))
              have z0 := (blk_cl (k := 0) HZ9.out rfl).1
              have z0' := (blk_cl (k := 0) HZ9.out rfl).2
              have z1 := (blk_cl (k := 1) HZ9.out rfl).1
              have z1' := (blk_cl (k := 1) HZ9.out rfl).2
              go_wp2_with fail
              have hres := set21 (u := .string xj) (set20 (u := .int .i64 3) HZ9.out)
              have r0 := (blk_cl (k := 0) hres rfl).1
              have r1 := (blk_cl (k := 1) hres rfl).1
              have hdr := (((HDw.out.trans HD9.out).set_ (b := w.heap.size + 2) (by omega) (by omega) 0 (.int .i64 3)).set_ (b := w.heap.size + 2) (by omega) (by omega) 1 (.string xj))
              exact bodyPost_ret (v := .agg #[.int .i64 3, .string xj]) (by simp [results, Try.results93, go_sem, r0, r1]) rfl ⟨_, _, rfl, hxj, (HD0.out.trans hdr).more (by omega), hdr.on⟩
          · have HE1 := Lib.hid (set20 (u := .int .i64 3) (set20 (u := .int .i64 1) HEV9.out))
            have HDY := Lib.hid ((HDX.out.set_ (b := b) (by omega) (by omega) 0 (.int .i64 1)).set_ (b := b) (by omega) (by omega) 0 (.int .i64 3))
            have f0 := (blk_cl (k := 0) (set20 (u := .int .i64 1) HEV9.out) rfl).1
            have f0' := (blk_cl (k := 0) (set20 (u := .int .i64 1) HEV9.out) rfl).2
            have e0 := (blk_cl (k := 0) HE1.out rfl).1
            have e0' := (blk_cl (k := 0) HE1.out rfl).2
            have e1 := (blk_cl (k := 1) HE1.out rfl).1
            have e1' := (blk_cl (k := 1) HE1.out rfl).2
            go_wp2_with fail
            refine (pick W g _ _ _ HDY.out (by omega) (by omega)).mono ?_
            rintro e w9 ⟨v9, rfl, a1, a2, a3, hd9, hon9⟩
            have HE9 := Lib.hid (hon9.blk HE1.out (by omega))
            have HD9 := Lib.hid hd9; clear hd9 hon9 e0 e0' e1 e1'
            by_cases hz9 : v9 = 0
            · subst hz9
              have e0 := (blk_cl (k := 0) HE9.out rfl).1
              have e0' := (blk_cl (k := 0) HE9.out rfl).2
              have e1 := (blk_cl (k := 1) HE9.out rfl).1
              have e1' := (blk_cl (k := 1) HE9.out rfl).2
              have HDA := Lib.hid (HD9.out.alloc (.cells #[.int .i64 0, .int .i64 4] 3))
              have HEA := Lib.hid (heap_old (o := .cells #[.int .i64 0, .int .i64 4] 3) HE9.out)
              have HLA := Lib.hid (heap_new (w := w9) (o := .cells #[.int .i64 0, .int .i64 4] 3) rfl)
              have hs9 := HD9.out.on.size
              go_wp2_with fail
              refine (pick W g _ _ _ HDA.out (by omega) (by omega)).mono ?_
              rintro e w10 ⟨v10, rfl, b1, b2, b3, hd10, hon10⟩
              have HE10 := Lib.hid (hon10.blk HEA.out (by omega))
              have HL10 := Lib.hid (hon10.blk HLA.out (by omega))
              have HD10 := Lib.hid hd10; clear hd10 hon10 e0 e0' e1 e1'
              have l0 := (blk_cl (k := 0) HL10.out rfl).1
              have l1 := (blk_cl (k := 1) HL10.out rfl).1
              have hv10 : v10 = 0 ∨ v10 = 1 := by have := b2 (by omega); omega
              clear b1 b2 b3
              rcases hv10 with rfl | rfl
              · have HEB := Lib.hid (set20 (u := .int .i64 0) HE10.out)
                have HDB := Lib.hid (HD10.out.set_ (b := b) (by omega) (by omega) 0 (.int .i64 0))
                have c0 := (blk_cl (k := 0) HE10.out rfl).1
                have c0' := (blk_cl (k := 0) HE10.out rfl).2
                have e0 := (blk_cl (k := 0) HEB.out rfl).1
                have e0' := (blk_cl (k := 0) HEB.out rfl).2
                have e1 := (blk_cl (k := 1) HEB.out rfl).1
                have e1' := (blk_cl (k := 1) HEB.out rfl).2
                have HZ9 := Lib.hid (HDB.out.on.blk HZ.out (by omega))
                have z0 := (blk_cl (k := 0) HZ9.out rfl).1
                have z0' := (blk_cl (k := 0) HZ9.out rfl).2
                have z1 := (blk_cl (k := 1) HZ9.out rfl).1
                have z1' := (blk_cl (k := 1) HZ9.out rfl).2
                go_wp2_with fail
                have hres := set21 (u := .string xj) (set20 (u := .int .i64 0) HZ9.out)
                have r0 := (blk_cl (k := 0) hres rfl).1
                have r1 := (blk_cl (k := 1) hres rfl).1
                have hdr := (((HDw.out.trans HDB.out).set_ (b := w.heap.size + 2) (by omega) (by omega) 0 (.int .i64 0)).set_ (b := w.heap.size + 2) (by omega) (by omega) 1 (.string xj))
                exact bodyPost_ret (v := .agg #[.int .i64 0, .string xj]) (by simp [results, Try.results93, go_sem, r0, r1]) rfl ⟨_, _, rfl, hxj, (HD0.out.trans hdr).more (by omega), hdr.on⟩
              · have HEB := Lib.hid (set20 (u := .int .i64 4) HE10.out)
                have HDB := Lib.hid (HD10.out.set_ (b := b) (by omega) (by omega) 0 (.int .i64 4))
                have c0 := (blk_cl (k := 0) HE10.out rfl).1
                have c0' := (blk_cl (k := 0) HE10.out rfl).2
                have e0 := (blk_cl (k := 0) HEB.out rfl).1
                have e0' := (blk_cl (k := 0) HEB.out rfl).2
                have e1 := (blk_cl (k := 1) HEB.out rfl).1
                have e1' := (blk_cl (k := 1) HEB.out rfl).2
                have HZ9 := Lib.hid (HDB.out.on.blk HZ.out (by omega))
                have z0 := (blk_cl (k := 0) HZ9.out rfl).1
                have z0' := (blk_cl (k := 0) HZ9.out rfl).2
                have z1 := (blk_cl (k := 1) HZ9.out rfl).1
                have z1' := (blk_cl (k := 1) HZ9.out rfl).2
                go_wp2_with fail
                have hres := set21 (u := .string xj) (set20 (u := .int .i64 4) HZ9.out)
                have r0 := (blk_cl (k := 0) hres rfl).1
                have r1 := (blk_cl (k := 1) hres rfl).1
                have hdr := (((HDw.out.trans HDB.out).set_ (b := w.heap.size + 2) (by omega) (by omega) 0 (.int .i64 4)).set_ (b := w.heap.size + 2) (by omega) (by omega) 1 (.string xj))
                exact bodyPost_ret (v := .agg #[.int .i64 4, .string xj]) (by simp [results, Try.results93, go_sem, r0, r1]) rfl ⟨_, _, rfl, hxj, (HD0.out.trans hdr).more (by omega), hdr.on⟩
            · have hz9b : (v9 == 0) = false := by rw [beq_eq_false_iff_ne]; exact hz9
              clear hz9
              have e0 := (blk_cl (k := 0) HE9.out rfl).1
              have e0' := (blk_cl (k := 0) HE9.out rfl).2
              have e1 := (blk_cl (k := 1) HE9.out rfl).1
              have e1' := (blk_cl (k := 1) HE9.out rfl).2
              have HZ9 := Lib.hid (HD9.out.on.blk HZ.out (by omega))
              have z0 := (blk_cl (k := 0) HZ9.out rfl).1
              have z0' := (blk_cl (k := 0) HZ9.out rfl).2
              have z1 := (blk_cl (k := 1) HZ9.out rfl).1
              have z1' := (blk_cl (k := 1) HZ9.out rfl).2
              go_wp2_with fail
              have hres := set21 (u := .string xj) (set20 (u := .int .i64 3) HZ9.out)
              have r0 := (blk_cl (k := 0) hres rfl).1
              have r1 := (blk_cl (k := 1) hres rfl).1
              have hdr := (((HDw.out.trans HD9.out).set_ (b := w.heap.size + 2) (by omega) (by omega) 0 (.int .i64 3)).set_ (b := w.heap.size + 2) (by omega) (by omega) 1 (.string xj))
              exact bodyPost_ret (v := .agg #[.int .i64 3, .string xj]) (by simp [results, Try.results93, go_sem, r0, r1]) rfl ⟨_, _, rfl, hxj, (HD0.out.trans hdr).more (by omega), hdr.on⟩
          · have HE1 := Lib.hid (set20 (u := .int .i64 3) (set20 (u := .int .i64 2) HEV9.out))
            have HDY := Lib.hid ((HDX.out.set_ (b := b) (by omega) (by omega) 0 (.int .i64 2)).set_ (b := b) (by omega) (by omega) 0 (.int .i64 3))
            have f0 := (blk_cl (k := 0) (set20 (u := .int .i64 2) HEV9.out) rfl).1
            have f0' := (blk_cl (k := 0) (set20 (u := .int .i64 2) HEV9.out) rfl).2
            have e0 := (blk_cl (k := 0) HE1.out rfl).1
            have e0' := (blk_cl (k := 0) HE1.out rfl).2
            have e1 := (blk_cl (k := 1) HE1.out rfl).1
            have e1' := (blk_cl (k := 1) HE1.out rfl).2
            go_wp2_with fail
            refine (pick W g _ _ _ HDY.out (by omega) (by omega)).mono ?_
            rintro e w9 ⟨v9, rfl, a1, a2, a3, hd9, hon9⟩
            have HE9 := Lib.hid (hon9.blk HE1.out (by omega))
            have HD9 := Lib.hid hd9; clear hd9 hon9 e0 e0' e1 e1'
            by_cases hz9 : v9 = 0
            · subst hz9
              have e0 := (blk_cl (k := 0) HE9.out rfl).1
              have e0' := (blk_cl (k := 0) HE9.out rfl).2
              have e1 := (blk_cl (k := 1) HE9.out rfl).1
              have e1' := (blk_cl (k := 1) HE9.out rfl).2
              have HDA := Lib.hid (HD9.out.alloc (.cells #[.int .i64 0, .int .i64 4] 3))
              have HEA := Lib.hid (heap_old (o := .cells #[.int .i64 0, .int .i64 4] 3) HE9.out)
              have HLA := Lib.hid (heap_new (w := w9) (o := .cells #[.int .i64 0, .int .i64 4] 3) rfl)
              have hs9 := HD9.out.on.size
              go_wp2_with fail
              refine (pick W g _ _ _ HDA.out (by omega) (by omega)).mono ?_
              rintro e w10 ⟨v10, rfl, b1, b2, b3, hd10, hon10⟩
              have HE10 := Lib.hid (hon10.blk HEA.out (by omega))
              have HL10 := Lib.hid (hon10.blk HLA.out (by omega))
              have HD10 := Lib.hid hd10; clear hd10 hon10 e0 e0' e1 e1'
              have l0 := (blk_cl (k := 0) HL10.out rfl).1
              have l1 := (blk_cl (k := 1) HL10.out rfl).1
              have hv10 : v10 = 0 ∨ v10 = 1 := by have := b2 (by omega); omega
              clear b1 b2 b3
              rcases hv10 with rfl | rfl
              · have HEB := Lib.hid (set20 (u := .int .i64 0) HE10.out)
                have HDB := Lib.hid (HD10.out.set_ (b := b) (by omega) (by omega) 0 (.int .i64 0))
                have c0 := (blk_cl (k := 0) HE10.out rfl).1
                have c0' := (blk_cl (k := 0) HE10.out rfl).2
                have e0 := (blk_cl (k := 0) HEB.out rfl).1
                have e0' := (blk_cl (k := 0) HEB.out rfl).2
                have e1 := (blk_cl (k := 1) HEB.out rfl).1
                have e1' := (blk_cl (k := 1) HEB.out rfl).2
                have HZ9 := Lib.hid (HDB.out.on.blk HZ.out (by omega))
                have z0 := (blk_cl (k := 0) HZ9.out rfl).1
                have z0' := (blk_cl (k := 0) HZ9.out rfl).2
                have z1 := (blk_cl (k := 1) HZ9.out rfl).1
                have z1' := (blk_cl (k := 1) HZ9.out rfl).2
                go_wp2_with fail
                have hres := set21 (u := .string xj) (set20 (u := .int .i64 0) HZ9.out)
                have r0 := (blk_cl (k := 0) hres rfl).1
                have r1 := (blk_cl (k := 1) hres rfl).1
                have hdr := (((HDw.out.trans HDB.out).set_ (b := w.heap.size + 2) (by omega) (by omega) 0 (.int .i64 0)).set_ (b := w.heap.size + 2) (by omega) (by omega) 1 (.string xj))
                exact bodyPost_ret (v := .agg #[.int .i64 0, .string xj]) (by simp [results, Try.results93, go_sem, r0, r1]) rfl ⟨_, _, rfl, hxj, (HD0.out.trans hdr).more (by omega), hdr.on⟩
              · have HEB := Lib.hid (set20 (u := .int .i64 4) HE10.out)
                have HDB := Lib.hid (HD10.out.set_ (b := b) (by omega) (by omega) 0 (.int .i64 4))
                have c0 := (blk_cl (k := 0) HE10.out rfl).1
                have c0' := (blk_cl (k := 0) HE10.out rfl).2
                have e0 := (blk_cl (k := 0) HEB.out rfl).1
                have e0' := (blk_cl (k := 0) HEB.out rfl).2
                have e1 := (blk_cl (k := 1) HEB.out rfl).1
                have e1' := (blk_cl (k := 1) HEB.out rfl).2
                have HZ9 := Lib.hid (HDB.out.on.blk HZ.out (by omega))
                have z0 := (blk_cl (k := 0) HZ9.out rfl).1
                have z0' := (blk_cl (k := 0) HZ9.out rfl).2
                have z1 := (blk_cl (k := 1) HZ9.out rfl).1
                have z1' := (blk_cl (k := 1) HZ9.out rfl).2
                go_wp2_with fail
                have hres := set21 (u := .string xj) (set20 (u := .int .i64 4) HZ9.out)
                have r0 := (blk_cl (k := 0) hres rfl).1
                have r1 := (blk_cl (k := 1) hres rfl).1
                have hdr := (((HDw.out.trans HDB.out).set_ (b := w.heap.size + 2) (by omega) (by omega) 0 (.int .i64 4)).set_ (b := w.heap.size + 2) (by omega) (by omega) 1 (.string xj))
                exact bodyPost_ret (v := .agg #[.int .i64 4, .string xj]) (by simp [results, Try.results93, go_sem, r0, r1]) rfl ⟨_, _, rfl, hxj, (HD0.out.trans hdr).more (by omega), hdr.on⟩
            · have hz9b : (v9 == 0) = false := by rw [beq_eq_false_iff_ne]; exact hz9
              clear hz9
              have e0 := (blk_cl (k := 0) HE9.out rfl).1
              have e0' := (blk_cl (k := 0) HE9.out rfl).2
              have e1 := (blk_cl (k := 1) HE9.out rfl).1
              have e1' := (blk_cl (k := 1) HE9.out rfl).2
              have HZ9 := Lib.hid (HD9.out.on.blk HZ.out (by omega))
              have z0 := (blk_cl (k := 0) HZ9.out rfl).1
              have z0' := (blk_cl (k := 0) HZ9.out rfl).2
              have z1 := (blk_cl (k := 1) HZ9.out rfl).1
              have z1' := (blk_cl (k := 1) HZ9.out rfl).2
              go_wp2_with fail
              have hres := set21 (u := .string xj) (set20 (u := .int .i64 3) HZ9.out)
              have r0 := (blk_cl (k := 0) hres rfl).1
              have r1 := (blk_cl (k := 1) hres rfl).1
              have hdr := (((HDw.out.trans HD9.out).set_ (b := w.heap.size + 2) (by omega) (by omega) 0 (.int .i64 3)).set_ (b := w.heap.size + 2) (by omega) (by omega) 1 (.string xj))
              exact bodyPost_ret (v := .agg #[.int .i64 3, .string xj]) (by simp [results, Try.results93, go_sem, r0, r1]) rfl ⟨_, _, rfl, hxj, (HD0.out.trans hdr).more (by omega), hdr.on⟩
        · have hq1 : (st == 1) = false := by rw [beq_eq_false_iff_ne]; exact h1
          rcases hv8 with rfl | rfl | rfl
          · have HE1 := Lib.hid (set20 (u := .int .i64 1) HEV9.out)
            have HDY := Lib.hid (HDX.out.set_ (b := b) (by omega) (by omega) 0 (.int .i64 1))
            have e0 := (blk_cl (k := 0) HE1.out rfl).1
            have e0' := (blk_cl (k := 0) HE1.out rfl).2
            have e1 := (blk_cl (k := 1) HE1.out rfl).1
            have e1' := (blk_cl (k := 1) HE1.out rfl).2
            go_wp2_with fail
            refine (pick W g _ _ _ HDY.out (by omega) (by omega)).mono ?_
            rintro e w9 ⟨v9, rfl, a1, a2, a3, hd9, hon9⟩
            have HE9 := Lib.hid (hon9.blk HE1.out (by omega))
            have HD9 := Lib.hid hd9; clear hd9 hon9 e0 e0' e1 e1'
            by_cases hz9 : v9 = 0
            · subst hz9
              have e0 := (blk_cl (k := 0) HE9.out rfl).1
              have e0' := (blk_cl (k := 0) HE9.out rfl).2
              have e1 := (blk_cl (k := 1) HE9.out rfl).1
              have e1' := (blk_cl (k := 1) HE9.out rfl).2
              have HDA := Lib.hid (HD9.out.alloc (.cells #[.int .i64 0, .int .i64 4] 3))
              have HEA := Lib.hid (heap_old (o := .cells #[.int .i64 0, .int .i64 4] 3) HE9.out)
              have HLA := Lib.hid (heap_new (w := w9) (o := .cells #[.int .i64 0, .int .i64 4] 3) rfl)
              have hs9 := HD9.out.on.size
              go_wp2_with fail
              refine (pick W g _ _ _ HDA.out (by omega) (by omega)).mono ?_
              rintro e w10 ⟨v10, rfl, b1, b2, b3, hd10, hon10⟩
              have HE10 := Lib.hid (hon10.blk HEA.out (by omega))
              have HL10 := Lib.hid (hon10.blk HLA.out (by omega))
              have HD10 := Lib.hid hd10; clear hd10 hon10 e0 e0' e1 e1'
              have l0 := (blk_cl (k := 0) HL10.out rfl).1
              have l1 := (blk_cl (k := 1) HL10.out rfl).1
              have hv10 : v10 = 0 ∨ v10 = 1 := by have := b2 (by omega); omega
              clear b1 b2 b3
              rcases hv10 with rfl | rfl
              · have HEB := Lib.hid (set20 (u := .int .i64 0) HE10.out)
                have HDB := Lib.hid (HD10.out.set_ (b := b) (by omega) (by omega) 0 (.int .i64 0))
                have c0 := (blk_cl (k := 0) HE10.out rfl).1
                have c0' := (blk_cl (k := 0) HE10.out rfl).2
                have e0 := (blk_cl (k := 0) HEB.out rfl).1
                have e0' := (blk_cl (k := 0) HEB.out rfl).2
                have e1 := (blk_cl (k := 1) HEB.out rfl).1
                have e1' := (blk_cl (k := 1) HEB.out rfl).2
                have HZ9 := Lib.hid (HDB.out.on.blk HZ.out (by omega))
                have z0 := (blk_cl (k := 0) HZ9.out rfl).1
                have z0' := (blk_cl (k := 0) HZ9.out rfl).2
                have z1 := (blk_cl (k := 1) HZ9.out rfl).1
                have z1' := (blk_cl (k := 1) HZ9.out rfl).2
                go_wp2_with fail
                have hres := set21 (u := .string xj) (set20 (u := .int .i64 0) HZ9.out)
                have r0 := (blk_cl (k := 0) hres rfl).1
                have r1 := (blk_cl (k := 1) hres rfl).1
                have hdr := (((HDw.out.trans HDB.out).set_ (b := w.heap.size + 2) (by omega) (by omega) 0 (.int .i64 0)).set_ (b := w.heap.size + 2) (by omega) (by omega) 1 (.string xj))
                exact bodyPost_ret (v := .agg #[.int .i64 0, .string xj]) (by simp [results, Try.results93, go_sem, r0, r1]) rfl ⟨_, _, rfl, hxj, (HD0.out.trans hdr).more (by omega), hdr.on⟩
              · have HEB := Lib.hid (set20 (u := .int .i64 4) HE10.out)
                have HDB := Lib.hid (HD10.out.set_ (b := b) (by omega) (by omega) 0 (.int .i64 4))
                have c0 := (blk_cl (k := 0) HE10.out rfl).1
                have c0' := (blk_cl (k := 0) HE10.out rfl).2
                have e0 := (blk_cl (k := 0) HEB.out rfl).1
                have e0' := (blk_cl (k := 0) HEB.out rfl).2
                have e1 := (blk_cl (k := 1) HEB.out rfl).1
                have e1' := (blk_cl (k := 1) HEB.out rfl).2
                have HZ9 := Lib.hid (HDB.out.on.blk HZ.out (by omega))
                have z0 := (blk_cl (k := 0) HZ9.out rfl).1
                have z0' := (blk_cl (k := 0) HZ9.out rfl).2
                have z1 := (blk_cl (k := 1) HZ9.out rfl).1
                have z1' := (blk_cl (k := 1) HZ9.out rfl).2
                go_wp2_with fail
                have hres := set21 (u := .string xj) (set20 (u := .int .i64 4) HZ9.out)
                have r0 := (blk_cl (k := 0) hres rfl).1
                have r1 := (blk_cl (k := 1) hres rfl).1
                have hdr := (((HDw.out.trans HDB.out).set_ (b := w.heap.size + 2) (by omega) (by omega) 0 (.int .i64 4)).set_ (b := w.heap.size + 2) (by omega) (by omega) 1 (.string xj))
                exact bodyPost_ret (v := .agg #[.int .i64 4, .string xj]) (by simp [results, Try.results93, go_sem, r0, r1]) rfl ⟨_, _, rfl, hxj, (HD0.out.trans hdr).more (by omega), hdr.on⟩
            · have hz9b : (v9 == 0) = false := by rw [beq_eq_false_iff_ne]; exact hz9
              clear hz9
              have e0 := (blk_cl (k := 0) HE9.out rfl).1
              have e0' := (blk_cl (k := 0) HE9.out rfl).2
              have e1 := (blk_cl (k := 1) HE9.out rfl).1
              have e1' := (blk_cl (k := 1) HE9.out rfl).2
              have HZ9 := Lib.hid (HD9.out.on.blk HZ.out (by omega))
              have z0 := (blk_cl (k := 0) HZ9.out rfl).1
              have z0' := (blk_cl (k := 0) HZ9.out rfl).2
              have z1 := (blk_cl (k := 1) HZ9.out rfl).1
              have z1' := (blk_cl (k := 1) HZ9.out rfl).2
              go_wp2_with fail
              have hres := set21 (u := .string xj) (set20 (u := .int .i64 1) HZ9.out)
              have r0 := (blk_cl (k := 0) hres rfl).1
              have r1 := (blk_cl (k := 1) hres rfl).1
              have hdr := (((HDw.out.trans HD9.out).set_ (b := w.heap.size + 2) (by omega) (by omega) 0 (.int .i64 1)).set_ (b := w.heap.size + 2) (by omega) (by omega) 1 (.string xj))
              exact bodyPost_ret (v := .agg #[.int .i64 1, .string xj]) (by simp [results, Try.results93, go_sem, r0, r1]) rfl ⟨_, _, rfl, hxj, (HD0.out.trans hdr).more (by omega), hdr.on⟩
          · have HE1 := Lib.hid (set20 (u := .int .i64 1) HEV9.out)
            have HDY := Lib.hid (HDX.out.set_ (b := b) (by omega) (by omega) 0 (.int .i64 1))
            have e0 := (blk_cl (k := 0) HE1.out rfl).1
            have e0' := (blk_cl (k := 0) HE1.out rfl).2
            have e1 := (blk_cl (k := 1) HE1.out rfl).1
            have e1' := (blk_cl (k := 1) HE1.out rfl).2
            go_wp2_with fail
            refine (pick W g _ _ _ HDY.out (by omega) (by omega)).mono ?_
            rintro e w9 ⟨v9, rfl, a1, a2, a3, hd9, hon9⟩
            have HE9 := Lib.hid (hon9.blk HE1.out (by omega))
            have HD9 := Lib.hid hd9; clear hd9 hon9 e0 e0' e1 e1'
            by_cases hz9 : v9 = 0
            · subst hz9
              have e0 := (blk_cl (k := 0) HE9.out rfl).1
              have e0' := (blk_cl (k := 0) HE9.out rfl).2
              have e1 := (blk_cl (k := 1) HE9.out rfl).1
              have e1' := (blk_cl (k := 1) HE9.out rfl).2
              have HDA := Lib.hid (HD9.out.alloc (.cells #[.int .i64 0, .int .i64 4] 3))
              have HEA := Lib.hid (heap_old (o := .cells #[.int .i64 0, .int .i64 4] 3) HE9.out)
              have HLA := Lib.hid (heap_new (w := w9) (o := .cells #[.int .i64 0, .int .i64 4] 3) rfl)
              have hs9 := HD9.out.on.size
              go_wp2_with fail
              refine (pick W g _ _ _ HDA.out (by omega) (by omega)).mono ?_
              rintro e w10 ⟨v10, rfl, b1, b2, b3, hd10, hon10⟩
              have HE10 := Lib.hid (hon10.blk HEA.out (by omega))
              have HL10 := Lib.hid (hon10.blk HLA.out (by omega))
              have HD10 := Lib.hid hd10; clear hd10 hon10 e0 e0' e1 e1'
              have l0 := (blk_cl (k := 0) HL10.out rfl).1
              have l1 := (blk_cl (k := 1) HL10.out rfl).1
              have hv10 : v10 = 0 ∨ v10 = 1 := by have := b2 (by omega); omega
              clear b1 b2 b3
              rcases hv10 with rfl | rfl
              · have HEB := Lib.hid (set20 (u := .int .i64 0) HE10.out)
                have HDB := Lib.hid (HD10.out.set_ (b := b) (by omega) (by omega) 0 (.int .i64 0))
                have c0 := (blk_cl (k := 0) HE10.out rfl).1
                have c0' := (blk_cl (k := 0) HE10.out rfl).2
                have e0 := (blk_cl (k := 0) HEB.out rfl).1
                have e0' := (blk_cl (k := 0) HEB.out rfl).2
                have e1 := (blk_cl (k := 1) HEB.out rfl).1
                have e1' := (blk_cl (k := 1) HEB.out rfl).2
                have HZ9 := Lib.hid (HDB.out.on.blk HZ.out (by omega))
                have z0 := (blk_cl (k := 0) HZ9.out rfl).1
                have z0' := (blk_cl (k := 0) HZ9.out rfl).2
                have z1 := (blk_cl (k := 1) HZ9.out rfl).1
                have z1' := (blk_cl (k := 1) HZ9.out rfl).2
                go_wp2_with fail
                have hres := set21 (u := .string xj) (set20 (u := .int .i64 0) HZ9.out)
                have r0 := (blk_cl (k := 0) hres rfl).1
                have r1 := (blk_cl (k := 1) hres rfl).1
                have hdr := (((HDw.out.trans HDB.out).set_ (b := w.heap.size + 2) (by omega) (by omega) 0 (.int .i64 0)).set_ (b := w.heap.size + 2) (by omega) (by omega) 1 (.string xj))
                exact bodyPost_ret (v := .agg #[.int .i64 0, .string xj]) (by simp [results, Try.results93, go_sem, r0, r1]) rfl ⟨_, _, rfl, hxj, (HD0.out.trans hdr).more (by omega), hdr.on⟩
              · have HEB := Lib.hid (set20 (u := .int .i64 4) HE10.out)
                have HDB := Lib.hid (HD10.out.set_ (b := b) (by omega) (by omega) 0 (.int .i64 4))
                have c0 := (blk_cl (k := 0) HE10.out rfl).1
                have c0' := (blk_cl (k := 0) HE10.out rfl).2
                have e0 := (blk_cl (k := 0) HEB.out rfl).1
                have e0' := (blk_cl (k := 0) HEB.out rfl).2
                have e1 := (blk_cl (k := 1) HEB.out rfl).1
                have e1' := (blk_cl (k := 1) HEB.out rfl).2
                have HZ9 := Lib.hid (HDB.out.on.blk HZ.out (by omega))
                have z0 := (blk_cl (k := 0) HZ9.out rfl).1
                have z0' := (blk_cl (k := 0) HZ9.out rfl).2
                have z1 := (blk_cl (k := 1) HZ9.out rfl).1
                have z1' := (blk_cl (k := 1) HZ9.out rfl).2
                go_wp2_with fail
                have hres := set21 (u := .string xj) (set20 (u := .int .i64 4) HZ9.out)
                have r0 := (blk_cl (k := 0) hres rfl).1
                have r1 := (blk_cl (k := 1) hres rfl).1
                have hdr := (((HDw.out.trans HDB.out).set_ (b := w.heap.size + 2) (by omega) (by omega) 0 (.int .i64 4)).set_ (b := w.heap.size + 2) (by omega) (by omega) 1 (.string xj))
                exact bodyPost_ret (v := .agg #[.int .i64 4, .string xj]) (by simp [results, Try.results93, go_sem, r0, r1]) rfl ⟨_, _, rfl, hxj, (HD0.out.trans hdr).more (by omega), hdr.on⟩
            · have hz9b : (v9 == 0) = false := by rw [beq_eq_false_iff_ne]; exact hz9
              clear hz9
              have e0 := (blk_cl (k := 0) HE9.out rfl).1
              have e0' := (blk_cl (k := 0) HE9.out rfl).2
              have e1 := (blk_cl (k := 1) HE9.out rfl).1
              have e1' := (blk_cl (k := 1) HE9.out rfl).2
              have HZ9 := Lib.hid (HD9.out.on.blk HZ.out (by omega))
              have z0 := (blk_cl (k := 0) HZ9.out rfl).1
              have z0' := (blk_cl (k := 0) HZ9.out rfl).2
              have z1 := (blk_cl (k := 1) HZ9.out rfl).1
              have z1' := (blk_cl (k := 1) HZ9.out rfl).2
              go_wp2_with fail
              have hres := set21 (u := .string xj) (set20 (u := .int .i64 1) HZ9.out)
              have r0 := (blk_cl (k := 0) hres rfl).1
              have r1 := (blk_cl (k := 1) hres rfl).1
              have hdr := (((HDw.out.trans HD9.out).set_ (b := w.heap.size + 2) (by omega) (by omega) 0 (.int .i64 1)).set_ (b := w.heap.size + 2) (by omega) (by omega) 1 (.string xj))
              exact bodyPost_ret (v := .agg #[.int .i64 1, .string xj]) (by simp [results, Try.results93, go_sem, r0, r1]) rfl ⟨_, _, rfl, hxj, (HD0.out.trans hdr).more (by omega), hdr.on⟩
          · have HE1 := Lib.hid (set20 (u := .int .i64 2) HEV9.out)
            have HDY := Lib.hid (HDX.out.set_ (b := b) (by omega) (by omega) 0 (.int .i64 2))
            have e0 := (blk_cl (k := 0) HE1.out rfl).1
            have e0' := (blk_cl (k := 0) HE1.out rfl).2
            have e1 := (blk_cl (k := 1) HE1.out rfl).1
            have e1' := (blk_cl (k := 1) HE1.out rfl).2
            go_wp2_with fail
            refine (pick W g _ _ _ HDY.out (by omega) (by omega)).mono ?_
            rintro e w9 ⟨v9, rfl, a1, a2, a3, hd9, hon9⟩
            have HE9 := Lib.hid (hon9.blk HE1.out (by omega))
            have HD9 := Lib.hid hd9; clear hd9 hon9 e0 e0' e1 e1'
            by_cases hz9 : v9 = 0
            · subst hz9
              have e0 := (blk_cl (k := 0) HE9.out rfl).1
              have e0' := (blk_cl (k := 0) HE9.out rfl).2
              have e1 := (blk_cl (k := 1) HE9.out rfl).1
              have e1' := (blk_cl (k := 1) HE9.out rfl).2
              have HDA := Lib.hid (HD9.out.alloc (.cells #[.int .i64 0, .int .i64 4] 3))
              have HEA := Lib.hid (heap_old (o := .cells #[.int .i64 0, .int .i64 4] 3) HE9.out)
              have HLA := Lib.hid (heap_new (w := w9) (o := .cells #[.int .i64 0, .int .i64 4] 3) rfl)
              have hs9 := HD9.out.on.size
              go_wp2_with fail
              refine (pick W g _ _ _ HDA.out (by omega) (by omega)).mono ?_
              rintro e w10 ⟨v10, rfl, b1, b2, b3, hd10, hon10⟩
              have HE10 := Lib.hid (hon10.blk HEA.out (by omega))
              have HL10 := Lib.hid (hon10.blk HLA.out (by omega))
              have HD10 := Lib.hid hd10; clear hd10 hon10 e0 e0' e1 e1'
              have l0 := (blk_cl (k := 0) HL10.out rfl).1
              have l1 := (blk_cl (k := 1) HL10.out rfl).1
              have hv10 : v10 = 0 ∨ v10 = 1 := by have := b2 (by omega); omega
              clear b1 b2 b3
              rcases hv10 with rfl | rfl
              · have HEB := Lib.hid (set20 (u := .int .i64 0) HE10.out)
                have HDB := Lib.hid (HD10.out.set_ (b := b) (by omega) (by omega) 0 (.int .i64 0))
                have c0 := (blk_cl (k := 0) HE10.out rfl).1
                have c0' := (blk_cl (k := 0) HE10.out rfl).2
                have e0 := (blk_cl (k := 0) HEB.out rfl).1
                have e0' := (blk_cl (k := 0) HEB.out rfl).2
                have e1 := (blk_cl (k := 1) HEB.out rfl).1
                have e1' := (blk_cl (k := 1) HEB.out rfl).2
                have HZ9 := Lib.hid (HDB.out.on.blk HZ.out (by omega))
                have z0 := (blk_cl (k := 0) HZ9.out rfl).1
                have z0' := (blk_cl (k := 0) HZ9.out rfl).2
                have z1 := (blk_cl (k := 1) HZ9.out rfl).1
                have z1' := (blk_cl (k := 1) HZ9.out rfl).2
                go_wp2_with fail
                have hres := set21 (u := .string xj) (set20 (u := .int .i64 0) HZ9.out)
                have r0 := (blk_cl (k := 0) hres rfl).1
                have r1 := (blk_cl (k := 1) hres rfl).1
                have hdr := (((HDw.out.trans HDB.out).set_ (b := w.heap.size + 2) (by omega) (by omega) 0 (.int .i64 0)).set_ (b := w.heap.size + 2) (by omega) (by omega) 1 (.string xj))
                exact bodyPost_ret (v := .agg #[.int .i64 0, .string xj]) (by simp [results, Try.results93, go_sem, r0, r1]) rfl ⟨_, _, rfl, hxj, (HD0.out.trans hdr).more (by omega), hdr.on⟩
              · have HEB := Lib.hid (set20 (u := .int .i64 4) HE10.out)
                have HDB := Lib.hid (HD10.out.set_ (b := b) (by omega) (by omega) 0 (.int .i64 4))
                have c0 := (blk_cl (k := 0) HE10.out rfl).1
                have c0' := (blk_cl (k := 0) HE10.out rfl).2
                have e0 := (blk_cl (k := 0) HEB.out rfl).1
                have e0' := (blk_cl (k := 0) HEB.out rfl).2
                have e1 := (blk_cl (k := 1) HEB.out rfl).1
                have e1' := (blk_cl (k := 1) HEB.out rfl).2
                have HZ9 := Lib.hid (HDB.out.on.blk HZ.out (by omega))
                have z0 := (blk_cl (k := 0) HZ9.out rfl).1
                have z0' := (blk_cl (k := 0) HZ9.out rfl).2
                have z1 := (blk_cl (k := 1) HZ9.out rfl).1
                have z1' := (blk_cl (k := 1) HZ9.out rfl).2
                go_wp2_with fail
                have hres := set21 (u := .string xj) (set20 (u := .int .i64 4) HZ9.out)
                have r0 := (blk_cl (k := 0) hres rfl).1
                have r1 := (blk_cl (k := 1) hres rfl).1
                have hdr := (((HDw.out.trans HDB.out).set_ (b := w.heap.size + 2) (by omega) (by omega) 0 (.int .i64 4)).set_ (b := w.heap.size + 2) (by omega) (by omega) 1 (.string xj))
                exact bodyPost_ret (v := .agg #[.int .i64 4, .string xj]) (by simp [results, Try.results93, go_sem, r0, r1]) rfl ⟨_, _, rfl, hxj, (HD0.out.trans hdr).more (by omega), hdr.on⟩
            · have hz9b : (v9 == 0) = false := by rw [beq_eq_false_iff_ne]; exact hz9
              clear hz9
              have e0 := (blk_cl (k := 0) HE9.out rfl).1
              have e0' := (blk_cl (k := 0) HE9.out rfl).2
              have e1 := (blk_cl (k := 1) HE9.out rfl).1
              have e1' := (blk_cl (k := 1) HE9.out rfl).2
              have HZ9 := Lib.hid (HD9.out.on.blk HZ.out (by omega))
              have z0 := (blk_cl (k := 0) HZ9.out rfl).1
              have z0' := (blk_cl (k := 0) HZ9.out rfl).2
              have z1 := (blk_cl (k := 1) HZ9.out rfl).1
              have z1' := (blk_cl (k := 1) HZ9.out rfl).2
              go_wp2_with fail
              have hres := set21 (u := .string xj) (set20 (u := .int .i64 2) HZ9.out)
              have r0 := (blk_cl (k := 0) hres rfl).1
              have r1 := (blk_cl (k := 1) hres rfl).1
              have hdr := (((HDw.out.trans HD9.out).set_ (b := w.heap.size + 2) (by omega) (by omega) 0 (.int .i64 2)).set_ (b := w.heap.size + 2) (by omega) (by omega) 1 (.string xj))
              exact bodyPost_ret (v := .agg #[.int .i64 2, .string xj]) (by simp [results, Try.results93, go_sem, r0, r1]) rfl ⟨_, _, rfl, hxj, (HD0.out.trans hdr).more (by omega), hdr.on⟩
      · have hz6 : ¬ (0 < v6) := hv6
        have e0 := (blk_cl (k := 0) HEV6.out rfl).1
        have e0' := (blk_cl (k := 0) HEV6.out rfl).2
        have e1 := (blk_cl (k := 1) HEV6.out rfl).1
        have e1' := (blk_cl (k := 1) HEV6.out rfl).2
        go_wp2_with fail
        refine (pick W g _ _ _ HD6.out (by omega) (by omega)).mono ?_
        rintro e w9 ⟨v9, rfl, a1, a2, a3, hd9, hon9⟩
        have HE9 := Lib.hid (hon9.blk HEV6.out (by omega))
        have HD9 := Lib.hid hd9; clear hd9 hon9 e0 e0' e1 e1'
        by_cases hz9 : v9 = 0
        · subst hz9
          have e0 := (blk_cl (k := 0) HE9.out rfl).1
          have e0' := (blk_cl (k := 0) HE9.out rfl).2
          have e1 := (blk_cl (k := 1) HE9.out rfl).1
          have e1' := (blk_cl (k := 1) HE9.out rfl).2
          have HDA := Lib.hid (HD9.out.alloc (.cells #[.int .i64 0, .int .i64 4] 3))
          have HEA := Lib.hid (heap_old (o := .cells #[.int .i64 0, .int .i64 4] 3) HE9.out)
          have HLA := Lib.hid (heap_new (w := w9) (o := .cells #[.int .i64 0, .int .i64 4] 3) rfl)
          have hs9 := HD9.out.on.size
          go_wp2_with fail
          refine (pick W g _ _ _ HDA.out (by omega) (by omega)).mono ?_
          rintro e w10 ⟨v10, rfl, b1, b2, b3, hd10, hon10⟩
          have HE10 := Lib.hid (hon10.blk HEA.out (by omega))
          have HL10 := Lib.hid (hon10.blk HLA.out (by omega))
          have HD10 := Lib.hid hd10; clear hd10 hon10 e0 e0' e1 e1'
          have l0 := (blk_cl (k := 0) HL10.out rfl).1
          have l1 := (blk_cl (k := 1) HL10.out rfl).1
          have hv10 : v10 = 0 ∨ v10 = 1 := by have := b2 (by omega); omega
          clear b1 b2 b3
          rcases hv10 with rfl | rfl
          · have HEB := Lib.hid (set20 (u := .int .i64 0) HE10.out)
            have HDB := Lib.hid (HD10.out.set_ (b := b) (by omega) (by omega) 0 (.int .i64 0))
            have c0 := (blk_cl (k := 0) HE10.out rfl).1
            have c0' := (blk_cl (k := 0) HE10.out rfl).2
            have e0 := (blk_cl (k := 0) HEB.out rfl).1
            have e0' := (blk_cl (k := 0) HEB.out rfl).2
            have e1 := (blk_cl (k := 1) HEB.out rfl).1
            have e1' := (blk_cl (k := 1) HEB.out rfl).2
            have HZ9 := Lib.hid (HDB.out.on.blk HZ.out (by omega))
            have z0 := (blk_cl (k := 0) HZ9.out rfl).1
            have z0' := (blk_cl (k := 0) HZ9.out rfl).2
            have z1 := (blk_cl (k := 1) HZ9.out rfl).1
            have z1' := (blk_cl (k := 1) HZ9.out rfl).2
            go_wp2_with fail
            have hres := set21 (u := .string x) (set20 (u := .int .i64 0) HZ9.out)
            have r0 := (blk_cl (k := 0) hres rfl).1
            have r1 := (blk_cl (k := 1) hres rfl).1
            have hdr := (((HDw.out.trans HDB.out).set_ (b := w.heap.size + 2) (by omega) (by omega) 0 (.int .i64 0)).set_ (b := w.heap.size + 2) (by omega) (by omega) 1 (.string x))
            exact bodyPost_ret (v := .agg #[.int .i64 0, .string x]) (by simp [results, Try.results93, go_sem, r0, r1]) rfl ⟨_, _, rfl, hxs, (HD0.out.trans hdr).more (by omega), hdr.on⟩
          · have HEB := Lib.hid (set20 (u := .int .i64 4) HE10.out)
            have HDB := Lib.hid (HD10.out.set_ (b := b) (by omega) (by omega) 0 (.int .i64 4))
            have c0 := (blk_cl (k := 0) HE10.out rfl).1
            have c0' := (blk_cl (k := 0) HE10.out rfl).2
            have e0 := (blk_cl (k := 0) HEB.out rfl).1
            have e0' := (blk_cl (k := 0) HEB.out rfl).2
            have e1 := (blk_cl (k := 1) HEB.out rfl).1
            have e1' := (blk_cl (k := 1) HEB.out rfl).2
            have HZ9 := Lib.hid (HDB.out.on.blk HZ.out (by omega))
            have z0 := (blk_cl (k := 0) HZ9.out rfl).1
            have z0' := (blk_cl (k := 0) HZ9.out rfl).2
            have z1 := (blk_cl (k := 1) HZ9.out rfl).1
            have z1' := (blk_cl (k := 1) HZ9.out rfl).2
            go_wp2_with fail
            have hres := set21 (u := .string x) (set20 (u := .int .i64 4) HZ9.out)
            have r0 := (blk_cl (k := 0) hres rfl).1
            have r1 := (blk_cl (k := 1) hres rfl).1
            have hdr := (((HDw.out.trans HDB.out).set_ (b := w.heap.size + 2) (by omega) (by omega) 0 (.int .i64 4)).set_ (b := w.heap.size + 2) (by omega) (by omega) 1 (.string x))
            exact bodyPost_ret (v := .agg #[.int .i64 4, .string x]) (by simp [results, Try.results93, go_sem, r0, r1]) rfl ⟨_, _, rfl, hxs, (HD0.out.trans hdr).more (by omega), hdr.on⟩
        · have hz9b : (v9 == 0) = false := by rw [beq_eq_false_iff_ne]; exact hz9
          clear hz9
          have e0 := (blk_cl (k := 0) HE9.out rfl).1
          have e0' := (blk_cl (k := 0) HE9.out rfl).2
          have e1 := (blk_cl (k := 1) HE9.out rfl).1
          have e1' := (blk_cl (k := 1) HE9.out rfl).2
          have HZ9 := Lib.hid (HD9.out.on.blk HZ.out (by omega))
          have z0 := (blk_cl (k := 0) HZ9.out rfl).1
          have z0' := (blk_cl (k := 0) HZ9.out rfl).2
          have z1 := (blk_cl (k := 1) HZ9.out rfl).1
          have z1' := (blk_cl (k := 1) HZ9.out rfl).2
          go_wp2_with fail
          have hres := set21 (u := .string x) (set20 (u := .int .i64 k) HZ9.out)
          have r0 := (blk_cl (k := 0) hres rfl).1
          have r1 := (blk_cl (k := 1) hres rfl).1
          have hdr := (((HDw.out.trans HD9.out).set_ (b := w.heap.size + 2) (by omega) (by omega) 0 (.int .i64 k)).set_ (b := w.heap.size + 2) (by omega) (by omega) 1 (.string x))
          exact bodyPost_ret (v := .agg #[.int .i64 k, .string x]) (by simp [results, Try.results93, go_sem, r0, r1]) rfl ⟨_, _, rfl, hxs, (HD0.out.trans hdr).more (by omega), hdr.on⟩
end Go.Proofs.Ythcpjkhijjkolaa

/- Drawing a pool and an event out of a code. -/
namespace Go.Proofs.Ythcpjkhijjkolaa
open Go.RowKit

def PoolEvD (w : World) (e : Ending) (w' : World) : Prop :=
  ∃ (f : Flow) (A : Option Addr) (n c : Nat) (B : Option Addr) (m d : Nat) (cs : List Case) (nm : Str) (k : Int) (x : Str), e = .returned (.tuple #[.agg #[.int .i64 f.ver, .slice A n c], .slice B m d, .string nm, .agg #[.int .i64 k, .string x]]) ∧
    RStep w' w.heap.size A n f.steps ∧ okSteps f.steps ∧ 1 ≤ n ∧ n ≤ 6 ∧ RCase w' w.heap.size B m cs ∧ okCases cs ∧ m ≤ d ∧ m ≤ 9 ∧ Below w.heap.size w w'
theorem cell_far {w : World} {b b' o o' : Nat} {u : Value} (h : b ≠ b') : (w.setCell ⟨b', o', none⟩ u).cell? ⟨b, o, none⟩ = w.cell? ⟨b, o, none⟩ :=
  World.cell?_setCell_other _ _ _ _ (fun e => by injection e with e; exact h e.symm)

set_option maxRecDepth 100000 in
set_option maxHeartbeats 4000000 in
theorem drawPoolEvent_any (A : Option Addr) (n c : Nat) (w : World) (hr : RByte w A n) (hc : n ≤ c) (hn : n ≤ 1048576) : Calls Try.prog 46 #[.slice A n c] w (PoolEvD w) := by
  have HR := Lib.hid ((hr.alloc (.cells #[.int .i64 0, .slice none 0 0] 33)).alloc (.cells #[.int .i64 0, .string ⟨#[]⟩] 73)); clear hr
  go_enter Try.func46, Try.ntmps46
  go_wp2_with fail
  refine (open_any _ _ _ _ HR.out hc hn).mono ?_
  rintro e w1 ⟨rfl, hrd, hb1⟩
  have hsz : ((w.alloc (.cells #[.int .i64 0, .slice none 0 0] 33)).alloc (.cells #[.int .i64 0, .string ⟨#[]⟩] 73)).heap.size = w.heap.size + 1 + 1 := by simp
  rw [hsz] at hrd hb1 ⊢
  obtain ⟨g, hg⟩ : ∃ g, g = w.heap.size + 1 + 1 := ⟨_, rfl⟩
  rw [← hg] at hrd hb1 ⊢
  have hd0 : Dr 131 w1 g 0 w1 := ⟨On.refl _ _, 0, Nat.le_refl _, hrd⟩
  have hl1 := hrd.lt
  have HRF := Lib.hid ((hb1.block w.heap.size (by omega)).trans (heap_old (o := .cells #[.int .i64 0, .string ⟨#[]⟩] 73) (heap_new (w := w) (o := .cells #[.int .i64 0, .slice none 0 0] 33) rfl)))
  have HRE := Lib.hid ((hb1.block (w.heap.size + 1) (by omega)).trans (heap_new (w := w.alloc (.cells #[.int .i64 0, .slice none 0 0] 33)) (o := .cells #[.int .i64 0, .string ⟨#[]⟩] 73) (by simp)))
  have HB1 := Lib.hid ((((Below.refl w.heap.size w).alloc (Nat.le_refl _) (.cells #[.int .i64 0, .slice none 0 0] 33)).alloc (by simp) (.cells #[.int .i64 0, .string ⟨#[]⟩] 73)).trans (hb1.mono (by omega)))
  have hg0 : w.heap.size < g := by omega
  have hg1 : w.heap.size + 1 < g := by omega
  have hge : g = w.heap.size + 2 := by omega
  have HGE := Lib.hid hge
  clear hrd hb1 hsz hg hge
  go_wp2_with fail
  refine (l92Pool_any w1 _ _ _ hd0 (by omega)).mono ?_
  rintro e w2 ⟨v, A2, n2, c2, ss, B2, m2, d2, cs, rfl, hs, hok, h1, h6, hcs, hokc, hmd, hm9, hd, hon⟩
  have HS := Lib.hid (hs.alloc (.cells #[.int .i64 v, .slice A2 n2 c2] 33)); clear hs
  have HC := Lib.hid (hcs.alloc (.cells #[.int .i64 v, .slice A2 n2 c2] 33)); clear hcs
  have HD2 := Lib.hid (hd.alloc (.cells #[.int .i64 v, .slice A2 n2 c2] 33)); clear hd
  have HF2 := Lib.hid (heap_old (o := .cells #[.int .i64 v, .slice A2 n2 c2] 33) (hon.blk HRF.out (by omega)))
  have HE2 := Lib.hid (heap_old (o := .cells #[.int .i64 v, .slice A2 n2 c2] 33) (hon.blk HRE.out (by omega)))
  have HX2 := Lib.hid (heap_new (w := w2) (o := .cells #[.int .i64 v, .slice A2 n2 c2] 33) rfl)
  have hs2 := hon.size
  have HON2 := Lib.hid (hon.alloc (.cells #[.int .i64 v, .slice A2 n2 c2] 33))
  have HOK := Lib.hid hok; clear hok
  have HOC := Lib.hid hokc; clear hokc
  clear hon hd0
  have hw2 : w2.heap.size < (w2.alloc (.cells #[.int .i64 v, .slice A2 n2 c2] 33)).heap.size := by simp
  by_cases hm0 : m2 = 0
  · subst hm0
    go_wp2_with fail
    generalize w2.alloc (.cells #[.int .i64 v, .slice A2 n2 c2] 33) = W at *
    have HNM := Lib.hid (l91Name_any w1 g _ _ HD2.out.drew (by omega))
    have HSB : Hid (∀ w', On g W w' → w'.cell? ⟨w2.heap.size, 0, none⟩ = some (.int .i64 v) ∧ w'.cell? ⟨w2.heap.size, 1, none⟩ = some (.slice A2 n2 c2)) := fun w' h => ⟨(blk_cl (k := 0) (h.blk HX2.out (by omega)) rfl).1, (blk_cl (k := 1) (h.blk HX2.out (by omega)) rfl).1⟩
    have HKF : Hid (∀ w' o u, (fun w' : World => w'.cell? ⟨w2.heap.size, 0, none⟩ = some (.int .i64 v) ∧ w'.cell? ⟨w2.heap.size, 1, none⟩ = some (.slice A2 n2 c2)) w' → (fun w' : World => w'.cell? ⟨w2.heap.size, 0, none⟩ = some (.int .i64 v) ∧ w'.cell? ⟨w2.heap.size, 1, none⟩ = some (.slice A2 n2 c2)) (w'.setCell ⟨w.heap.size, o, none⟩ u)) := fun w' o u h => ⟨(cell_far (by omega)).trans h.1, (cell_far (by omega)).trans h.2⟩
    have HKE : Hid (∀ w' o u, (fun w' : World => w'.cell? ⟨w2.heap.size, 0, none⟩ = some (.int .i64 v) ∧ w'.cell? ⟨w2.heap.size, 1, none⟩ = some (.slice A2 n2 c2)) w' → (fun w' : World => w'.cell? ⟨w2.heap.size, 0, none⟩ = some (.int .i64 v) ∧ w'.cell? ⟨w2.heap.size, 1, none⟩ = some (.slice A2 n2 c2)) (w'.setCell ⟨w.heap.size + 1, o, none⟩ u)) := fun w' o u h => ⟨(cell_far (by omega)).trans h.1, (cell_far (by omega)).trans h.2⟩
    go_region_held3 (fun w' => w'.cell? ⟨w2.heap.size, 0, none⟩ = some (.int .i64 v) ∧ w'.cell? ⟨w2.heap.size, 1, none⟩ = some (.slice A2 n2 c2))
      (((repeat (first | exact HSB.out _ (On.refl _ _).drew | exact HSB.out _ hon4 | refine HKE.out _ _ _ ?_ | refine HKF.out _ _ _ ?_ | fail "x")); done))
      (first
        | (go_at_call 94; refine HNM.out.mono ?_; rintro e w3 ⟨s, rfl, hs3, hd3, hon3⟩; have hon4 : On g W w3 := (On.refl _ _).drew.trans hon3; have HF3 := Lib.hid (hon4.blk HF2.out (by omega)); have HE3 := Lib.hid (hon4.blk HE2.out (by omega)); have z0 := (blk_cl (k := 0) HF3.out rfl).1; have z0' := (blk_cl (k := 0) HF3.out rfl).2; have z1 := (blk_cl (k := 1) HF3.out rfl).1; have z1' := (blk_cl (k := 1) HF3.out rfl).2; have y0 := (blk_cl (k := 0) HE3.out rfl).1; have y0' := (blk_cl (k := 0) HE3.out rfl).2; have y1 := (blk_cl (k := 1) HE3.out rfl).1; have y1' := (blk_cl (k := 1) HE3.out rfl).2)
        | fail "no arm")
    go_wp2_with fail
    have hF := set21 (u := .slice A2 n2 c2) (set20 (u := .int .i64 v) HF3.out)
    have hF2 := set_ne (b := w.heap.size + 1) (o := 1) (u := .string ⟨#[97]⟩) (set_ne (b := w.heap.size + 1) (o := 0) (u := .int .i64 1) hF (by omega)) (by omega)
    have hE := set21 (u := .string ⟨#[97]⟩) (set20 (u := .int .i64 1) (set_ne (b := w.heap.size) (o := 1) (u := .slice A2 n2 c2) (set_ne (b := w.heap.size) (o := 0) (u := .int .i64 v) HE3.out (by omega)) (by omega)))
    have e0 := (blk_cl (k := 0) hF2 rfl).1
    have e1 := (blk_cl (k := 1) hF2 rfl).1
    have e2 := (blk_cl (k := 0) hE rfl).1
    have e3 := (blk_cl (k := 1) hE rfl).1
    have hS3 := HS.out.on hon4 (by omega)
    have hC3 := HC.out.on hon4 (by omega)
    have hB3 := HB1.out.trans (((HON2.out.trans hon4).low (by omega)).mono (by omega))
    have hbl := (((hB3.setCell (p := ⟨w.heap.size, 0, none⟩) (Nat.le_refl _) (.int .i64 v)).setCell (p := ⟨w.heap.size, 1, none⟩) (Nat.le_refl _) (.slice A2 n2 c2)).setCell (p := ⟨w.heap.size + 1, 0, none⟩) (Nat.le_succ _) (.int .i64 1)).setCell (p := ⟨w.heap.size + 1, 1, none⟩) (Nat.le_succ _) (.string ⟨#[97]⟩)
    exact bodyPost_ret (v := .tuple #[.agg #[.int .i64 v, .slice A2 n2 c2], .slice B2 0 d2, .string s, .agg #[.int .i64 1, .string ⟨#[97]⟩]]) (by simp [results, Try.results46, go_sem, e0, e1, e2, e3]) rfl
      ⟨⟨v, ss⟩, _, _, _, _, _, _, cs, _, _, _, rfl, ((((hS3.setLow (by omega)).setLow (by omega)).setLow (by omega)).setLow (by omega)).lower (by omega), HOK.out, h1, h6, ((((hC3.setLow (by omega)).setLow (by omega)).setLow (by omega)).setLow (by omega)).lower (by omega), HOC.out, hmd, hm9, hbl⟩
  · have hm1 : (0 : Int) < (m2 : Int) := by omega
    have hm1b : 0 < m2 := by omega
    go_wp2_with fail
    generalize w2.alloc (.cells #[.int .i64 v, .slice A2 n2 c2] 33) = W at *
    refine (pick w1 g _ _ _ HD2.out (by omega) (by omega)).mono ?_
    rintro e w6 ⟨v6, rfl, b1, b2, b3, hd6, hon6⟩
    obtain ⟨j, rfl⟩ := Int.eq_ofNat_of_zero_le b1
    have hjm : j < m2 := by have := b2 (by omega); omega
    have HD6 := Lib.hid hd6; clear hd6 b1 b2 b3
    have HX6 := Lib.hid (hon6.blk HX2.out (by omega))
    have hs6 := hon6.size
    obtain ⟨b, off, rfl, ⟨hb1, hb2⟩, hcc⟩ := RCase.at_ (HC.out.on hon6 (by omega)) hjm
    obtain ⟨A', n', c', ⟨u1, u2, u3⟩, hdr, hnc, _⟩ := hcc j hjm
    clear hcc
    have hlc := HC.out.1
    have hn' : n' ≤ 1048576 := by rw [← hdr.1]; exact (HOC.out.2 j (by omega)).2
    have HDR := Lib.hid hdr; clear hdr
    have HEV := Lib.hid (l91Event_any w1 g _ A2 A' n2 c2 n' c' ⟨v, ss⟩ (nth cs j).st (nth cs j).done w1.heap.size w1.heap.size _ HD6.out.drew (by omega) ((HS.out.on hon6 (by omega)).drew) HOK.out h1 hl1 HDR.out.drew hn' hnc hl1)
    have HFW := Lib.hid hon6
    generalize (nth cs j).name = nm at *
    generalize (nth cs j).st = st at *
    have HSB : Hid (∀ w', On g w6 w' → w'.cell? ⟨w2.heap.size, 0, none⟩ = some (.int .i64 v) ∧ w'.cell? ⟨w2.heap.size, 1, none⟩ = some (.slice A2 n2 c2) ∧ w'.cell? ⟨b, off + j * 3, none⟩ = some (.string nm) ∧ w'.cell? ⟨b, off + j * 3 + 1, none⟩ = some (.int .i64 st) ∧ w'.cell? ⟨b, off + j * 3 + 2, none⟩ = some (.slice A' n' c')) := fun w' h => ⟨(blk_cl (k := 0) (h.blk HX6.out (by omega)) rfl).1, (blk_cl (k := 1) (h.blk HX6.out (by omega)) rfl).1, (h.cell hb2 (by omega)).trans u1, (h.cell hb2 (by omega)).trans u2, (h.cell hb2 (by omega)).trans u3⟩
    have HKF : Hid (∀ w' o u, (fun w' : World => w'.cell? ⟨w2.heap.size, 0, none⟩ = some (.int .i64 v) ∧ w'.cell? ⟨w2.heap.size, 1, none⟩ = some (.slice A2 n2 c2) ∧ w'.cell? ⟨b, off + j * 3, none⟩ = some (.string nm) ∧ w'.cell? ⟨b, off + j * 3 + 1, none⟩ = some (.int .i64 st) ∧ w'.cell? ⟨b, off + j * 3 + 2, none⟩ = some (.slice A' n' c')) w' → (fun w' : World => w'.cell? ⟨w2.heap.size, 0, none⟩ = some (.int .i64 v) ∧ w'.cell? ⟨w2.heap.size, 1, none⟩ = some (.slice A2 n2 c2) ∧ w'.cell? ⟨b, off + j * 3, none⟩ = some (.string nm) ∧ w'.cell? ⟨b, off + j * 3 + 1, none⟩ = some (.int .i64 st) ∧ w'.cell? ⟨b, off + j * 3 + 2, none⟩ = some (.slice A' n' c')) (w'.setCell ⟨w.heap.size, o, none⟩ u)) := fun w' o u h => ⟨(cell_far (by omega)).trans h.1, (cell_far (by omega)).trans h.2.1, (cell_far (by omega)).trans h.2.2.1, (cell_far (by omega)).trans h.2.2.2.1, (cell_far (by omega)).trans h.2.2.2.2⟩
    have HKE : Hid (∀ w' o u, (fun w' : World => w'.cell? ⟨w2.heap.size, 0, none⟩ = some (.int .i64 v) ∧ w'.cell? ⟨w2.heap.size, 1, none⟩ = some (.slice A2 n2 c2) ∧ w'.cell? ⟨b, off + j * 3, none⟩ = some (.string nm) ∧ w'.cell? ⟨b, off + j * 3 + 1, none⟩ = some (.int .i64 st) ∧ w'.cell? ⟨b, off + j * 3 + 2, none⟩ = some (.slice A' n' c')) w' → (fun w' : World => w'.cell? ⟨w2.heap.size, 0, none⟩ = some (.int .i64 v) ∧ w'.cell? ⟨w2.heap.size, 1, none⟩ = some (.slice A2 n2 c2) ∧ w'.cell? ⟨b, off + j * 3, none⟩ = some (.string nm) ∧ w'.cell? ⟨b, off + j * 3 + 1, none⟩ = some (.int .i64 st) ∧ w'.cell? ⟨b, off + j * 3 + 2, none⟩ = some (.slice A' n' c')) (w'.setCell ⟨w.heap.size + 1, o, none⟩ u)) := fun w' o u h => ⟨(cell_far (by omega)).trans h.1, (cell_far (by omega)).trans h.2.1, (cell_far (by omega)).trans h.2.2.1, (cell_far (by omega)).trans h.2.2.2.1, (cell_far (by omega)).trans h.2.2.2.2⟩
    have hj0 : (0 : Int) ≤ (j : Int) := by omega
    have hj1 : (j : Int) < (m2 : Int) := by omega
    clear hon6 u1 u2 u3
    go_wp2_with fail
    go_region_held3 (fun w' => w'.cell? ⟨w2.heap.size, 0, none⟩ = some (.int .i64 v) ∧ w'.cell? ⟨w2.heap.size, 1, none⟩ = some (.slice A2 n2 c2) ∧ w'.cell? ⟨b, off + j * 3, none⟩ = some (.string nm) ∧ w'.cell? ⟨b, off + j * 3 + 1, none⟩ = some (.int .i64 st) ∧ w'.cell? ⟨b, off + j * 3 + 2, none⟩ = some (.slice A' n' c'))
      (((repeat (first | exact HSB.out _ (On.refl _ _).drew | exact HSB.out _ hon5 | refine HKE.out _ _ _ ?_ | refine HKF.out _ _ _ ?_ | fail "x")); done))
      (first
        | (go_at_call 93; refine HEV.out.mono ?_; rintro e w3 ⟨kk, xx, rfl, hxx, hd3, hon3⟩; have hon5 : On g w6 w3 := (On.refl _ _).drew.trans hon3; have hon4 : On g W w3 := HFW.out.trans ((On.refl _ _).drew.trans hon3); have HF3 := Lib.hid (hon4.blk HF2.out (by omega)); have HE3 := Lib.hid (hon4.blk HE2.out (by omega)); have z0 := (blk_cl (k := 0) HF3.out rfl).1; have z0' := (blk_cl (k := 0) HF3.out rfl).2; have z1 := (blk_cl (k := 1) HF3.out rfl).1; have z1' := (blk_cl (k := 1) HF3.out rfl).2; have y0 := (blk_cl (k := 0) HE3.out rfl).1; have y0' := (blk_cl (k := 0) HE3.out rfl).2; have y1 := (blk_cl (k := 1) HE3.out rfl).1; have y1' := (blk_cl (k := 1) HE3.out rfl).2)
        | fail "no arm")
    go_wp2_with fail
    have hF := set21 (u := .slice A2 n2 c2) (set20 (u := .int .i64 v) HF3.out)
    have hF2 := set_ne (b := w.heap.size + 1) (o := 1) (u := .string xx) (set_ne (b := w.heap.size + 1) (o := 0) (u := .int .i64 kk) hF (by omega)) (by omega)
    have hE := set21 (u := .string xx) (set20 (u := .int .i64 kk) (set_ne (b := w.heap.size) (o := 1) (u := .slice A2 n2 c2) (set_ne (b := w.heap.size) (o := 0) (u := .int .i64 v) HE3.out (by omega)) (by omega)))
    have e0 := (blk_cl (k := 0) hF2 rfl).1
    have e1 := (blk_cl (k := 1) hF2 rfl).1
    have e2 := (blk_cl (k := 0) hE rfl).1
    have e3 := (blk_cl (k := 1) hE rfl).1
    have hS3 := HS.out.on hon4 (by omega)
    have hC3 := HC.out.on hon4 (by omega)
    have hB3 := HB1.out.trans (((HON2.out.trans hon4).low (by omega)).mono (by omega))
    have hbl := (((hB3.setCell (p := ⟨w.heap.size, 0, none⟩) (Nat.le_refl _) (.int .i64 v)).setCell (p := ⟨w.heap.size, 1, none⟩) (Nat.le_refl _) (.slice A2 n2 c2)).setCell (p := ⟨w.heap.size + 1, 0, none⟩) (Nat.le_succ _) (.int .i64 kk)).setCell (p := ⟨w.heap.size + 1, 1, none⟩) (Nat.le_succ _) (.string xx)
    exact bodyPost_ret (v := .tuple #[.agg #[.int .i64 v, .slice A2 n2 c2], .slice (some ⟨b, off, none⟩) m2 d2, .string nm, .agg #[.int .i64 kk, .string xx]]) (by simp [results, Try.results46, go_sem, e0, e1, e2, e3]) rfl
      ⟨⟨v, ss⟩, _, _, _, _, _, _, cs, _, _, _, rfl, ((((hS3.setLow (by omega)).setLow (by omega)).setLow (by omega)).setLow (by omega)).lower (by omega), HOK.out, h1, h6, ((((hC3.setLow (by omega)).setLow (by omega)).setLow (by omega)).setLow (by omega)).lower (by omega), HOC.out, hmd, hm9, hbl⟩
end Go.Proofs.Ythcpjkhijjkolaa
