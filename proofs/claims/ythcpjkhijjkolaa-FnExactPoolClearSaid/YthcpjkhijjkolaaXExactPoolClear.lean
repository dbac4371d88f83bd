/- FnExactPoolClear returns true at every input, and leaves its arguments as they were. No condition. -/
import Derived.Deep.RegionHeld3
import Derived.Test.YthcpjkhijjkolaaZC
import Derived.Test.YthcpjkhijjkolaaZD
import Derived.Test.YthcpjkhijjkolaaZA
import Derived.Test.YthcpjkhijjkolaaZG
import Derived.Test.YthcpjkhijjkolaaZH
import Derived.Test.YthcpjkhijjkolaaZF

/- Marks on arguments: what they leave. -/
namespace Go.Proofs.Ythcpjkhijjkolaa
open Go.RowKit

/-- The same kind of value; slices are the same. -/
def kin : Value → Value → Prop
  | .string _, v => ∃ s, v = .string s
  | .bool _, v => ∃ b, v = .bool b
  | .int k _, v => ∃ i, v = .int k i
  | v, u => u = v
theorem kin_refl (v : Value) : kin v v := by
  cases v <;> simp [kin]
theorem kin_trans {a b c : Value} (h : kin a b) (k : kin b c) : kin a c := by
  cases a <;> simp only [kin] at h
  all_goals first
    | (obtain ⟨s, rfl⟩ := h; simp only [kin] at k ⊢; exact k)
    | (subst h; exact k)
/-- Each cell keeps its kind. -/
def KeepK (w w' : World) : Prop := ∀ b o v, Cl w b o v → ∃ u, Cl w' b o u ∧ kin v u
theorem KeepK.refl (w : World) : KeepK w w := fun _ _ v h => ⟨v, h, kin_refl v⟩
theorem KeepK.trans {w w1 w2 : World} (h : KeepK w w1) (k : KeepK w1 w2) : KeepK w w2 := fun b o v hv => by
  obtain ⟨u, h1, h2⟩ := h b o v hv
  obtain ⟨x, h3, h4⟩ := k b o u h1
  exact ⟨x, h3, kin_trans h2 h4⟩
theorem KeepK.of_below {w w' : World} (h : Below w.heap.size w w') : KeepK w w' := fun _ _ v hv =>
  ⟨v, hv.same (Same.of_below (lo := 0) h) (Nat.zero_le _) (World.block_lt_of_cell? w _ hv.1), kin_refl v⟩
theorem KeepK.set {w : World} {b o : Nat} {v u : Value} (h : Cl w b o v) (hk : kin v u) : KeepK w (w.setCell ⟨b, o, none⟩ u) := fun b' o' v' hv => by
  by_cases e : b' = b ∧ o' = o
  · obtain ⟨rfl, rfl⟩ := e
    have : v' = v := Option.some.inj (hv.1.symm.trans h.1)
    subst this
    exact ⟨u, h.set_same, hk⟩
  · refine ⟨v', hv.set_other ?_, kin_refl _⟩
    by_cases eb : b' = b
    · right; intro eo; exact e ⟨eb, eo⟩
    · exact .inl eb
theorem KeepK.set_ {w0 w : World} {b o : Nat} {v u : Value} (hw : KeepK w0 w) (h : Cl w b o v) (hk : kin v u) : KeepK w0 (w.setCell ⟨b, o, none⟩ u) := hw.trans (KeepK.set h hk)

theorem list_of {α : Type} [Inhabited α] {n : Nat} {P : Nat → α → Prop} (h : ∀ j, j < n → ∃ x, P j x) : ∃ ys : List α, ys.length = n ∧ ∀ j, j < n → P j (nth ys j) := by
  have each : ∀ j, ∃ x, j < n → P j x := fun j => by
    by_cases hj : j < n
    · obtain ⟨x, hx⟩ := h j hj
      exact ⟨x, fun _ => hx⟩
    · exact ⟨default, fun h => absurd h hj⟩
  refine ⟨(List.range n).map fun j => Classical.choose (each j), by simp, fun j hj => ?_⟩
  rw [nth_eq (by simpa using hj)]
  simp only [List.getElem_map, List.getElem_range]
  exact Classical.choose_spec (each j) hj

theorem RStr.kin_ {w w' : World} {lo hi n : Nat} {A : Option Addr} {xs : List Str} (h : RH strE w lo hi A n xs) (hk : KeepK w w') : ∃ ys, RH strE w' lo hi A n ys := by
  rcases Nat.eq_zero_or_pos n with rfl | hn
  · exact ⟨[], rfl, fun h => absurd h (by omega)⟩
  obtain ⟨b, off, e, h1, h2, hc⟩ := h.2 hn
  obtain ⟨ys, hl, hy⟩ := list_of (n := n) (P := fun j (s : Str) => Cl w' b (off + j * 1) (.string s)) (fun j hj => by
    obtain ⟨u, g1, g2⟩ := hk _ _ _ (hc j hj)
    obtain ⟨s, rfl⟩ := g2
    exact ⟨s, g1⟩)
  exact ⟨ys, hl, fun _ => ⟨b, off, e, h1, h2, hy⟩⟩
theorem RStep.kin_ {w w' : World} {lo hi n : Nat} {A : Option Addr} {ss : List Step} (h : RH stepE w lo hi A n ss) (hk : KeepK w w') : ∃ ts, RH stepE w' lo hi A n ts ∧ ∀ j, j < n → (nth ts j).after.length = (nth ss j).after.length := by
  rcases Nat.eq_zero_or_pos n with rfl | hn
  · exact ⟨[], ⟨rfl, fun h => absurd h (by omega)⟩, fun j hj => absurd hj (by omega)⟩
  obtain ⟨b, off, e, h1, h2, hc⟩ := h.2 hn
  obtain ⟨ts, hl, hy⟩ := list_of (n := n) (P := fun j (s : Step) => stepE.rep w' lo hi b (off + j * 3) s ∧ s.after.length = (nth ss j).after.length) (fun j hj => by
    obtain ⟨c1, ⟨A', n', c', c2, c3⟩, c4⟩ := hc j hj
    obtain ⟨u1, g1, k1⟩ := hk _ _ _ c1
    obtain ⟨s, rfl⟩ := k1
    obtain ⟨u2, g2, k2⟩ := hk _ _ _ c2
    simp only [kin] at k2
    subst k2
    obtain ⟨u3, g3, k3⟩ := hk _ _ _ c4
    obtain ⟨b3, rfl⟩ := k3
    obtain ⟨ys, hys⟩ := RStr.kin_ c3 hk
    exact ⟨⟨s, ys, b3⟩, ⟨g1, ⟨A', n', c', g2, hys⟩, g3⟩, by show ys.length = _; rw [hys.1, c3.1]⟩)
  exact ⟨ts, ⟨hl, fun _ => ⟨b, off, e, h1, h2, fun j hj => (hy j hj).1⟩⟩, fun j hj => (hy j hj).2⟩
theorem RCase.kin_ {w w' : World} {lo hi n : Nat} {A : Option Addr} {ss : List Case} (h : RH caseE w lo hi A n ss) (hk : KeepK w w') : ∃ ts, RH caseE w' lo hi A n ts ∧ ∀ j, j < n → (nth ts j).done.length = (nth ss j).done.length := by
  rcases Nat.eq_zero_or_pos n with rfl | hn
  · exact ⟨[], ⟨rfl, fun h => absurd h (by omega)⟩, fun j hj => absurd hj (by omega)⟩
  obtain ⟨b, off, e, h1, h2, hc⟩ := h.2 hn
  obtain ⟨ts, hl, hy⟩ := list_of (n := n) (P := fun j (s : Case) => caseE.rep w' lo hi b (off + j * 3) s ∧ s.done.length = (nth ss j).done.length) (fun j hj => by
    obtain ⟨c1, c4, ⟨A', n', c', c2, c3, c5⟩⟩ := hc j hj
    obtain ⟨u1, g1, k1⟩ := hk _ _ _ c1
    obtain ⟨s, rfl⟩ := k1
    obtain ⟨u2, g2, k2⟩ := hk _ _ _ c2
    simp only [kin] at k2
    subst k2
    obtain ⟨u3, g3, k3⟩ := hk _ _ _ c4
    obtain ⟨i3, rfl⟩ := k3
    obtain ⟨ys, hys⟩ := RStr.kin_ c3 hk
    exact ⟨⟨s, i3, ys⟩, ⟨g1, g3, ⟨A', n', c', g2, hys, c5⟩⟩, by show ys.length = _; rw [hys.1, c3.1]⟩)
  exact ⟨ts, ⟨hl, fun _ => ⟨b, off, e, h1, h2, fun j hj => (hy j hj).1⟩⟩, fun j hj => (hy j hj).2⟩

set_option maxRecDepth 100000 in
theorem markText2_any (k : Nat) (w : World) (h1 : 1 ≤ k) (h2 : k ≤ 2305843009213693952) :
    Calls Try.prog 88 #[.int .i64 (k : Int)] w fun e w' => e = .returned (.string (markS k)) ∧ Below w.heap.size w w' := by
  go_enter Try.func88, Try.ntmps88
  go_wp2_with fail
  go_loopw [0, 3] (fun j o wr => ∃ jn f : Nat, ∃ acc : List UInt8, jn ≤ f ∧ acc.length + jn ≤ 2305843009213693952 ∧ j = .int .i64 (jn : Int) ∧ o = .string ⟨acc.toArray⟩ ∧ decL f jn acc = decL k k [] ∧ Below w.heap.size w wr) (fun j _ _ => (intOf j).toNat)
  case atStart => exact ⟨k, k, [], Nat.le_refl _, by simpa using h2, rfl, rfl, rfl, Below.refl _ _⟩
  case round =>
    obtain ⟨jn, f, acc, hf, hj, rfl, rfl, hd, hb⟩ := hrel
    have HD := Lib.hid hd; clear hd
    have HB := Lib.hid hb; clear hb
    by_cases h0 : 0 < jn
    · have hcv := conv1 (wr.alloc (.cells #[.int .u8 (48 + (jn : Int) % 10)] 5)) wr.heap.size (48 + (jn : Int) % 10) (heap_new rfl)
      go_wp2_with fail
      go_roundw
      case rel =>
        obtain ⟨f', rfl⟩ : ∃ f', f = f' + 1 := ⟨f - 1, by omega⟩
        refine ⟨jn / 10, f', (48 + UInt8.ofNat (jn % 10)) :: acc, by omega, by simp; omega, by go_num, str_congr (bcat [_] acc), ?_, HB.out.alloc HB.out.size _⟩
        rw [← HD.out, decL, if_neg (by omega)]
      case measure => simp [intOf]; omega
    · have h0' : (jn : Int) < 1 := by omega
      go_wp2_with fail
      go_ret
      refine ⟨ret_s ?_, HB.out⟩
      have hz : jn = 0 := by omega
      have hd := HD.out
      subst hz
      unfold markS
      have e : decL f 0 acc = acc := by cases f <;> simp [decL]
      rw [← hd, e]
      exact bcat [109] acc

set_option maxRecDepth 100000 in
theorem markStr2_any (A : Option Addr) (n c k : Nat) (xs : List Str) (lo hi : Nat) (w : World) (hr : RH strE w lo hi A n xs) (hn : n ≤ 1048576) (h1 : 1 ≤ k) (h2 : k ≤ 1152921504606846976) (hhi : hi ≤ w.heap.size) :
    Calls Try.prog 43 #[.slice A n c, .int .i64 (k : Int)] w fun e w' => e = .returned (.int .i64 ((k + n : Nat) : Int)) ∧ KeepK w w' ∧ Out lo hi w w' := by
  have HR := Lib.hid hr; clear hr
  go_enter Try.func43, Try.ntmps43
  go_wp2_with fail
  go_loopw [1, 5] (fun q i wr => ∃ j m : Nat, j ≤ n ∧ i = .int .i64 (j : Int) ∧ q = .int .i64 (m : Int) ∧ m = k + j ∧ KeepK w wr ∧ Out lo hi w wr) (fun _ i _ => n - (intOf i).toNat)
  case atStart => exact ⟨0, k, Nat.zero_le _, rfl, rfl, rfl, KeepK.refl _, Out.refl⟩
  case round =>
    obtain ⟨j, m, hj, rfl, rfl, hm, hkk, hb⟩ := hrel
    have HM := Lib.hid hm
    have HK := Lib.hid hkk; clear hkk
    have HB := Lib.hid hb; clear hb
    have hm1 : 1 ≤ m := by omega
    have hm2 : m ≤ 2305843009213693952 := by omega
    have hm3 : (m : Int) ≤ 2305843009213693952 := by omega
    clear hm
    by_cases hlt : j < n
    · obtain ⟨ys, hys⟩ := RStr.kin_ HR.out HK.out
      obtain ⟨b, off, rfl, ⟨hb1, hb3⟩, hc⟩ := RStr.hat hys hlt
      have hwr : hi ≤ wr.heap.size := Nat.le_trans hhi HB.out.size
      have hb2 : b < wr.heap.size := by omega
      obtain ⟨c1, c2⟩ := hc j hlt
      clear hc hys
      go_wp2_with fail
      refine (markText2_any m _ hm1 hm2).mono ?_
      rintro e w1 ⟨rfl, hbw⟩
      have d1 := (hbw.cell (p := ⟨b, off + j, none⟩) hb2).trans c1
      have d2 := (hbw.frozen (p := ⟨b, off + j, none⟩) hb2).trans c2
      clear c1 c2
      have HBW := Lib.hid hbw; clear hbw
      have HK2 := Lib.hid ((HK.out.trans (KeepK.of_below HBW.out)).set_ (u := .string (markS m)) ⟨d1, d2⟩ ⟨_, rfl⟩)
      go_wp2_with fail
      go_roundw
      case rel => exact ⟨j + 1, m + 1, by omega, by go_num, by go_num, by rw [HM.out, Nat.add_assoc], HK2.out, (HB.out.trans (Out.of_below HBW.out)).set_ hb1 hb3 _ _⟩
      case measure => simp [intOf]; omega
    · go_wp2_with fail
      go_ret
      exact ⟨ret_i (by rw [HM.out, show j = n by omega]), HK.out, HB.out⟩

set_option maxRecDepth 100000 in
theorem markStepS_any (A : Option Addr) (n c k : Nat) (ss : List Step) (lo hi : Nat) (w : World) (hr : RH stepE w lo hi A n ss) (hok : okSteps ss) (h1 : 1 ≤ k) (h2 : k ≤ 549755813888) (hhi : hi ≤ w.heap.size) :
    Calls Try.prog 87 #[.slice A n c, .int .i64 (k : Int)] w fun e w' => (∃ k' : Nat, e = .returned (.int .i64 (k' : Int)) ∧ k ≤ k' ∧ k' ≤ k + n * 1048578) ∧ Out lo hi w w' := by
  have HL := Lib.hid hr.1
  have hn : n ≤ 1048576 := by have := hok.1; rw [hr.1] at this; exact this
  have hnn : n * 1048578 ≤ 1048576 * 1048578 := Nat.mul_le_mul_right _ hn
  have HR := Lib.hid hr; clear hr
  go_enter Try.func87, Try.ntmps87
  go_wp2_with fail
  go_loopw [1, 5] (fun q i wr => ∃ j m : Nat, j ≤ n ∧ i = .int .i64 (j : Int) ∧ q = .int .i64 (m : Int) ∧ k ≤ m ∧ m ≤ k + j * 1048578 ∧ KeepK w wr ∧ Out lo hi w wr) (fun _ i _ => n - (intOf i).toNat)
  case atStart => exact ⟨0, k, Nat.zero_le _, rfl, rfl, Nat.le_refl _, by omega, KeepK.refl _, Out.refl⟩
  case round =>
    obtain ⟨j, m, hj, rfl, rfl, hkm, hmk, hkk, hb⟩ := hrel
    have HK := Lib.hid hkk; clear hkk
    have HB := Lib.hid hb; clear hb
    have hjn : j * 1048578 ≤ n * 1048578 := Nat.mul_le_mul_right _ hj
    have hm1 : 1 ≤ m := by omega
    have hm2 : m ≤ 1649269538816 := by omega
    have hwr : hi ≤ wr.heap.size := Nat.le_trans hhi HB.out.size
    by_cases hlt : j < n
    · obtain ⟨ts, hts, hlen⟩ := RStep.kin_ HR.out HK.out
      have HTS := Lib.hid hts
      obtain ⟨b, off, rfl, ⟨hb1, hb3⟩, hc⟩ := RStep.hat hts hlt
      clear hc hts
      have hb2 : b < wr.heap.size := by omega
      have hal := hlen j hlt
      have hao := (hok.2 j (by rw [HL.out]; exact hlt)).2.1
      go_wp2_with fail
      refine (markText2_any m _ hm1 (by omega)).mono ?_
      rintro e w1 ⟨rfl, hbw⟩
      have HT1 := Lib.hid (HTS.out.below hbw hwr)
      have HB1 := Lib.hid (HB.out.trans (Out.of_below hbw))
      have HK1 := Lib.hid (HK.out.trans (KeepK.of_below hbw))
      have hs1 := hbw.size
      clear hbw
      obtain ⟨b', off', e', _, hc⟩ := RStep.hat HT1.out hlt
      injection e' with e'; injection e' with e1 e2
      subst e1; subst e2
      obtain ⟨A', n', c', ⟨d1, d2, d3⟩, ha, f1, f2, f3⟩ := hc j hlt
      clear hc
      have hn' : n' ≤ 1048576 := by rw [← ha.1, hal]; exact hao
      have HK2 := Lib.hid (KeepK.set (u := .string (markS m)) ⟨d1, f1⟩ ⟨_, rfl⟩)
      have HKK2 := Lib.hid (HK1.out.trans HK2.out)
      have HB2 := Lib.hid (HB1.out.set_ hb1 hb3 (off + j * 3) (.string (markS m)))
      obtain ⟨u2, ⟨g2, _⟩, k2⟩ := HK2.out _ _ _ ⟨d2, f2⟩
      simp only [kin] at k2
      subst k2
      obtain ⟨ys, hys⟩ := RStr.kin_ ha HK2.out
      have HYS := Lib.hid hys; clear hys
      obtain ⟨u3, ⟨g3, g3'⟩, k3⟩ := HK2.out _ _ _ ⟨d3, f3⟩
      obtain ⟨b3, rfl⟩ := k3
      clear ha
      go_wp2_with fail
      refine (markStr2_any A' n' c' (m + 1) ys lo hi _ HYS.out hn' (by omega) (by omega) (by simp; omega)).mono ?_
      rintro e w3 ⟨rfl, hk3, ho3⟩
      obtain ⟨u4, ⟨g4, g4'⟩, k4⟩ := hk3 _ _ _ ⟨g3, g3'⟩
      obtain ⟨b4, rfl⟩ := k4
      have HK3 := Lib.hid (HKK2.out.trans hk3)
      have HB3 := Lib.hid (HB2.out.trans ho3)
      clear hk3 ho3 d1 d2 d3 f1 f2 f3 g2 g3 g3'
      obtain ⟨m3, hm3⟩ : ∃ m3 : Nat, m3 = m + 1 + n' := ⟨_, rfl⟩
      rw [← hm3]
      have hm4 : m3 ≤ 2749269444608 := by omega
      have hm5 : m + 1 ≤ m3 := by omega
      have hm6 : m3 + 1 ≤ m + 1048578 := by omega
      clear hm3
      have HK4 := Lib.hid (fun x : Bool => HK3.out.set_ (u := .bool x) ⟨g4, g4'⟩ ⟨_, rfl⟩)
      go_wp2_with fail
      go_roundw
      case rel => exact ⟨j + 1, m3 + 1, by omega, by go_num, by go_num, by omega, by omega, HK4.out _, HB3.out.set_ hb1 hb3 _ _⟩
      case measure => simp [intOf]; omega
    · go_wp2_with fail
      have hmn : m ≤ k + n * 1048578 := Nat.le_trans hmk (Nat.add_le_add_left hjn _)
      go_ret
      exact ⟨⟨m, rfl, hkm, hmn⟩, HB.out⟩

set_option maxRecDepth 100000 in
theorem markFlow_any (A : Option Addr) (n c k : Nat) (f : Flow) (lo hi : Nat) (w : World) (hr : RH stepE w lo hi A n f.steps) (hok : okSteps f.steps) (h1 : 1 ≤ k) (h2 : k ≤ 549755813888) (hhi : hi ≤ w.heap.size) :
    Calls Try.prog 36 #[.agg #[.int .i64 f.ver, .slice A n c], .int .i64 (k : Int)] w fun e w' => (∃ k' : Nat, e = .returned (.int .i64 (k' : Int)) ∧ k ≤ k' ∧ k' ≤ k + n * 1048578) ∧ Out lo hi w w' := by
  have hb0 := (Below.refl w.heap.size w).alloc (Nat.le_refl _) (.cells #[.int .i64 f.ver, .slice A n c] 33)
  have HR := Lib.hid (hr.below hb0 hhi); clear hr
  have HB0 := Lib.hid hb0; clear hb0
  go_enter Try.func36, Try.ntmps36
  go_wp2_with fail
  refine (markStepS_any A n c k f.steps lo hi _ HR.out hok h1 h2 (by simp; omega)).mono ?_
  rintro e w1 ⟨⟨k', rfl, hk1, hk2⟩, ho⟩
  have HO := Lib.hid ((Out.of_below HB0.out).trans ho); clear ho
  go_wp2_with fail
  go_ret
  exact ⟨⟨k', rfl, hk1, hk2⟩, HO.out⟩

set_option maxRecDepth 100000 in
theorem markCaseS_any (A : Option Addr) (n c k : Nat) (ss : List Case) (lo hi : Nat) (w : World) (hr : RH caseE w lo hi A n ss) (hok : okCases ss) (h1 : 1 ≤ k) (h2 : k ≤ 1649269538816) (hhi : hi ≤ w.heap.size) :
    Calls Try.prog 37 #[.slice A n c, .int .i64 (k : Int)] w fun e w' => (∃ k' : Nat, e = .returned (.int .i64 (k' : Int)) ∧ k ≤ k') ∧ Out lo hi w w' := by
  have HL := Lib.hid hr.1
  have hn : n ≤ 1048576 := by have := hok.1; rw [hr.1] at this; exact this
  have hnn : n * 1048578 ≤ 1048576 * 1048578 := Nat.mul_le_mul_right _ hn
  have HR := Lib.hid hr; clear hr
  go_enter Try.func37, Try.ntmps37
  go_wp2_with fail
  go_loopw [1, 5] (fun q i wr => ∃ j m : Nat, j ≤ n ∧ i = .int .i64 (j : Int) ∧ q = .int .i64 (m : Int) ∧ k ≤ m ∧ m ≤ k + j * 1048578 ∧ KeepK w wr ∧ Out lo hi w wr) (fun _ i _ => n - (intOf i).toNat)
  case atStart => exact ⟨0, k, Nat.zero_le _, rfl, rfl, Nat.le_refl _, by omega, KeepK.refl _, Out.refl⟩
  case round =>
    obtain ⟨j, m, hj, rfl, rfl, hkm, hmk, hkk, hb⟩ := hrel
    have HK := Lib.hid hkk; clear hkk
    have HB := Lib.hid hb; clear hb
    have hjn : j * 1048578 ≤ n * 1048578 := Nat.mul_le_mul_right _ hj
    have hm1 : 1 ≤ m := by omega
    have hm2 : m ≤ 2749269444608 := by omega
    have hwr : hi ≤ wr.heap.size := Nat.le_trans hhi HB.out.size
    by_cases hlt : j < n
    · obtain ⟨ts, hts, hlen⟩ := RCase.kin_ HR.out HK.out
      have HTS := Lib.hid hts
      obtain ⟨b, off, e, hb1, hb3, hc⟩ := hts.2 (by omega)
      subst e
      clear hc hts
      have hb2 : b < wr.heap.size := by omega
      have hal := hlen j hlt
      have hao := (hok.2 j (by rw [HL.out]; exact hlt)).2
      go_wp2_with fail
      refine (markText2_any m _ hm1 (by omega)).mono ?_
      rintro e w1 ⟨rfl, hbw⟩
      have HT1 := Lib.hid (HTS.out.below hbw hwr)
      have HB1 := Lib.hid (HB.out.trans (Out.of_below hbw))
      have HK1 := Lib.hid (HK.out.trans (KeepK.of_below hbw))
      have hs1 := hbw.size
      clear hbw
      obtain ⟨b', off', e', _, _, hc⟩ := HT1.out.2 (by omega)
      injection e' with e'; injection e' with e1 e2
      subst e1; subst e2
      obtain ⟨⟨d1, f1⟩, ⟨d2, f2⟩, ⟨A', n', c', ⟨d3, f3⟩, ha, _⟩⟩ := hc j hlt
      clear hc
      have e3 : off + j * caseE.size = off + j * 3 := rfl
      rw [e3] at d1 f1 d2 f2 d3 f3
      clear e3
      have hn' : n' ≤ 1048576 := by rw [← ha.1, hal]; exact hao
      have HK2 := Lib.hid (KeepK.set (u := .string (markS m)) ⟨d1, f1⟩ ⟨_, rfl⟩)
      have HKK2 := Lib.hid (HK1.out.trans HK2.out)
      have HB2 := Lib.hid (HB1.out.set_ hb1 hb3 (off + j * 3) (.string (markS m)))
      obtain ⟨u2, ⟨g2, g2'⟩, k2⟩ := HK2.out _ _ _ ⟨d2, f2⟩
      obtain ⟨i2, rfl⟩ := k2
      have HK3 := Lib.hid (KeepK.set (u := .int .i64 ((m : Int) + 1)) ⟨g2, g2'⟩ ⟨_, rfl⟩)
      have HK23 := Lib.hid (HK2.out.trans HK3.out)
      have HKK3 := Lib.hid (HKK2.out.trans HK3.out)
      have HB3 := Lib.hid (HB2.out.set_ hb1 hb3 (off + j * 3 + 1) (.int .i64 ((m : Int) + 1)))
      obtain ⟨u3, ⟨g3, g3'⟩, k3⟩ := HK23.out _ _ _ ⟨d3, f3⟩
      simp only [kin] at k3
      subst k3
      obtain ⟨ys, hys⟩ := RStr.kin_ ha HK23.out
      have HYS := Lib.hid hys; clear hys
      clear ha
      go_wp2_with fail
      refine (markStr2_any A' n' c' (m + 2) ys lo hi _ HYS.out hn' (by omega) (by omega) (by simp; omega)).mono ?_
      rintro e w3 ⟨rfl, hk3, ho3⟩
      have HK4 := Lib.hid (HKK3.out.trans hk3)
      have HB4 := Lib.hid (HB3.out.trans ho3)
      clear hk3 ho3
      go_wp2_with fail
      go_roundw
      case rel => exact ⟨j + 1, m + 2 + n', by omega, by go_num, rfl, by omega, by omega, HK4.out, HB4.out⟩
      case measure => simp [intOf]; omega
    · go_wp2_with fail
      go_ret
      exact ⟨⟨m, rfl, hkm⟩, HB.out⟩

set_option maxRecDepth 100000 in
theorem heldIntS_any (A : Option Addr) (n c k : Nat) (lo : Nat) (w : World) (hr : RInt w lo A n (marksI k n)) (hn : n ≤ 1048576) (h2 : k ≤ 549755813888) :
    Calls Try.prog 39 #[.slice A n c, .int .i64 (k : Int)] w fun e w' => e = .returned (.int .i64 ((k + n : Nat) : Int)) ∧ Below w.heap.size w w' := by
  have HR := Lib.hid hr; clear hr
  go_enter Try.func39, Try.ntmps39
  go_wp2_with fail
  go_loopw [1, 5] (fun q i wr => ∃ j m : Nat, j ≤ n ∧ i = .int .i64 (j : Int) ∧ q = .int .i64 (m : Int) ∧ m = k + j ∧ Below w.heap.size w wr) (fun _ i _ => n - (intOf i).toNat)
  case atStart => exact ⟨0, k, Nat.zero_le _, rfl, rfl, rfl, Below.refl _ _⟩
  case round =>
    obtain ⟨j, m, hj, rfl, rfl, hm, hb⟩ := hrel
    have HM := Lib.hid hm
    have HB := Lib.hid hb; clear hb
    have hm3 : (m : Int) ≤ 1099511627776 := by omega
    clear hm
    by_cases hlt : j < n
    · obtain ⟨b, off, rfl, _, hc⟩ := RInt.at_ (HR.out.below HB.out) hlt
      obtain ⟨c1, c2⟩ := hc j hlt
      clear hc c2
      rw [marksI_at hlt, ← HM.out] at c1
      have hq : ((m : Int) != (m : Int)) = false := by simp
      go_wp2_with fail
      go_roundw
      case rel => exact ⟨j + 1, m + 1, by omega, by go_num, by go_num, by rw [HM.out, Nat.add_assoc], HB.out⟩
      case measure => simp [intOf]; omega
    · go_wp2_with fail
      go_ret
      exact ⟨ret_i (by rw [HM.out, show j = n by omega]), HB.out⟩
end Go.Proofs.Ythcpjkhijjkolaa

/- Marks on cases of the call's own. -/
namespace Go.Proofs.Ythcpjkhijjkolaa
open Go.RowKit

/-- Where the marks of a case begin. -/
def mkC (F : Nat → Case) (k : Nat) : Nat → Nat
  | 0 => k
  | j + 1 => mkC F k j + 2 + (F j).done.length
def mkF (F : Nat → Case) (k : Nat) (j : Nat) : Case := ⟨markS (mkC F k j), ((mkC F k j : Nat) : Int) + 1, marksS (mkC F k j + 2) (F j).done.length⟩
theorem mkC_lo (F : Nat → Case) (k : Nat) : ∀ j, k ≤ mkC F k j
  | 0 => Nat.le_refl _
  | j + 1 => by have := mkC_lo F k j; show k ≤ mkC F k j + 2 + _; omega
theorem mkC_hi {F : Nat → Case} {k n : Nat} (h : ∀ j, j < n → (F j).done.length ≤ 1000) : ∀ j, j ≤ n → mkC F k j ≤ k + j * 1002
  | 0, _ => by show k ≤ _; omega
  | j + 1, hj => by have h2 := mkC_hi (k := k) h j (by omega); have := h j (by omega); show mkC F k j + 2 + _ ≤ _; omega
theorem DC.congr {w : World} {b off n : Nat} {F G : Nat → Case} {β γ : Nat → Nat} (h : DC w b off n F β γ) (e : ∀ j, j < n → F j = G j) : DC w b off n G β γ :=
  ⟨h.lt, h.hi, fun j hj => by rw [← e j hj]; exact h.at_ j hj, h.ne, h.dis⟩
theorem DC.mark {w w1 w3 : World} {b off n j n' c' : Nat} {A' : Option Addr} {F : Nat → Case} {β γ : Nat → Nat} {s : Str} {z : Int} {ys : List Str} (h : DC w b off n F β γ) (hj : j < n) (hb1 : Below w.heap.size w w1)
    (hc : Cl w b (off + j * 3 + 2) (.slice A' n' c')) (hnc : n' ≤ c') (ho : Out (β j) (γ j) ((w1.setCell ⟨b, off + j * 3, none⟩ (.string s)).setCell ⟨b, off + j * 3 + 1, none⟩ (.int .i64 z)) w3) (hr : RH strE w3 (β j) (γ j) A' n' ys) :
    DC w3 b off n (fun i => if i = j then ⟨s, z, ys⟩ else F i) β γ := by
  have h1 := h.below hb1
  have hsz : ((w1.setCell ⟨b, off + j * 3, none⟩ (.string s)).setCell ⟨b, off + j * 3 + 1, none⟩ (.int .i64 z)).heap.size = w1.heap.size := by simp
  have hs3 : w1.heap.size ≤ w3.heap.size := by have := ho.size; omega
  have hkeep : ∀ i, i ≠ b → ((w1.setCell ⟨b, off + j * 3, none⟩ (.string s)).setCell ⟨b, off + j * 3 + 1, none⟩ (.int .i64 z)).heap[i]? = w1.heap[i]? := fun i hi =>
    (Below.heap_setCell _ _ _ i (by intro e; exact hi e)).trans (Below.heap_setCell _ _ _ i (by intro e; exact hi e))
  have hsb : Same b (b + 1) ((w1.setCell ⟨b, off + j * 3, none⟩ (.string s)).setCell ⟨b, off + j * 3 + 1, none⟩ (.int .i64 z)) w3 := ⟨fun i g1 g2 => by
    rw [show i = b by omega]
    refine ho.block b (by rw [hsz]; exact h1.lt) ?_
    rcases h.ne j hj with g | g
    · exact .inl g
    · exact .inr g⟩
  have hsw : Same b (b + 1) w w1 := ⟨fun i g1 g2 => by rw [show i = b by omega]; exact hb1.block b h.lt⟩
  refine ⟨Nat.lt_of_lt_of_le h1.lt hs3, fun i hi => Nat.le_trans (h1.hi i hi) hs3, fun i hi => ?_, h.ne, h.dis⟩
  by_cases hij : i = j
  · subst hij
    simp only [if_true]
    obtain ⟨_, _, _, d1, d2, _⟩ := h1.at_ i hi
    have d3 := hc.same hsw (Nat.le_refl _) (Nat.lt_succ_self _)
    refine ⟨A', n', c', ?_, ?_, ?_, hr, hnc⟩
    · exact (d1.set_same.set_other (.inr (by omega))).same hsb (Nat.le_refl _) (Nat.lt_succ_self _)
    · exact ((d2.set_other (.inr (by omega))).set_same).same hsb (Nat.le_refl _) (Nat.lt_succ_self _)
    · exact ((d3.set_other (.inr (by omega))).set_other (.inr (by omega))).same hsb (Nat.le_refl _) (Nat.lt_succ_self _)
  · simp only [hij, if_false]
    obtain ⟨A1, n1, c1, d1, d2, d3, d4, d5⟩ := h1.at_ i hi
    refine ⟨A1, n1, c1, ?_, ?_, ?_, ?_, d5⟩
    · exact ((d1.set_other (.inr (by omega))).set_other (.inr (by omega))).same hsb (Nat.le_refl _) (Nat.lt_succ_self _)
    · exact ((d2.set_other (.inr (by omega))).set_other (.inr (by omega))).same hsb (Nat.le_refl _) (Nat.lt_succ_self _)
    · exact ((d3.set_other (.inr (by omega))).set_other (.inr (by omega))).same hsb (Nat.le_refl _) (Nat.lt_succ_self _)
    · have d6 : RH strE ((w1.setCell ⟨b, off + j * 3, none⟩ (.string s)).setCell ⟨b, off + j * 3 + 1, none⟩ (.int .i64 z)) (β i) (γ i) A1 n1 (F i).done := d4.same ⟨fun q g1 g2 => hkeep q (by rcases h.ne i hi with g | g <;> omega)⟩
      exact d6.out ho (by rw [hsz]; exact h1.hi i hi) (h.dis i j hi hj hij)

set_option maxRecDepth 100000 in
set_option maxHeartbeats 1000000 in
theorem markOwn_any (b off n c k lo : Nat) (F : Nat → Case) (β γ : Nat → Nat) (w : World) (h : DC w b off n F β γ) (hn : n ≤ 1000) (hl : ∀ j, j < n → (F j).done.length ≤ 1000) (h1 : 1 ≤ k) (h2 : k ≤ 1000000000) (hlo : lo ≤ b) (hlo2 : ∀ j, j < n → lo ≤ β j ∨ γ j ≤ β j) :
    Calls Try.prog 37 #[.slice (some ⟨b, off, none⟩) n c, .int .i64 (k : Int)] w fun e w' => e = .returned (.int .i64 ((mkC F k n : Nat) : Int)) ∧ DC w' b off n (mkF F k) β γ ∧ Out lo w.heap.size w w' := by
  have HLT := Lib.hid h.lt
  have HHI := Lib.hid h.hi
  have HH := Lib.hid h; clear h
  have HLD := Lib.hid hl; clear hl
  have HL2 := Lib.hid hlo2; clear hlo2
  go_enter Try.func37, Try.ntmps37
  go_wp2_with fail
  go_loopw [1, 5] (fun q i wr => ∃ j : Nat, j ≤ n ∧ i = .int .i64 (j : Int) ∧ q = .int .i64 ((mkC F k j : Nat) : Int) ∧ DC wr b off n (fun i => if i < j then mkF F k i else F i) β γ ∧ Out lo w.heap.size w wr) (fun _ i _ => n - (intOf i).toNat)
  case atStart => exact ⟨0, Nat.zero_le _, rfl, rfl, HH.out.congr (fun j _ => by simp), Out.refl⟩
  case round =>
    obtain ⟨j, hj, rfl, rfl, hdc, hb⟩ := hrel
    have HDC := Lib.hid hdc; clear hdc
    have HB := Lib.hid hb; clear hb
    have hm := mkC_hi (k := k) HLD.out j hj
    have hm0 := mkC_lo F k j
    by_cases hlt : j < n
    · obtain ⟨A', n', c', ⟨d1, f1⟩, ⟨d2, f2⟩, ⟨d3, f3⟩, d4, d5⟩ := HDC.out.at_ j hlt
      have e1 : (if j < j then mkF F k j else F j) = F j := if_neg (by omega)
      simp only [e1] at d1 d2 d4
      have hn' : n' = (F j).done.length := d4.1.symm
      have hdl := HLD.out j hlt
      have HT := Lib.hid (show mkC F k (j + 1) = mkC F k j + 2 + n' by rw [hn']; rfl)
      have HFJ := Lib.hid (show mkF F k j = ⟨markS (mkC F k j), ((mkC F k j : Nat) : Int) + 1, marksS (mkC F k j + 2) n'⟩ by rw [hn']; rfl)
      have HN' := Lib.hid hn'; clear hn'
      have hdl' : n' ≤ 1000 := by rw [HN'.out]; exact hdl
      generalize mkC F k j = m at *
      have hm3 : (m : Int) ≤ 2305843009213693952 := by omega
      have hbl := HDC.out.lt
      go_wp2_with fail
      refine (markText2_any m _ (by omega) (by omega)).mono ?_
      rintro e w1 ⟨rfl, hbw⟩
      have HBW := Lib.hid hbw
      have p1 := (hbw.cell (p := ⟨b, off + j * 3, none⟩) hbl).trans d1
      have p1' := (hbw.frozen (p := ⟨b, off + j * 3, none⟩) hbl).trans f1
      have c2 : Cl w1 b (off + j * 3 + 1) (.int .i64 (F j).st) := ⟨(hbw.cell (p := ⟨b, off + j * 3 + 1, none⟩) hbl).trans d2, (hbw.frozen (p := ⟨b, off + j * 3 + 1, none⟩) hbl).trans f2⟩
      have c3 : Cl w1 b (off + j * 3 + 2) (.slice A' n' c') := ⟨(hbw.cell (p := ⟨b, off + j * 3 + 2, none⟩) hbl).trans d3, (hbw.frozen (p := ⟨b, off + j * 3 + 2, none⟩) hbl).trans f3⟩
      obtain ⟨p2, p2'⟩ := c2.set_other (b' := b) (o' := off + j * 3) (v := .string (markS m)) (.inr (by omega))
      obtain ⟨p3, _⟩ := (c3.set_other (b' := b) (o' := off + j * 3) (v := .string (markS m)) (.inr (by omega))).set_other (b' := b) (o' := off + j * 3 + 1) (v := .int .i64 ((m : Int) + 1)) (.inr (by omega))
      have HRS : Hid (RH strE ((w1.setCell ⟨b, off + j * 3, none⟩ (.string (markS m))).setCell ⟨b, off + j * 3 + 1, none⟩ (.int .i64 ((m : Int) + 1))) (β j) (γ j) A' n' (F j).done) := (d4.below hbw (HDC.out.hi j hlt)).same ⟨fun q g1 g2 => by
        have hq : q ≠ b := by rcases HDC.out.ne j hlt with g | g <;> omega
        exact (Below.heap_setCell _ _ _ q (by intro e; exact hq e)).trans (Below.heap_setCell _ _ _ q (by intro e; exact hq e))⟩
      have HC3 := Lib.hid (show Cl wr b (off + j * 3 + 2) (.slice A' n' c') from ⟨d3, f3⟩)
      have hhi := HDC.out.hi j hlt
      have hs1 := hbw.size
      clear hbw d1 f1 d2 f2 d3 f3 d4 c2 c3 hdl e1 HH
      go_wp2_with fail
      refine (markStringS_any A' n' c' (m + 2) (F j).done (β j) (γ j) _ HRS.out (by omega) (by omega) (by omega) (by simp; omega)).mono ?_
      rintro e w3 ⟨rfl, hr3, ho3⟩
      have HD3 := Lib.hid (HDC.out.mark hlt HBW.out HC3.out d5 ho3 hr3)
      have HO3 := Lib.hid (show Out lo w.heap.size w w3 from by
        have hsw := HB.out.size
        have g0 : Out lo w.heap.size w ((w1.setCell ⟨b, off + j * 3, none⟩ (.string (markS m))).setCell ⟨b, off + j * 3 + 1, none⟩ (.int .i64 ((m : Int) + 1))) := by
          have hbw0 : b < w.heap.size := HLT.out
          exact ((HB.out.trans (Out.of_below HBW.out)).set_ hlo hbw0 _ _).set_ hlo hbw0 _ _
        refine g0.trans ⟨ho3.os, ho3.tape, ho3.output, ho3.size, fun i g1 g2 => ?_⟩
        have g3 := HHI.out j hlt
        refine ho3.block i g1 ?_
        rcases HL2.out j hlt with g4 | g4
        · rcases g2 with g2 | g2
          · exact .inl (by omega)
          · exact .inr (by omega)
        · rcases Nat.lt_or_ge i (β j) with g5 | g5
          · exact .inl g5
          · exact .inr (by omega))
      clear ho3 hr3
      go_wp2_with fail
      go_roundw
      case rel =>
        refine ⟨j + 1, by omega, by go_num, by rw [HT.out]; go_num, HD3.out.congr (fun i hi => ?_), HO3.out⟩
        by_cases hij : i = j
        · subst hij
          rw [if_pos rfl, if_pos (by omega), HFJ.out]
        · rw [if_neg hij]
          by_cases hil : i < j
          · rw [if_pos hil, if_pos (by omega)]
          · rw [if_neg hil, if_neg (by omega)]
      case measure => simp [intOf]; omega
    · obtain rfl : j = n := by omega
      go_wp2_with fail
      go_ret
      exact ⟨rfl, HDC.out.congr (fun i hi => by rw [if_pos hi]), HB.out⟩

set_option maxRecDepth 100000 in
set_option maxHeartbeats 1000000 in
theorem heldOwn_any (b off n c k : Nat) (F : Nat → Case) (β γ : Nat → Nat) (w : World) (h : DC w b off n (mkF F k) β γ) (hn : n ≤ 1000) (hl : ∀ j, j < n → (F j).done.length ≤ 1000) (h1 : 1 ≤ k) (h2 : k ≤ 1000000000) :
    Calls Try.prog 44 #[.slice (some ⟨b, off, none⟩) n c, .int .i64 (k : Int)] w fun e w' => e = .returned (.int .i64 ((mkC F k n : Nat) : Int)) ∧ Below w.heap.size w w' := by
  have HH := Lib.hid h; clear h
  have HLD := Lib.hid hl; clear hl
  go_enter Try.func44, Try.ntmps44
  go_wp2_with fail
  go_loopw [1, 5] (fun q i wr => ∃ j : Nat, j ≤ n ∧ i = .int .i64 (j : Int) ∧ q = .int .i64 ((mkC F k j : Nat) : Int) ∧ Below w.heap.size w wr) (fun _ i _ => n - (intOf i).toNat)
  case atStart => exact ⟨0, Nat.zero_le _, rfl, rfl, Below.refl _ _⟩
  case round =>
    obtain ⟨j, hj, rfl, rfl, hb⟩ := hrel
    have HB := Lib.hid hb; clear hb
    have HDC := Lib.hid (HH.out.below HB.out)
    have hm := mkC_hi (k := k) HLD.out j hj
    have hm0 := mkC_lo F k j
    by_cases hlt : j < n
    · obtain ⟨A', n', c', ⟨d1, f1⟩, ⟨d2, f2⟩, ⟨d3, f3⟩, d4, d5⟩ := HDC.out.at_ j hlt
      have hdl := HLD.out j hlt
      have hn' : n' = (F j).done.length := by rw [← d4.1]; exact marksS_len _ _
      have HT := Lib.hid (show mkC F k (j + 1) = mkC F k j + 2 + n' by rw [hn']; rfl)
      have hfj : mkF F k j = ⟨markS (mkC F k j), ((mkC F k j : Nat) : Int) + 1, marksS (mkC F k j + 2) n'⟩ := by rw [hn']; rfl
      rw [hfj] at d1 d2 d4
      have hdl' : n' ≤ 1000 := by rw [hn']; exact hdl
      clear hn' hfj hdl
      generalize mkC F k j = m at *
      have hm3 : (m : Int) ≤ 2305843009213693952 := by omega
      have hm1 : 1 ≤ m := by omega
      have hm2 : m ≤ 2305843009213693952 := by omega
      have hbl := HDC.out.lt
      have hq : ((markS m).toList != (markS m).toList) = false := by simp
      have hq2 : (((m : Int) + 1) != ((m : Int) + 1)) = false := by simp
      have hss : Hid (RStr wr (β j) A' n' (marksS (m + 2) n')) := d4.up (HDC.out.hi j hlt)
      clear d4
      go_wp2_with fail
      go_region_held3 (fun w' => w'.cell? ⟨b, off + j * 3, none⟩ = some (.string (markS m)))
        (first | go_keep | (rw [hbw.cell (p := ⟨b, off + j * 3, none⟩) (by simpa using hbl)]; assumption))
        (first | (go_at_call 88; refine (markText2_any m _ hm1 hm2).mono ?_; rintro e w1 ⟨rfl, hbw⟩))
      have hbw' : Below wr.heap.size wr w1 := (Below.refl wr.heap.size wr).drew.trans hbw
      have p2 := (hbw'.cell (p := ⟨b, off + j * 3 + 1, none⟩) hbl).trans d2
      have p3 := (hbw'.cell (p := ⟨b, off + j * 3 + 2, none⟩) hbl).trans d3
      have HB1 := Lib.hid (HB.out.trans (hbw'.mono HB.out.size))
      have HS1 := Lib.hid (hss.out.below hbw')
      clear hbw hbw' d1 d2 d3 f1 f2 f3 hss
      go_wp2_with fail
      refine (heldStringS_any A' n' c' (m + 2) _ _ HS1.out (by omega) (by omega) (by omega)).mono ?_
      rintro e w3 ⟨rfl, hb3⟩
      have HB3 := Lib.hid (HB1.out.trans (hb3.mono HB1.out.size))
      clear hb3 p2 p3
      have hpos : ¬ (((m + 2 + n' : Nat) : Int) < 0) := by omega
      go_wp2_with fail
      go_roundw
      case rel => exact ⟨j + 1, by omega, by go_num, by rw [HT.out]; go_num, HB3.out⟩
      case measure => simp [intOf]; omega
    · obtain rfl : j = n := by omega
      go_wp2_with fail
      go_ret
      exact ⟨rfl, HB.out⟩

/-- The marked cases, as a list. -/
def mkL (ss : List Case) (k : Nat) : List Case := (List.range ss.length).map (mkF (nth ss) k)
theorem mkL_len (ss : List Case) (k : Nat) : (mkL ss k).length = ss.length := by simp [mkL]
theorem mkL_at {ss : List Case} {k j : Nat} (hj : j < ss.length) : nth (mkL ss k) j = mkF (nth ss) k j := by
  rw [nth_eq (by rw [mkL_len]; exact hj)]; simp [mkL]
theorem markDR_any (A : Option Addr) (n c k lo : Nat) (ss : List Case) (w : World) (h : DR w lo A n ss) (hn : n ≤ 1000) (hl : ∀ j, j < n → (nth ss j).done.length ≤ 1000) (h1 : 1 ≤ k) (h2 : k ≤ 1000000000) :
    Calls Try.prog 37 #[.slice A n c, .int .i64 (k : Int)] w fun e w' => e = .returned (.int .i64 ((mkC (nth ss) k n : Nat) : Int)) ∧ DR w' lo A n (mkL ss k) ∧ Out lo w.heap.size w w' := by
  have hL := h.1
  rcases Nat.eq_zero_or_pos n with h0 | h0
  · subst h0
    have he : ss = [] := List.length_eq_zero_iff.1 hL
    subst he
    go_enter Try.func37, Try.ntmps37
    go_wp2_with fail
    go_loopw [1, 5] (fun q i wr => q = .int .i64 (k : Int) ∧ i = .int .i64 0 ∧ wr = w) (fun _ _ _ => 0)
    case atStart => exact ⟨rfl, rfl, rfl⟩
    case round =>
      obtain ⟨rfl, rfl, rfl⟩ := hrel
      go_wp2_with fail
      go_ret
      exact ⟨rfl, DR.nil, Out.refl⟩
  · obtain ⟨b, off, β, γ, rfl, e1, e2, e3⟩ := h.2 h0
    refine (markOwn_any b off n c k lo (nth ss) β γ w e3 hn hl h1 h2 e1 e2).mono ?_
    rintro e w' ⟨rfl, hd, ho⟩
    exact ⟨rfl, ⟨by rw [mkL_len]; exact hL, fun _ => ⟨b, off, β, γ, rfl, e1, e2, hd.congr (fun j hj => (mkL_at (by omega)).symm)⟩⟩, ho⟩
theorem heldDR_any (A : Option Addr) (n c k lo : Nat) (ss : List Case) (w : World) (h : DR w lo A n (mkL ss k)) (hn : n ≤ 1000) (hl : ∀ j, j < n → (nth ss j).done.length ≤ 1000) (h1 : 1 ≤ k) (h2 : k ≤ 1000000000) :
    Calls Try.prog 44 #[.slice A n c, .int .i64 (k : Int)] w fun e w' => e = .returned (.int .i64 ((mkC (nth ss) k n : Nat) : Int)) ∧ Below w.heap.size w w' := by
  have hL : ss.length = n := by rw [← h.1, mkL_len]
  rcases Nat.eq_zero_or_pos n with h0 | h0
  · subst h0
    go_enter Try.func44, Try.ntmps44
    go_wp2_with fail
    go_loopw [1, 5] (fun q i wr => q = .int .i64 (k : Int) ∧ i = .int .i64 0 ∧ wr = w) (fun _ _ _ => 0)
    case atStart => exact ⟨rfl, rfl, rfl⟩
    case round =>
      obtain ⟨rfl, rfl, rfl⟩ := hrel
      go_wp2_with fail
      go_ret
      exact ⟨rfl, Below.refl _ _⟩
  · obtain ⟨b, off, β, γ, rfl, e1, e2, e3⟩ := h.2 h0
    exact heldOwn_any b off n c k (nth ss) β γ w (e3.congr (fun j hj => mkL_at (by omega))) hn hl h1 h2
end Go.Proofs.Ythcpjkhijjkolaa

/- Events in exact laws; cases of the call's own beside marks. -/
namespace Go.Proofs.Ythcpjkhijjkolaa
open Go.RowKit

theorem DR.out {w w' : World} {lo lo1 hi1 n : Nat} {A : Option Addr} {ss : List Case} (h : DR w lo A n ss) (ho : Out lo1 hi1 w w') (hd : hi1 ≤ lo) : DR w' lo A n ss :=
  ⟨h.1, fun hn => by
    obtain ⟨b, off, β, γ, e, h1, h2, h3⟩ := h.2 hn
    refine ⟨b, off, β, γ, e, h1, h2, h3.kept ho.size (ho.block b h3.lt (.inr (by omega))) fun j hj i g1 g2 => ho.block i (Nat.lt_of_lt_of_le g2 (h3.hi j hj)) (.inr ?_)⟩
    rcases h2 j hj with g | g <;> omega⟩
theorem DR.low {w : World} {lo n : Nat} {A : Option Addr} {ss : List Case} (h : DR w lo A n ss) : RH caseE w lo w.heap.size A n ss := h.hat
theorem szEvent_any (k : Int) (x : Str) (left : Int) (w : World) (h0 : 0 ≤ left) (h1 : left ≤ 1099511627776) (hx : (x.size : Int) ≤ 9223372036854775807) :
    Calls Try.prog 55 #[.agg #[.int .i64 k, .string x], .int .i64 left] w fun e w' => (∃ r : Int, e = .returned (.int .i64 r)) ∧ Below w.heap.size w w' := by
  by_cases hl : left - (x.size : Int) < 0
  · go_enter Try.func55, Try.ntmps55
    go_wp2_with fail
    go_ret
    exact ⟨⟨_, rfl⟩, (Below.refl _ _).alloc (Nat.le_refl _) _⟩
  · go_enter Try.func55, Try.ntmps55
    go_wp2_with fail
    go_ret
    exact ⟨⟨_, rfl⟩, (Below.refl _ _).alloc (Nat.le_refl _) _⟩
theorem toEvent_any (k : Int) (x : Str) (w : World) :
    Calls Try.prog 56 #[.agg #[.int .i64 k, .string x]] w fun e w' => e = .returned (.agg #[.int .i64 k, .string x]) ∧ Below w.heap.size w w' := by
  go_enter Try.func56, Try.ntmps56
  go_wp2_with fail
  have hres := heap_old (o := .cells #[.int .i64 k, .string x] 73) (heap_new (w := w.alloc (.cells #[.int .i64 k, .string x] 81)) (b := w.heap.size + 1) (o := .cells #[.int .i64 k, .string x] 73) (by simp))
  have e0 := (blk_cl (k := 0) hres rfl).1
  have e1 := (blk_cl (k := 1) hres rfl).1
  exact bodyPost_ret (v := .agg #[.int .i64 k, .string x]) (by simp [results, Try.results56, go_sem, e0, e1]) rfl ⟨rfl, (((Below.refl w.heap.size w).alloc (Nat.le_refl _) _).alloc (by simp) _).alloc (by simp; omega) _⟩
theorem peL_small {f : Flow} {cs : List Case} {nm x : Str} {k : Int} : (peL f cs nm k x).length ≤ 8 ∧ ∀ j, j < (peL f cs nm k x).length → (nth (peL f cs nm k x) j).done.length ≤ 8 := by
  cases h : peB f cs nm k x
  · rw [peL_no h]
    exact ⟨Nat.zero_le _, fun j hj => absurd hj (by simp)⟩
  · have hp := pool_ev h
    exact ⟨pool_len hp, fun j hj => (run_sizes (pool_run hp hj)).1⟩
end Go.Proofs.Ythcpjkhijjkolaa

/- Rows of cases whose lists lie apart, beside a row of names. -/
namespace Go.Proofs.Ythcpjkhijjkolaa
open Go.RowKit

/-- Cases of the call's own, all of them outside one block. -/
def DX (w : World) (lo : Nat) (A : Option Addr) (n : Nat) (ss : List Case) (av : Option Nat) : Prop :=
  ss.length = n ∧ (0 < n → ∃ b off β γ, A = some ⟨b, off, none⟩ ∧ lo ≤ b ∧ (∀ j, j < n → lo ≤ β j ∨ γ j ≤ β j) ∧ DC w b off n (nth ss) β γ ∧ (∀ q, av = some q → ∀ j, j < n → q < β j ∨ γ j ≤ q) ∧ ∃ cur, w.heap[b]? = some (.cells cur 53 (0, 0)))
theorem DX.dr {w : World} {lo n : Nat} {A : Option Addr} {ss : List Case} {av : Option Nat} (h : DX w lo A n ss av) : DR w lo A n ss :=
  ⟨h.1, fun hn => by
    obtain ⟨b, off, β, γ, e, h1, h2, h3, _⟩ := h.2 hn
    exact ⟨b, off, β, γ, e, h1, h2, h3⟩⟩
theorem DX.nil {w : World} {lo : Nat} {A : Option Addr} {av : Option Nat} : DX w lo A 0 [] av := ⟨rfl, fun h => absurd h (by omega)⟩
theorem DX.below {w w' : World} {lo n : Nat} {A : Option Addr} {ss : List Case} {av : Option Nat} (h : DX w lo A n ss av) (hb : Below w.heap.size w w') : DX w' lo A n ss av :=
  ⟨h.1, fun hn => by
    obtain ⟨b, off, β, γ, e, h1, h2, h3, h4, cur, h5⟩ := h.2 hn
    exact ⟨b, off, β, γ, e, h1, h2, h3.below hb, h4, cur, (hb.block _ h3.lt).trans h5⟩⟩
theorem DX.lower {w : World} {lo lo' n : Nat} {A : Option Addr} {ss : List Case} {av : Option Nat} (h : DX w lo A n ss av) (hl : lo' ≤ lo) : DX w lo' A n ss av :=
  ⟨h.1, fun hn => by
    obtain ⟨b, off, β, γ, e, h1, h2, h3⟩ := h.2 hn
    exact ⟨b, off, β, γ, e, by omega, fun j hj => by rcases h2 j hj with h | h; exact .inl (by omega); exact .inr h, h3⟩⟩
theorem DX.out {w w' : World} {lo lo1 hi1 n : Nat} {A : Option Addr} {ss : List Case} {av : Option Nat} (h : DX w lo A n ss av) (ho : Out lo1 hi1 w w') (hd : hi1 ≤ lo) : DX w' lo A n ss av :=
  ⟨h.1, fun hn => by
    obtain ⟨b, off, β, γ, e, h1, h2, h3, h4, cur, h5⟩ := h.2 hn
    refine ⟨b, off, β, γ, e, h1, h2, h3.kept ho.size (ho.block b h3.lt (.inr (by omega))) (fun j hj i g1 g2 => ho.block i (Nat.lt_of_lt_of_le g2 (h3.hi j hj)) (.inr ?_)), h4, cur, (ho.block b h3.lt (.inr (by omega))).trans h5⟩
    rcases h2 j hj with g | g <;> omega⟩

theorem KRowD.drx {w : World} {base n lo1 hi : Nat} {av : Option Nat} {v : Value} {ss : List Case} (h : KRowD w base av lo1 hi v n ss) : ∃ A c, v = .slice A n c ∧ DX w base A n ss av ∧ n ≤ c := by
  have hl := h.row.len
  obtain ⟨A9, c9, hv9, _⟩ := h.row.hat
  have hcap : n ≤ c9 := by subst hv9; exact h.row.cap3
  obtain ⟨ps, rfl, h1, h2, hpw⟩ := h
  obtain ⟨A, c, hv, hf⟩ := own_form h1
  have hcc : c9 = c := by rw [hv9] at hv; injection hv
  refine ⟨A, c, hv, ⟨hl, fun hn => ?_⟩, by omega⟩
  obtain ⟨b, e1, b1, b2, hc⟩ := hf hn
  rw [List.length_map] at hl
  have h3 : ∀ k, k < n → ∀ i u, i < 3 → (ccells (nth ps k))[i]? = some u → Cl w b (0 + k * 3 + i) u := fun k hk i u hi hu => by
    have e2 := flat_at (α := Case × Value) (f := ccells) ccells_len ps k i (by omega) hi
    have := hc (k * 3 + i) u (by rw [e2]; exact hu)
    rwa [Nat.zero_add]
  have each : ∀ k, ∃ β γ : Nat, k < n → ∃ A m c, (nth ps k).2 = .slice A m c ∧ RH strE w β γ A m (nth ps k).1.done ∧ m ≤ c ∧ γ ≤ w.heap.size ∧ (γ = β ∨ (γ = β + 1 ∧ base ≤ β ∧ 0 < m ∧ A = some ⟨β, 0, none⟩ ∧ ∃ cs, w.heap[β]? = some (.cells cs 9 (0, 0)))) ∧ (γ = β → β = 0) ∧ (∀ q, av = some q → q < β ∨ γ ≤ q) := by
    intro k
    by_cases hk : k < n
    · obtain ⟨A', m, c', e2, h4, h5, hav⟩ := h2 (nth ps k) (mem_nth (by omega))
      rcases Nat.eq_zero_or_pos m with h0 | h0
      · subst h0
        exact ⟨0, 0, fun _ => ⟨A', 0, c', e2, ⟨h4.1, fun h => absurd h (by omega)⟩, h5, Nat.zero_le _, .inl rfl, fun _ => rfl, fun q _ => .inr (Nat.zero_le _)⟩⟩
      · obtain ⟨b', cs, e3, h6, h7, h8⟩ := h4.2 h0
        refine ⟨b', b' + 1, fun _ => ⟨A', m, c', e2, ⟨h4.1, fun _ => ?_⟩, h5, heap_lt h7, .inr ⟨rfl, h6, h0, e3, cs, h7⟩, (fun h => absurd h (by omega)), fun q hq => by
          have h9 := (hav b' e3 h0).1
          have : q ≠ b' := fun e => h9 (by rw [hq, e])
          omega⟩⟩
        refine ⟨b', 0, e3, Nat.le_refl _, by omega, fun j hj => ?_⟩
        have := blk_cl h7 (h8 j hj)
        simpa [strE] using this
    · exact ⟨0, 0, fun h => absurd h hk⟩
  obtain ⟨β, γ, hβ⟩ : ∃ β γ : Nat → Nat, ∀ k, k < n → ∃ A m c, (nth ps k).2 = .slice A m c ∧ RH strE w (β k) (γ k) A m (nth ps k).1.done ∧ m ≤ c ∧ γ k ≤ w.heap.size ∧ (γ k = β k ∨ (γ k = β k + 1 ∧ base ≤ β k ∧ 0 < m ∧ A = some ⟨β k, 0, none⟩ ∧ ∃ cs, w.heap[β k]? = some (.cells cs 9 (0, 0)))) ∧ (γ k = β k → β k = 0) ∧ (∀ q, av = some q → q < β k ∨ γ k ≤ q) :=
    ⟨fun k => Classical.choose (each k), fun k => Classical.choose (Classical.choose_spec (each k)), fun k => Classical.choose_spec (Classical.choose_spec (each k))⟩
  have e3 : ∀ k, k < n → nth (ps.map (·.1)) k = (nth ps k).1 := fun k hk => by rw [nth_eq (by rw [List.length_map]; omega), nth_eq (by omega)]; simp
  have hbt : ∃ cur, w.heap[b]? = some (.cells cur 53 (0, 0)) := row_blk h1 (by rw [hv, e1]; simp [Value.ownBlock])
  obtain ⟨cur, hcur⟩ := hbt
  refine ⟨b, 0, β, γ, e1, b1, fun j hj => ?_, ⟨b2, fun j hj => ?_, fun j hj => ?_, fun j hj => ?_, fun i j hi hj hij => ?_⟩, ?_, ?_⟩
  · obtain ⟨_, _, _, _, _, _, _, h6, _⟩ := hβ j hj
    rcases h6 with h6 | ⟨_, h7, _⟩
    · exact .inr (by omega)
    · exact .inl h7
  · obtain ⟨_, _, _, _, _, _, h6, _⟩ := hβ j hj
    exact h6
  · obtain ⟨A', m, c', e2, h4, h5, _⟩ := hβ j hj
    rw [e3 j hj]
    refine ⟨A', m, c', h3 j hj 0 _ (by omega) rfl, h3 j hj 1 _ (by omega) rfl, ?_, h4, h5⟩
    have := h3 j hj 2 _ (by omega) rfl
    rwa [e2] at this
  · obtain ⟨_, _, _, _, _, _, _, h6, h8, _⟩ := hβ j hj
    rcases h6 with h6 | ⟨h6, _, _, _, cs, h7⟩
    · have := h8 h6; right; omega
    · have hne : b ≠ β j := fun e => by
        rw [← e, hcur] at h7
        have := Option.some.inj h7
        injection this with _ e4
        exact absurd e4 (by decide)
      omega
  · obtain ⟨Ai, mi, ci, ei, _, _, _, h6, h8, _⟩ := hβ i hi
    obtain ⟨Aj, mj, cj, ej, _, _, _, g6, g8, _⟩ := hβ j hj
    rcases h6 with h6 | ⟨h6, _, hm1, ha1, _⟩
    · have := h8 h6; left; omega
    · rcases g6 with g6 | ⟨g6, _, gm1, ga1, _⟩
      · have := g8 g6; right; omega
      · have hne : β i ≠ β j := fun e => by
          have hp := List.pairwise_iff_getElem.1 hpw
          rcases Nat.lt_or_ge i j with hl' | hl'
          · have := hp i j (by omega) (by omega) hl' (β i) Ai mi ci Aj mj cj (by rw [← nth_eq]; exact ei) (by rw [← nth_eq]; exact ej) hm1 gm1 ha1
            rw [e] at this
            exact this ga1
          · have := hp j i (by omega) (by omega) (by omega) (β j) Aj mj cj Ai mi ci (by rw [← nth_eq]; exact ej) (by rw [← nth_eq]; exact ei) gm1 hm1 ga1
            rw [← e] at this
            exact this ha1
        omega
  · intro q hq j hj
    obtain ⟨_, _, _, _, _, _, _, _, _, h9⟩ := hβ j hj
    exact h9 q hq
  · exact ⟨_, hcur⟩
end Go.Proofs.Ythcpjkhijjkolaa

/- Marks on cases of the call's own, and what they leave. -/
namespace Go.Proofs.Ythcpjkhijjkolaa
open Go.RowKit

set_option maxRecDepth 100000 in
set_option maxHeartbeats 1000000 in
theorem markOwnQ_any (b off n c k lo : Nat) (F : Nat → Case) (β γ : Nat → Nat) (w : World) (h : DC w b off n F β γ) (hn : n ≤ 1000) (hl : ∀ j, j < n → (F j).done.length ≤ 1000) (h1 : 1 ≤ k) (h2 : k ≤ 1000000000) (hlo : lo ≤ b) (hlo2 : ∀ j, j < n → lo ≤ β j ∨ γ j ≤ β j) :
    Calls Try.prog 37 #[.slice (some ⟨b, off, none⟩) n c, .int .i64 (k : Int)] w fun e w' => e = .returned (.int .i64 ((mkC F k n : Nat) : Int)) ∧ DC w' b off n (mkF F k) β γ ∧ Out lo w.heap.size w w' ∧ (∀ q, q < w.heap.size → q ≠ b → (∀ j, j < n → q < β j ∨ γ j ≤ q) → w'.heap[q]? = w.heap[q]?) := by
  have HLT := Lib.hid h.lt
  have HHI := Lib.hid h.hi
  have HH := Lib.hid h; clear h
  have HLD := Lib.hid hl; clear hl
  have HL2 := Lib.hid hlo2; clear hlo2
  go_enter Try.func37, Try.ntmps37
  go_wp2_with fail
  go_loopw [1, 5] (fun q i wr => ∃ j : Nat, j ≤ n ∧ i = .int .i64 (j : Int) ∧ q = .int .i64 ((mkC F k j : Nat) : Int) ∧ DC wr b off n (fun i => if i < j then mkF F k i else F i) β γ ∧ Out lo w.heap.size w wr ∧ (∀ q, q < w.heap.size → q ≠ b → (∀ j, j < n → q < β j ∨ γ j ≤ q) → wr.heap[q]? = w.heap[q]?)) (fun _ i _ => n - (intOf i).toNat)
  case atStart => exact ⟨0, Nat.zero_le _, rfl, rfl, HH.out.congr (fun j _ => by simp), Out.refl, fun _ _ _ _ => rfl⟩
  case round =>
    obtain ⟨j, hj, rfl, rfl, hdc, hb, hqq⟩ := hrel
    have HQQ := Lib.hid hqq; clear hqq
    have HDC := Lib.hid hdc; clear hdc
    have HB := Lib.hid hb; clear hb
    have hm := mkC_hi (k := k) HLD.out j hj
    have hm0 := mkC_lo F k j
    by_cases hlt : j < n
    · obtain ⟨A', n', c', ⟨d1, f1⟩, ⟨d2, f2⟩, ⟨d3, f3⟩, d4, d5⟩ := HDC.out.at_ j hlt
      have e1 : (if j < j then mkF F k j else F j) = F j := if_neg (by omega)
      simp only [e1] at d1 d2 d4
      have hn' : n' = (F j).done.length := d4.1.symm
      have hdl := HLD.out j hlt
      have HT := Lib.hid (show mkC F k (j + 1) = mkC F k j + 2 + n' by rw [hn']; rfl)
      have HFJ := Lib.hid (show mkF F k j = ⟨markS (mkC F k j), ((mkC F k j : Nat) : Int) + 1, marksS (mkC F k j + 2) n'⟩ by rw [hn']; rfl)
      have HN' := Lib.hid hn'; clear hn'
      have hdl' : n' ≤ 1000 := by rw [HN'.out]; exact hdl
      generalize mkC F k j = m at *
      have hm3 : (m : Int) ≤ 2305843009213693952 := by omega
      have hbl := HDC.out.lt
      go_wp2_with fail
      refine (markText2_any m _ (by omega) (by omega)).mono ?_
      rintro e w1 ⟨rfl, hbw⟩
      have HBW := Lib.hid hbw
      have p1 := (hbw.cell (p := ⟨b, off + j * 3, none⟩) hbl).trans d1
      have p1' := (hbw.frozen (p := ⟨b, off + j * 3, none⟩) hbl).trans f1
      have c2 : Cl w1 b (off + j * 3 + 1) (.int .i64 (F j).st) := ⟨(hbw.cell (p := ⟨b, off + j * 3 + 1, none⟩) hbl).trans d2, (hbw.frozen (p := ⟨b, off + j * 3 + 1, none⟩) hbl).trans f2⟩
      have c3 : Cl w1 b (off + j * 3 + 2) (.slice A' n' c') := ⟨(hbw.cell (p := ⟨b, off + j * 3 + 2, none⟩) hbl).trans d3, (hbw.frozen (p := ⟨b, off + j * 3 + 2, none⟩) hbl).trans f3⟩
      obtain ⟨p2, p2'⟩ := c2.set_other (b' := b) (o' := off + j * 3) (v := .string (markS m)) (.inr (by omega))
      obtain ⟨p3, _⟩ := (c3.set_other (b' := b) (o' := off + j * 3) (v := .string (markS m)) (.inr (by omega))).set_other (b' := b) (o' := off + j * 3 + 1) (v := .int .i64 ((m : Int) + 1)) (.inr (by omega))
      have HRS : Hid (RH strE ((w1.setCell ⟨b, off + j * 3, none⟩ (.string (markS m))).setCell ⟨b, off + j * 3 + 1, none⟩ (.int .i64 ((m : Int) + 1))) (β j) (γ j) A' n' (F j).done) := (d4.below hbw (HDC.out.hi j hlt)).same ⟨fun q g1 g2 => by
        have hq : q ≠ b := by rcases HDC.out.ne j hlt with g | g <;> omega
        exact (Below.heap_setCell _ _ _ q (by intro e; exact hq e)).trans (Below.heap_setCell _ _ _ q (by intro e; exact hq e))⟩
      have HC3 := Lib.hid (show Cl wr b (off + j * 3 + 2) (.slice A' n' c') from ⟨d3, f3⟩)
      have hhi := HDC.out.hi j hlt
      have hs1 := hbw.size
      clear hbw d1 f1 d2 f2 d3 f3 d4 c2 c3 hdl e1 HH
      go_wp2_with fail
      refine (markStringS_any A' n' c' (m + 2) (F j).done (β j) (γ j) _ HRS.out (by omega) (by omega) (by omega) (by simp; omega)).mono ?_
      rintro e w3 ⟨rfl, hr3, ho3⟩
      have HD3 := Lib.hid (HDC.out.mark hlt HBW.out HC3.out d5 ho3 hr3)
      have HO3 := Lib.hid (show Out lo w.heap.size w w3 from by
        have hsw := HB.out.size
        have g0 : Out lo w.heap.size w ((w1.setCell ⟨b, off + j * 3, none⟩ (.string (markS m))).setCell ⟨b, off + j * 3 + 1, none⟩ (.int .i64 ((m : Int) + 1))) := by
          have hbw0 : b < w.heap.size := HLT.out
          exact ((HB.out.trans (Out.of_below HBW.out)).set_ hlo hbw0 _ _).set_ hlo hbw0 _ _
        refine g0.trans ⟨ho3.os, ho3.tape, ho3.output, ho3.size, fun i g1 g2 => ?_⟩
        have g3 := HHI.out j hlt
        refine ho3.block i g1 ?_
        rcases HL2.out j hlt with g4 | g4
        · rcases g2 with g2 | g2
          · exact .inl (by omega)
          · exact .inr (by omega)
        · rcases Nat.lt_or_ge i (β j) with g5 | g5
          · exact .inl g5
          · exact .inr (by omega))
      have HQ3 := Lib.hid (fun q (g1 : q < w.heap.size) (g2 : q ≠ b) (g3 : ∀ j, j < n → q < β j ∨ γ j ≤ q) => (by
        have hsw := HB.out.size
        have hsq : ((w1.setCell ⟨b, off + j * 3, none⟩ (.string (markS m))).setCell ⟨b, off + j * 3 + 1, none⟩ (.int .i64 ((m : Int) + 1))).heap.size = w1.heap.size := by simp
        have e1 := ho3.block q (by rw [hsq]; omega) (g3 j hlt)
        have e2 : ((w1.setCell ⟨b, off + j * 3, none⟩ (.string (markS m))).setCell ⟨b, off + j * 3 + 1, none⟩ (.int .i64 ((m : Int) + 1))).heap[q]? = w1.heap[q]? := (Below.heap_setCell _ _ _ q (by intro e; exact g2 e)).trans (Below.heap_setCell _ _ _ q (by intro e; exact g2 e))
        exact e1.trans (e2.trans ((HBW.out.block q (by omega)).trans (HQQ.out q g1 g2 g3))) : w3.heap[q]? = w.heap[q]?))
      clear ho3 hr3
      go_wp2_with fail
      go_roundw
      case rel =>
        refine ⟨j + 1, by omega, by go_num, by rw [HT.out]; go_num, HD3.out.congr (fun i hi => ?_), HO3.out, HQ3.out⟩
        by_cases hij : i = j
        · subst hij
          rw [if_pos rfl, if_pos (by omega), HFJ.out]
        · rw [if_neg hij]
          by_cases hil : i < j
          · rw [if_pos hil, if_pos (by omega)]
          · rw [if_neg hil, if_neg (by omega)]
      case measure => simp [intOf]; omega
    · obtain rfl : j = n := by omega
      go_wp2_with fail
      go_ret
      exact ⟨rfl, HDC.out.congr (fun i hi => by rw [if_pos hi]), HB.out, HQQ.out⟩

end Go.Proofs.Ythcpjkhijjkolaa

/- Marks on cases beside a row of names. -/
namespace Go.Proofs.Ythcpjkhijjkolaa
open Go.RowKit

/-- Cases of the call's own outside a stretch of blocks. -/
def DRM (w : World) (lo : Nat) (A : Option Addr) (n : Nat) (ss : List Case) (q1 q2 : Nat) : Prop :=
  ss.length = n ∧ (0 < n → ∃ b off β γ, A = some ⟨b, off, none⟩ ∧ lo ≤ b ∧ (∀ j, j < n → lo ≤ β j ∨ γ j ≤ β j) ∧ DC w b off n (nth ss) β γ ∧ (b < q1 ∨ q2 ≤ b) ∧ ∀ j, j < n → γ j ≤ q1 ∨ q2 ≤ β j ∨ γ j ≤ β j)
theorem DRM.outQ {w w' : World} {lo n q1 q2 : Nat} {A : Option Addr} {ss : List Case} (h : DRM w lo A n ss q1 q2) (ho : Out q1 q2 w w') : DR w' lo A n ss :=
  ⟨h.1, fun hn => by
    obtain ⟨b, off, β, γ, e, h1, h2, h3, h4, h5⟩ := h.2 hn
    refine ⟨b, off, β, γ, e, h1, h2, h3.kept ho.size (ho.block b h3.lt h4) fun j hj i g1 g2 => ho.block i (Nat.lt_of_lt_of_le g2 (h3.hi j hj)) ?_⟩
    rcases h5 j hj with g | g | g <;> omega⟩
set_option maxRecDepth 100000 in
theorem markDX_any (A C : Option Addr) (n c k kn e base : Nat) (ss : List Case) (xs : List Str) (w : World) (h : DX w base A n ss (Value.slice C kn e).ownBlock) (hnm : w.ownsRow base 9 1 (.slice C kn e) kn (xs.map Value.string)) (hb : base ≤ w.heap.size) (hn : n ≤ 1000) (hl : ∀ j, j < n → (nth ss j).done.length ≤ 1000) (h1 : 1 ≤ k) (h2 : k ≤ 1000000000) :
    Calls Try.prog 37 #[.slice A n c, .int .i64 (k : Int)] w fun e' w' => e' = .returned (.int .i64 ((mkC (nth ss) k n : Nat) : Int)) ∧ Out base w.heap.size w w' ∧ ∃ q1 q2, RH strE w' q1 q2 C kn xs ∧ base ≤ q1 ∧ q1 ≤ q2 ∧ q2 ≤ w.heap.size ∧ DRM w' base A n (mkL ss k) q1 q2 := by
  have hL := h.1
  obtain ⟨A9, c9, e9, hss⟩ := own_sstr hnm
  injection e9 with i1 i2 i3
  subst i1; subst i3
  obtain ⟨q1, q2, r1, r2, r3, r4, r5⟩ : ∃ q1 q2, RH strE w q1 q2 C kn xs ∧ base ≤ q1 ∧ q1 ≤ q2 ∧ q2 ≤ w.heap.size ∧ ((q2 = q1 ∧ q1 = base) ∨ (q2 = q1 + 1 ∧ (Value.slice C kn e).ownBlock = some q1 ∧ ∃ cs, w.heap[q1]? = some (.cells cs 9 (0, 0)))) := by
    rcases Nat.eq_zero_or_pos kn with h0 | h0
    · subst h0
      exact ⟨base, base, ⟨hss.1, fun h => absurd h (by omega)⟩, Nat.le_refl _, Nat.le_refl _, hb, .inl ⟨rfl, rfl⟩⟩
    · obtain ⟨b', cs, e3, h6, h7, h8⟩ := hss.2 h0
      refine ⟨b', b' + 1, ⟨hss.1, fun _ => ?_⟩, h6, Nat.le_succ _, heap_lt h7, .inr ⟨rfl, by rw [e3]; simp [Value.ownBlock], cs, h7⟩⟩
      refine ⟨b', 0, e3, Nat.le_refl _, by omega, fun j hj => ?_⟩
      have := blk_cl h7 (h8 j hj)
      simpa [strE] using this
  rcases Nat.eq_zero_or_pos n with h0 | h0
  · subst h0
    have he : ss = [] := List.length_eq_zero_iff.1 hL
    subst he
    go_enter Try.func37, Try.ntmps37
    go_wp2_with fail
    go_loopw [1, 5] (fun q i wr => q = .int .i64 (k : Int) ∧ i = .int .i64 0 ∧ wr = w) (fun _ _ _ => 0)
    case atStart => exact ⟨rfl, rfl, rfl⟩
    case round =>
      obtain ⟨rfl, rfl, rfl⟩ := hrel
      go_wp2_with fail
      go_ret
      exact ⟨rfl, Out.refl, q1, q2, r1, r2, r3, r4, rfl, fun h => absurd h (by omega)⟩
  · obtain ⟨b, off, β, γ, rfl, e1, e2, e3, e4, cur, e5⟩ := h.2 h0
    have hbq : b < q1 ∨ q2 ≤ b := by
      rcases r5 with r5 | ⟨r5, _, cs, r7⟩
      · omega
      · have hne : b ≠ q1 := fun e => by
          rw [e, r7] at e5
          have := Option.some.inj e5
          injection this with _ e6
          exact absurd e6 (by decide)
        omega
    have hjq : ∀ j, j < n → γ j ≤ q1 ∨ q2 ≤ β j ∨ γ j ≤ β j := fun j hj => by
      rcases r5 with r5 | ⟨r5, r6, _⟩
      · rcases e2 j hj with g | g
        · exact .inr (.inl (by omega))
        · exact .inr (.inr g)
      · rcases e4 q1 r6 j hj with g | g <;> omega
    refine (markOwnQ_any b off n c k base (nth ss) β γ w e3 hn hl h1 h2 e1 e2).mono ?_
    rintro e' w' ⟨rfl, hd, ho, hq⟩
    refine ⟨rfl, ho, q1, q2, ?_, r2, r3, r4, by rw [mkL_len]; exact hL, fun _ => ⟨b, off, β, γ, rfl, e1, e2, hd.congr (fun j hj => (mkL_at (by omega)).symm), hbq, hjq⟩⟩
    refine r1.same ⟨fun i g1 g2 => hq i (by omega) (by omega) fun j hj => ?_⟩
    rcases hjq j hj with g | g | g <;> omega
end Go.Proofs.Ythcpjkhijjkolaa

/- Pools: clearing, the program's side, each list apart. -/
namespace Go.Proofs.Ythcpjkhijjkolaa
open Go.RowKit

structure SplD (w wr : World) (k : Nat) (v1 v2 : Value) (n1 n2 : Nat) (cs : List Case) : Prop where
  row : KRowD wr w.heap.size v2.ownBlock w.heap.size wr.heap.size v1 n1 (stayL (cs.take k))
  nms : wr.ownsRow w.heap.size 9 1 v2 n2 ((goneL (cs.take k)).map Value.string)
  below : Below w.heap.size w wr

set_option maxRecDepth 100000 in
set_option maxHeartbeats 2000000 in
theorem splitD_any (B : Option Addr) (m d : Nat) (cs : List Case) (lo' : Nat) (w : World) (hd : RCase w lo' B m cs) (hcs : okCases cs) :
    Calls Try.prog 90 #[.slice B m d, .func (.func 91) #[] #[]] w fun e w' => ∃ B' m' d' C k e', e = .returned (.tuple #[.slice B' m' d', .slice C k e']) ∧
      DX w' w.heap.size B' m' (stayL cs) (Value.slice C k e').ownBlock ∧ m' ≤ d' ∧ w'.ownsRow w.heap.size 9 1 (.slice C k e') k ((goneL cs).map Value.string) ∧ Below w.heap.size w w' := by
  have HL := Lib.hid hd.1
  have hm : m ≤ 1048576 := by have := hcs.1; rw [hd.1] at this; exact this
  have HD := Lib.hid hd; clear hd
  have HC := Lib.hid hcs; clear hcs
  go_enter Try.func90, Try.ntmps90
  go_wp2_with fail
  go_loopw [6, 7, 14] (fun v1 v2 i wr => ∃ k n1 n2 : Nat, k ≤ m ∧ i = .int .i64 (k : Int) ∧ SplD w wr k v1 v2 n1 n2 cs) (fun _ _ i _ => m - (intOf i).toNat)
  case atStart => exact ⟨0, 0, 0, Nat.zero_le _, rfl, KRowD.nil, own_nil, Below.refl _ _⟩
  case round =>
    obtain ⟨wo, rfl⟩ : ∃ wo : World, wo = wr := ⟨_, rfl⟩
    obtain ⟨k, n1, n2, hk, rfl, hI⟩ := hrel
    have HI := Lib.hid hI; clear hI
    obtain ⟨A1, c1, rfl, _⟩ := HI.out.row.row.hat
    obtain ⟨A2, c2, rfl, _⟩ := own_sstr HI.out.nms
    have hn1 : n1 ≤ k := by
      have h1 := HI.out.row.row.len
      have h2 := stay_le (cs.take k)
      rw [List.length_take] at h2
      omega
    have hn2 : n2 ≤ k := by
      have h1 := HI.out.nms.1
      have h2 := gone_le (cs.take k)
      rw [List.length_take] at h2
      simp at h1
      omega
    by_cases hlt : k < m
    · obtain ⟨b, off, rfl, _, hc⟩ := RCase.at_ (HD.out.below HI.out.below) hlt
      obtain ⟨A', n', c', ⟨d1, d2, d3⟩, hdr, hnc, _⟩ := hc k hlt
      clear hc
      have hkl : k < cs.length := by rw [HL.out]; exact hlt
      have hn' : n' ≤ 1048576 := by rw [← hdr.1]; exact (HC.out.2 k hkl).2
      have HDR := Lib.hid (hdr.alloc (.cells #[.string (nth cs k).name, .int .i64 (nth cs k).st, .slice A' n' c'] 53)); clear hdr
      have HX := Lib.hid (heap_new (w := wo) (o := .cells #[.string (nth cs k).name, .int .i64 (nth cs k).st, .slice A' n' c'] 53) rfl)
      have HROW := Lib.hid (HI.out.row.alloc (.cells #[.string (nth cs k).name, .int .i64 (nth cs k).st, .slice A' n' c'] 53))
      have HNMS := Lib.hid (HI.out.nms.alloc (.cells #[.string (nth cs k).name, .int .i64 (nth cs k).st, .slice A' n' c'] 53))
      have HB := Lib.hid (HI.out.below.alloc HI.out.below.size (.cells #[.string (nth cs k).name, .int .i64 (nth cs k).st, .slice A' n' c'] 53))
      go_wp2_with fail
      refine (clear1_any A' n' c' (nth cs k).st _).mono ?_
      rintro e w3 ⟨rfl, hb3⟩
      have HX3 := Lib.hid (heap_old (o := .cells #[.int .i64 (nth cs k).st, .slice A' n' c'] 35) ((hb3.block _ (heap_lt HX.out)).trans HX.out))
      have HY3 := Lib.hid (heap_new (w := w3) (o := .cells #[.int .i64 (nth cs k).st, .slice A' n' c'] 35) rfl)
      have HROW3 := Lib.hid ((HROW.out.below hb3).alloc (.cells #[.int .i64 (nth cs k).st, .slice A' n' c'] 35))
      have HNMS3 := Lib.hid ((row_below HNMS.out hb3).alloc (.cells #[.int .i64 (nth cs k).st, .slice A' n' c'] 35))
      have HB3a := HB.out.trans (hb3.mono HB.out.size)
      have HB3 := Lib.hid (HB3a.alloc HB3a.size (.cells #[.int .i64 (nth cs k).st, .slice A' n' c'] 35))
      have HDR3 := Lib.hid ((HDR.out.below hb3).alloc (.cells #[.int .i64 (nth cs k).st, .slice A' n' c'] 35))
      have HNE := Lib.hid (fun b (h : (Value.slice A2 n2 c2).ownBlock = some b) => (by
        obtain ⟨cur, hcur⟩ := row_blk HNMS3.out h
        exact HROW3.out.row.ne hcur (by decide) : (Value.slice A1 n1 c1).ownBlock ≠ some b))
      have hs3 : wo.heap.size < w3.heap.size := by have := hb3.size; simp at this; omega
      clear hb3 HB3a HX HROW HNMS HB HDR d1 d2 d3
      have hG : (decide ((nth cs k).st = 0) || decide ((nth cs k).st = 1)) = goesB (nth cs k) := rfl
      rw [hG]
      clear hG
      have x0 := (blk_cl (k := 0) HX3.out rfl).1
      have y0 := (blk_cl (k := 0) HY3.out rfl).1
      have y1 := (blk_cl (k := 1) HY3.out rfl).1
      go_upto_region 7 with fail
      generalize ewk : w3.alloc (.cells #[.int .i64 (nth cs k).st, .slice A' n' c'] 35) = wk at *
      have hsk : w3.heap.size < wk.heap.size := heap_lt HY3.out
      have hsk2 : wo.heap.size < wk.heap.size := by omega
      clear ewk
      cases hgo : goesB (nth cs k)
      · have HT1 := Lib.hid (stay_no hkl hgo)
        have HT2 := Lib.hid (gone_yes hkl hgo)
        clear hgo
        go_wp2_with (at_builtin; refine app_strW w.heap.size (.slice A2 n2 c2) n2 (goneL (cs.take k)) _ (nth cs k).name ?c0 rfl (.tmp 34) (.tmp 37) rfl rfl rfl ?c1 (by omega) ?c2 ?_)
        case c0 => exact HNMS3.out.alloc _
        case c1 => exact heap_new rfl
        case c2 => have := HB3.out.size; simp; omega
        intro v8 w8 hrow8 hg8 hat8
        replace hrow8 : w8.ownsRow w.heap.size 9 1 v8 (n2 + 1) ((goneL (cs.take k) ++ [(nth cs k).name]).map Value.string) := by rw [List.map_append]; exact hrow8
        have HR8 := Lib.hid hrow8; clear hrow8
        have HB8 := Lib.hid ((HB3.out.alloc HB3.out.size (.cells #[.string (nth cs k).name] 9)).grown hg8 (by have := HB3.out.size; simp; omega) (fun b hb => (HNMS3.out.lt b hb).1))
        have hat9 : v8.ownBlock = (Value.slice A2 n2 c2).ownBlock ∨ v8.ownBlock = some (wk.alloc (.cells #[.string (nth cs k).name] 9)).heap.size := by simpa using hat8
        have hs8 : wo.heap.size ≤ w8.heap.size := by have := hg8.size; (try simp at this); omega
        have HK8 := Lib.hid (((HROW3.out.alloc (.cells #[.string (nth cs k).name] 9)).grown hg8 (fun b hb he => HNE.out b he hb) hat9).wide (Nat.le_refl _) hs8)
        clear hg8 hat8 hat9 x0 y0 y1
        go_wp2_with fail
        go_roundw
        case rel => exact ⟨k + 1, n1, n2 + 1, by omega, by go_num, ⟨by rw [HT1.out]; exact HK8.out, by rw [HT2.out]; exact HR8.out, HB8.out⟩⟩
        case measure => simp [intOf]; omega
      · have HT1 := Lib.hid (stay_yes hkl hgo)
        have HT2 := Lib.hid (gone_no hkl hgo)
        clear hgo
        have hsw : w.heap.size ≤ wk.heap.size := HB3.out.size
        have HSB : Hid (∀ w', Below wk.heap.size wk w' → (w'.cell? ⟨wo.heap.size, 0, none⟩ = some (.string (nth cs k).name) ∧ w'.cell? ⟨w3.heap.size, 0, none⟩ = some (.int .i64 (nth cs k).st) ∧ w'.cell? ⟨w3.heap.size, 1, none⟩ = some (.slice A' n' c')) ∧ Below wk.heap.size wk w') := fun w' h =>
          ⟨⟨(blk_cl (k := 0) ((h.block _ (heap_lt HX3.out)).trans HX3.out) rfl).1, (blk_cl (k := 0) ((h.block _ (heap_lt HY3.out)).trans HY3.out) rfl).1, (blk_cl (k := 1) ((h.block _ (heap_lt HY3.out)).trans HY3.out) rfl).1⟩, h⟩
        have HKP : Hid (∀ {w5 w7 : World} {o : Obj}, Below wk.heap.size wk w5 → (w5.alloc o).grownBy w7 (Value.slice A1 n1 c1).ownBlock → (w7.cell? ⟨wo.heap.size, 0, none⟩ = some (.string (nth cs k).name) ∧ w7.cell? ⟨w3.heap.size, 0, none⟩ = some (.int .i64 (nth cs k).st) ∧ w7.cell? ⟨w3.heap.size, 1, none⟩ = some (.slice A' n' c'))) := fun {w5 w7 o} h hg => by
          have n1' : (Value.slice A1 n1 c1).ownBlock ≠ some wo.heap.size := fun e => by
            have h1 := (KRow.lt HI.out.row.row e).2
            omega
          have n2' : (Value.slice A1 n1 c1).ownBlock ≠ some w3.heap.size := fun e => by
            have h1 := (KRow.lt HI.out.row.row e).2
            omega
          have e1 := grown_blk hg (heap_old (o := o) ((h.block _ (heap_lt HX3.out)).trans HX3.out)) n1'
          have e2 := grown_blk hg (heap_old (o := o) ((h.block _ (heap_lt HY3.out)).trans HY3.out)) n2'
          exact ⟨(blk_cl (k := 0) e1 rfl).1, (blk_cl (k := 0) e2 rfl).1, (blk_cl (k := 1) e2 rfl).1⟩
        go_wp2_with fail
        go_region_held3 (fun w' => w'.cell? ⟨wo.heap.size, 0, none⟩ = some (.string (nth cs k).name) ∧ w'.cell? ⟨w3.heap.size, 0, none⟩ = some (.int .i64 (nth cs k).st) ∧ w'.cell? ⟨w3.heap.size, 1, none⟩ = some (.slice A' n' c'))
          (first | exact hk7 | exact (HSB.out _ (Below.refl _ _).drew).1 | exact (HSB.out _ hbw).1 | exact (HSB.out _ (hbw.alloc hbw.size _)).1 | fail "keep")
          (first
            | (go_at_call 120; refine (cloneRun_any _ _ _ (nth cs k).st (nth cs k).done _ _ (HDR3.out.below (Below.refl _ _).drew) hn').mono ?_; rintro e w5 ⟨A5, c5, rfl, hss5, hc5, hb5⟩; have hbw : Below wk.heap.size wk w5 := (Below.refl wk.heap.size wk).drew.trans hb5)
            | (refine case_stepD (o := ⟨some 33, _, _, _, _, _⟩) w.heap.size w.heap.size wo.heap.size w.heap.size w5.heap.size (Value.slice A2 n2 c2).ownBlock _ n1 (stayL (cs.take k)) _ (nth cs k) A5 n' c5 (by exact (HROW3.out.below hbw).alloc _) (by exact (hss5.mono hsw).alloc _) hc5 (Nat.le_refl _) (by (have := hbw.size; omega)) (fun b hb hm => by (have h2 := hss5.lt hm hb; have h3 : wk.drew.heap.size = wk.heap.size := rfl; exact ⟨(fun he => by (have h1 := (HNMS3.out.lt b he).2; omega)), Or.inl (by omega), by omega, h2.2⟩)) (by rfl) (.tmp 26) (.tmp 32) (by rfl) (by rfl) (by rfl) (by exact heap_new rfl) (by omega) (by (have h1 := hbw.size; simp; omega)) ?_; intro v7 w7 how7 hg7 hat7; have hk7 := HKP.out hbw hg7)
            | fail "no arm")
        have HB5a := HB3.out.trans (hbw.mono hsw)
        have HN7 := Lib.hid (row_grown ((row_below HNMS3.out hbw).alloc (.cells #[.string (nth cs k).name, .int .i64 (nth cs k).st, .slice A5 n' c5] 53)) hg7 (fun b hb => HNE.out b hb))
        have HB7 := Lib.hid ((HB5a.alloc HB5a.size (.cells #[.string (nth cs k).name, .int .i64 (nth cs k).st, .slice A5 n' c5] 53)).grown hg7 (by have := HB5a.size; simp; omega) (fun b hb => (KRow.lt HI.out.row.row hb).1))
        have hs7 : w5.heap.size ≤ w7.heap.size := by have := hg7.size; (try simp at this); omega
        have HK7 := Lib.hid (how7.wide (Nat.le_refl _) hs7)
        clear how7 hg7 hat7 hk7 hss5 hb5 hbw HB5a
        go_wp2_with fail
        go_roundw
        case rel => exact ⟨k + 1, n1 + 1, n2, by omega, by go_num, ⟨by rw [HT1.out]; exact HK7.out, by rw [HT2.out]; exact HN7.out, HB7.out⟩⟩
        case measure => simp [intOf]; omega
    · obtain rfl : k = m := by omega
      have hkm : cs.take k = cs := by rw [← HL.out]; exact List.take_length
      go_wp2_with fail
      obtain ⟨A3, c3, e3, hrc, hcap3⟩ := HI.out.row.drx
      cases e3
      have hnm := HI.out.nms
      rw [hkm] at hrc hnm
      go_ret2
      exact ⟨_, _, _, _, _, _, rfl, hrc, hcap3, hnm, HI.out.below⟩

set_option maxRecDepth 100000 in
theorem clearD_any (A B : Option Addr) (n c m d : Nat) (f : Flow) (cs : List Case) (lo lo' : Nat) (w : World) (hr : RStep w lo A n f.steps) (hok : okSteps f.steps) (hd : RCase w lo' B m cs) (hcs : okCases cs) :
    Calls Try.prog 41 #[.agg #[.int .i64 f.ver, .slice A n c], .slice B m d] w fun e w' => ∃ B' m' d' C k e', e = .returned (.tuple #[.slice B' m' d', .slice C k e', .bool (poolB f cs)]) ∧
      DX w' w.heap.size B' m' (clL f cs) (Value.slice C k e').ownBlock ∧ m' ≤ d' ∧ w'.ownsRow w.heap.size 9 1 (.slice C k e') k ((gnL f cs).map Value.string) ∧ Below w.heap.size w w' := by
  have HB0 := Lib.hid ((Below.refl w.heap.size w).alloc (Nat.le_refl _) (.cells #[.int .i64 f.ver, .slice A n c] 33))
  have HD0 := Lib.hid (hd.alloc (.cells #[.int .i64 f.ver, .slice A n c] 33)); clear hd
  go_enter Try.func41, Try.ntmps41
  go_wp2_with fail
  refine (poolI_any _ _ _ _ _ _ f cs _ _ _ (hr.alloc _) hok HD0.out hcs).mono ?_
  rintro e w1 ⟨rfl, hb⟩
  have HB1 := Lib.hid (HB0.out.trans (hb.mono HB0.out.size))
  have HD1 := Lib.hid (HD0.out.below hb)
  clear hb HB0 HD0
  cases hp : poolB f cs
  · have HE1 := Lib.hid (clL_no hp)
    have HE2 := Lib.hid (gnL_no hp)
    have HP := Lib.hid hp; clear hp
    go_wp2_with fail
    exact bodyPost_ret (v := .tuple #[.slice none 0 0, .slice none 0 0, .bool false]) (by simp [results, Try.results41, go_sem]) rfl ⟨none, 0, 0, none, 0, 0, by rw [HP.out], by rw [HE1.out]; exact DX.nil, Nat.le_refl _, by rw [HE2.out]; exact own_nil, HB1.out⟩
  · have HE1 := Lib.hid (clL_yes hp)
    have HE2 := Lib.hid (gnL_yes hp)
    have HP := Lib.hid hp; clear hp
    go_wp2_with fail
    refine (splitD_any _ _ _ cs _ _ HD1.out hcs).mono ?_
    rintro e w2 ⟨B2, m2, d2, C2, k2, e2, rfl, h1, h2, h3, hb2⟩
    have H1 := Lib.hid h1; clear h1
    have H3 := Lib.hid h3; clear h3
    have HB2 := Lib.hid (HB1.out.trans (hb2.mono HB1.out.size)); clear hb2
    go_wp2_with fail
    exact bodyPost_ret (v := .tuple #[.slice B2 m2 d2, .slice C2 k2 e2, .bool true]) (by simp [results, Try.results41, go_sem]) rfl ⟨B2, m2, d2, C2, k2, e2, by rw [HP.out], by rw [HE1.out]; exact H1.out.lower HB1.out.size, h2, by rw [HE2.out]; exact row_mono H3.out HB1.out.size, HB2.out⟩
end Go.Proofs.Ythcpjkhijjkolaa

/- FnExactPoolClear: the walk. -/
namespace Go.Proofs.Ythcpjkhijjkolaa
open Go.RowKit

theorem clL_small {f : Flow} {cs : List Case} : (clL f cs).length ≤ 8 ∧ (∀ j, j < (clL f cs).length → (nth (clL f cs) j).done.length ≤ 1000) ∧ (gnL f cs).length ≤ 8 := by
  cases h : poolB f cs
  · rw [clL_no h, gnL_no h]
    exact ⟨Nat.zero_le _, fun j hj => absurd hj (by simp), Nat.zero_le _⟩
  · rw [clL_yes h, gnL_yes h]
    have hp := pool_stay h
    have h8 := pool_len h
    have hs := stay_len cs
    exact ⟨pool_len hp, fun j hj => Nat.le_trans (run_sizes (pool_run hp hj)).1 (by omega), by omega⟩
theorem row_out {w w' : World} {base lo hi : Nat} {e : TypeId} {size : Nat} {v : Value} {n : Nat} {cs : List Value} (h : w.ownsRow base e size v n cs) (ho : Out lo hi w w') (hh : hi ≤ base) : w'.ownsRow base e size v n cs := by
  refine ⟨h.1, ?_⟩
  rcases h.2 with h0 | ⟨g, cap, cur, hv, hb, hg, hr⟩
  · exact .inl h0
  · exact .inr ⟨g, cap, cur, hv, hb, (ho.block g (heap_lt hg) (.inr (by omega))).trans hg, hr⟩

set_option maxRecDepth 100000 in
set_option maxHeartbeats 8000000 in
theorem fnExactPoolClear_any (A B : Option Addr) (n c m d : Nat) (f : Flow) (cs : List Case) (w : World) (hr : RStep w 0 A n f.steps) (hn : n ≤ maxLen) (hs : ∀ j, j < n → stepSz (nth f.steps j)) (hd : RCase w 0 B m cs) (hm : m ≤ maxLen) (hcs : ∀ j, j < m → caseSz (nth cs j)) :
    Calls Try.prog 10 #[.agg #[.int .i64 f.ver, .slice A n c], .slice B m d] w fun e w' => e = .returned (.bool true) ∧ Below w.heap.size w w' := by
  have HN := Lib.hid hn; clear hn
  have HS := Lib.hid hs; clear hs
  have HM := Lib.hid hm; clear hm
  have HCS := Lib.hid hcs; clear hcs
  have HX0 := Lib.hid (heap_new (w := w) (o := .cells #[.int .i64 f.ver, .slice A n c] 24) rfl)
  have HB0 := Lib.hid ((Below.refl w.heap.size w).alloc (Nat.le_refl _) (.cells #[.int .i64 f.ver, .slice A n c] 24))
  have HR0 := Lib.hid (hr.alloc (.cells #[.int .i64 f.ver, .slice A n c] 24)); clear hr
  have HD0 := Lib.hid (hd.alloc (.cells #[.int .i64 f.ver, .slice A n c] 24)); clear hd
  have HK : Hid (∀ w', Below (w.alloc (.cells #[.int .i64 f.ver, .slice A n c] 24)).heap.size (w.alloc (.cells #[.int .i64 f.ver, .slice A n c] 24)) w' → (w'.cell? ⟨w.heap.size, 0, none⟩ = some (.int .i64 f.ver) ∧ w'.cell? ⟨w.heap.size, 1, none⟩ = some (.slice A n c)) ∧ RStep w' 0 A n f.steps ∧ RCase w' 0 B m cs ∧ Below w.heap.size w w') := fun w' h => by
    have e1 := (h.block w.heap.size (by simp)).trans HX0.out
    exact ⟨⟨(blk_cl (k := 0) e1 rfl).1, (blk_cl (k := 1) e1 rfl).1⟩, HR0.out.below h, HD0.out.below h, HB0.out.trans (h.mono HB0.out.size)⟩
  go_enter Try.func10, Try.ntmps10
  go_wp2_with fail
  refine (szFlow_any _ _ _ f _ _ _ HR0.out HN.out HS.out (by omega) (by omega)).mono ?_
  rintro e w1 ⟨r, rfl, hr0, hr1, hb1⟩
  have HB1 := Lib.hid hb1; clear hb1
  by_cases hneg : r < 0
  · clear hr1
    go_wp2_with fail
    go_ret
    exact ⟨rfl, (HK.out _ HB1.out).2.2.2⟩
  obtain ⟨hle, hok⟩ := hr1 (by omega)
  have HOK := Lib.hid hok; clear hok
  go_wp2_with fail
  refine (szCaseS_any _ _ _ cs _ _ _ (HK.out _ HB1.out).2.2.1 HM.out HCS.out (by omega) (by omega)).mono ?_
  rintro e w2 ⟨r2, rfl, hr20, hr21, hb2⟩
  have HB2 := Lib.hid (HB1.out.trans (hb2.mono HB1.out.size)); clear hb2
  by_cases hneg2 : r2 < 0
  · clear hr21
    go_wp2_with fail
    go_ret
    exact ⟨rfl, (HK.out _ HB2.out).2.2.2⟩
  obtain ⟨_, hokc⟩ := hr21 (by omega)
  have HOC := Lib.hid hokc; clear hokc
  have HSM := Lib.hid (clL_small (f := f) (cs := cs))
  have HOP := Lib.hid (okCases_stay (f := f) HOC.out)
  obtain ⟨⟨b0, b1⟩, _⟩ := HK.out _ HB2.out
  go_wp2_with fail
  refine (toFlow_any _ _ _ f _ _ (HK.out _ HB2.out).2.1 HOK.out).mono ?_
  rintro e w3 ⟨A3, c3, rfl, h3, hb3⟩
  have HF3 := Lib.hid h3; clear h3
  have HB3 := Lib.hid (HB2.out.trans (hb3.mono HB2.out.size)); clear hb3 b0 b1
  go_wp2_with fail
  refine (toCaseS_any _ _ _ cs _ _ (HK.out _ HB3.out).2.2.1 HOC.out).mono ?_
  rintro e w4 ⟨B4, d4, rfl, h4, hb4⟩
  have HC4 := Lib.hid h4; clear h4
  have HF4 := Lib.hid (HF3.out.below hb4)
  have HB4 := Lib.hid (HB3.out.trans (hb4.mono HB3.out.size)); clear hb4
  go_wp2_with fail
  refine (clearS_any _ _ _ _ _ _ f cs _ _ _ HF4.out HOK.out HC4.out HOC.out).mono ?_
  rintro e w5 ⟨A5, n5, d5, C5, k5, e5, rfl, h5, _, hn5, hb5⟩
  have hn58 : n5 ≤ 8 := by rw [← h5.1]; exact HSM.out.1
  have hk58 : k5 ≤ 8 := by rw [← hn5.1]; exact HSM.out.2.2
  have H5 := Lib.hid h5.low; clear h5
  have N5 := Lib.hid hn5.low; clear hn5
  have HB5 := Lib.hid (HB4.out.trans (hb5.mono HB4.out.size)); clear hb5
  obtain ⟨⟨b0, b1⟩, _⟩ := HK.out _ HB5.out
  go_wp2_with fail
  refine (toFlow_any _ _ _ f _ _ (HK.out _ HB5.out).2.1 HOK.out).mono ?_
  rintro e w6 ⟨A6, c6, rfl, h6, hb6⟩
  have hs6 := hb6.size
  have hs6a : (w6.alloc (.cells #[.int .i64 f.ver, .slice A6 n c6] 33)).heap.size = w6.heap.size + 1 := by simp
  have HY6 := Lib.hid (heap_new (w := w6) (o := .cells #[.int .i64 f.ver, .slice A6 n c6] 33) rfl)
  have HA6 := Lib.hid ((Below.refl w6.heap.size w6).alloc (Nat.le_refl _) (.cells #[.int .i64 f.ver, .slice A6 n c6] 33))
  have H56 := Lib.hid (H5.out.below (hb6.alloc hb6.size (.cells #[.int .i64 f.ver, .slice A6 n c6] 33)) (Nat.le_refl _))
  have N56 := Lib.hid (N5.out.below (hb6.alloc hb6.size (.cells #[.int .i64 f.ver, .slice A6 n c6] 33)) (Nat.le_refl _))
  have H6 := Lib.hid (h6.low.below HA6.out (Nat.le_refl _))
  have HF6 := Lib.hid (h6.alloc (.cells #[.int .i64 f.ver, .slice A6 n c6] 33)); clear h6
  have HB6a := HB5.out.trans (hb6.mono HB5.out.size)
  have HB6 := Lib.hid (HB6a.alloc HB6a.size (.cells #[.int .i64 f.ver, .slice A6 n c6] 33))
  clear hb6 b0 b1 HB6a
  go_wp2_with fail
  refine (toCaseS_any _ _ _ cs _ _ (HK.out _ HB6.out).2.2.1 HOC.out).mono ?_
  rintro e w7 ⟨B7, d7, rfl, h7, hb7⟩
  have hs7 := hb7.size
  have HY7 := Lib.hid ((hb7.block w6.heap.size (heap_lt HY6.out)).trans HY6.out)
  have H57 := Lib.hid (H56.out.below hb7 (by omega))
  have N57 := Lib.hid (N56.out.below hb7 (by omega))
  have H67 := Lib.hid (H6.out.below hb7 (by omega))
  have H7 := Lib.hid h7.low
  have HC7 := Lib.hid h7; clear h7
  have HF7 := Lib.hid (HF6.out.below hb7)
  have HB7 := Lib.hid (HB6.out.trans (hb7.mono HB6.out.size))
  clear hb7
  have b0 := (blk_cl (k := 0) HY7.out rfl).1
  have b1 := (blk_cl (k := 1) HY7.out rfl).1
  go_wp2_with fail
  refine (clearD_any _ _ _ _ _ _ f cs _ _ _ HF7.out HOK.out HC7.out HOC.out).mono ?_
  rintro e w8 ⟨A8, n8, c8, C8, k8, e8, rfl, h8, _, hm8, hb8⟩
  obtain rfl : n8 = n5 := by rw [← h8.1, ← H5.out.1]
  obtain ⟨_, _, e9, hnr8⟩ := own_str hm8
  injection e9 with i1 i2 i3
  subst i1; subst i3
  obtain rfl : k8 = k5 := by rw [← hnr8.1, ← N5.out.1]
  have hs8 := hb8.size
  have HY8 := Lib.hid ((hb8.block w6.heap.size (heap_lt HY7.out)).trans HY7.out)
  have H58 := Lib.hid (H57.out.below hb8 (by omega))
  have N58 := Lib.hid (N57.out.below hb8 (by omega))
  have H68 := Lib.hid (H67.out.below hb8 (by omega))
  have H78 := Lib.hid (H7.out.below hb8 (by omega))
  have HC8 := Lib.hid (HC7.out.below hb8)
  have HF8 := Lib.hid (HF7.out.below hb8)
  have H8 := Lib.hid h8; clear h8
  have M8 := Lib.hid hm8; clear hm8
  have MR8 := Lib.hid hnr8; clear hnr8
  have HB8 := Lib.hid (HB7.out.trans (hb8.mono HB7.out.size))
  clear hb8 b0 b1
  have hpe : (poolB f cs != poolB f cs) = false := by simp
  go_wp2_with fail
  refine (eqCaseS_same _ _ _ _ _ (clL f cs) _ _ _ H8.out.dr.hat HOP.out (H58.out.up (by omega))).mono ?_
  rintro e w9a ⟨rfl, hb9a⟩
  have hs9a := hb9a.size
  go_wp2_with fail
  refine (eqStringS_same _ _ k8 k8 _ _ (gnL f cs) _ _ _ (MR8.out.below hb9a) (by omega) ((N58.out.below hb9a (by omega)).up (by omega))).mono ?_
  rintro e w9 ⟨rfl, q9, hq9⟩
  have hb9 : Below w8.heap.size w8 w9 := by rw [hq9]; exact below_drewN hb9a _
  clear hq9 hb9a hs9a
  have hs9 := hb9.size
  have HB9 := Lib.hid (HB8.out.trans (hb9.mono HB8.out.size))
  have HF9 := Lib.hid (HF8.out.below hb9)
  have HY9 := Lib.hid ((hb9.block w6.heap.size (heap_lt HY8.out)).trans HY8.out)
  have HBB9 := Lib.hid hb9; clear hb9
  have HSB : Hid (∀ w', Below w9.heap.size w9 w' → ((w'.cell? ⟨w.heap.size, 0, none⟩ = some (.int .i64 f.ver) ∧ w'.cell? ⟨w.heap.size, 1, none⟩ = some (.slice A n c)) ∧
      (w'.cell? ⟨w6.heap.size, 0, none⟩ = some (.int .i64 f.ver) ∧ w'.cell? ⟨w6.heap.size, 1, none⟩ = some (.slice A6 n c6))) ∧ Below w9.heap.size w9 w') := fun w' h => by
    have e2 := (h.block _ (heap_lt HY9.out)).trans HY9.out
    exact ⟨⟨(HK.out _ (HB9.out.trans (h.mono HB9.out.size))).1, (blk_cl (k := 0) e2 rfl).1, (blk_cl (k := 1) e2 rfl).1⟩, h⟩
  go_wp2_with fail
  go_region_held3 (fun w' => ((w'.cell? ⟨w.heap.size, 0, none⟩ = some (.int .i64 f.ver) ∧ w'.cell? ⟨w.heap.size, 1, none⟩ = some (.slice A n c)) ∧
      (w'.cell? ⟨w6.heap.size, 0, none⟩ = some (.int .i64 f.ver) ∧ w'.cell? ⟨w6.heap.size, 1, none⟩ = some (.slice A6 n c6))) ∧ Below w9.heap.size w9 w')
    (first | exact HSB.out _ hbw | exact HSB.out _ (Below.refl _ _).drew | fail "keep")
    (first
      | (go_at_call 17; refine (toFlow_any _ _ _ f _ _ ((HK.out _ HB9.out).2.1.below (Below.refl _ _).drew) HOK.out).mono ?_; rintro e w10 ⟨A10, c10, rfl, h10, hb10⟩; have hbw : Below w9.heap.size w9 w10 := (Below.refl w9.heap.size w9).drew.trans hb10)
      | (go_at_call 20; refine (eqFlow_same _ _ _ _ _ f _ _ _ (HF9.out.below hbw) HOK.out h10).mono ?_; rintro e w10 ⟨rfl, hb10⟩; replace hbw := hbw.trans (hb10.mono hbw.size))
      | fail "no arm")
  have HBW := Lib.hid hbw
  go_wp2_with fail
  refine (toCaseS_any _ _ _ cs _ _ (HK.out _ (HB9.out.trans (HBW.out.mono HB9.out.size))).2.2.1 HOC.out).mono ?_
  rintro e w11 ⟨B11, d11, rfl, h11, hb11⟩
  have HB11 := Lib.hid (HBB9.out.trans ((HBW.out.trans (hb11.mono HBW.out.size)).mono HBB9.out.size))
  have H11 := Lib.hid h11; clear h11
  clear hb11
  go_wp2_with fail
  refine (eqCaseS_same _ _ _ _ _ cs _ _ _ (HC8.out.below HB11.out) HOC.out H11.out).mono ?_
  rintro e w12 ⟨rfl, hb12⟩
  have H812 := Lib.hid (HB11.out.trans (hb12.mono HB11.out.size))
  clear hb12
  have hs12 := H812.out.size
  have HB12 := Lib.hid (HB8.out.trans (H812.out.mono HB8.out.size))
  have HY12 := Lib.hid ((H812.out.block w6.heap.size (heap_lt HY8.out)).trans HY8.out)
  have b0 := (blk_cl (k := 0) HY12.out rfl).1
  have b1 := (blk_cl (k := 1) HY12.out rfl).1
  clear hbw
  go_wp2_with fail
  refine (markFlow_any _ _ _ 1 f _ _ _ (H68.out.below H812.out (by omega)) HOK.out (by omega) (by omega) (by omega)).mono ?_
  rintro e w13 ⟨⟨k13, rfl, hk1, hk2⟩, ho13⟩
  have HO13 := Lib.hid ho13; clear ho13
  have hs13 := HO13.out.size
  have hn13 : n ≤ 1048576 := by have := HOK.out.1; rw [(HK.out _ HB12.out).2.1.1] at this; exact this
  have hk3 : k13 ≤ 1649269538816 := by
    have := Nat.mul_le_mul_right 1048578 hn13
    omega
  clear b0 b1 hk2
  go_wp2_with fail
  refine (markCaseS_any _ _ _ k13 cs _ _ _ ((H78.out.below H812.out (by omega)).out HO13.out (by omega) (.inr (by omega))) HOC.out hk1 hk3 (by omega)).mono ?_
  rintro e w14 ⟨⟨k14, rfl, hk4⟩, ho14⟩
  have HO14 := Lib.hid ho14; clear ho14
  have hs14 := HO14.out.size
  have hk5 : 1 ≤ k14 := by omega
  have H514 := Lib.hid (((H58.out.below H812.out (by omega)).out HO13.out (by omega) (.inl (by omega))).out HO14.out (by omega) (.inl (by omega)))
  have N514 := Lib.hid (((N58.out.below H812.out (by omega)).out HO13.out (by omega) (.inl (by omega))).out HO14.out (by omega) (.inl (by omega)))
  have H814 := Lib.hid (((H8.out.below H812.out).out HO13.out (by omega)).out HO14.out (by omega))
  have M814 := Lib.hid (row_out (row_out (row_below M8.out H812.out) HO13.out (by omega)) HO14.out (by omega))
  obtain ⟨_, _, e9, hnr⟩ := own_str M814.out
  injection e9 with i1 _ i3
  subst i1; subst i3
  have MR14 := Lib.hid hnr; clear hnr
  clear hk4 hk3 hk1
  have hz0 := HB0.out.size
  have hzz : (w.alloc (.cells #[.int .i64 f.ver, .slice A n c] 24)).heap.size = w.heap.size + 1 := by simp
  have hz5 := HB5.out.size
  have HB14 := Lib.hid ((HB12.out.trans ((HO13.out.below (by omega)).mono hz5)).trans ((HO14.out.below (by omega)).mono (by omega)))
  go_wp2_with fail
  refine (eqCaseS_same _ _ _ _ _ (clL f cs) _ _ _ H814.out.dr.hat HOP.out (H514.out.up (by omega))).mono ?_
  rintro e w15a ⟨rfl, hb15a⟩
  have hs15a := hb15a.size
  go_wp2_with fail
  refine (eqStringS_same _ _ k8 k8 _ _ (gnL f cs) _ _ _ (MR14.out.below hb15a) (by omega) ((N514.out.below hb15a (by omega)).up (by omega))).mono ?_
  rintro e w15 ⟨rfl, q15, hq15⟩
  have hb15 : Below w14.heap.size w14 w15 := by rw [hq15]; exact below_drewN hb15a _
  clear hq15 hb15a hs15a
  have HBB15 := Lib.hid hb15; clear hb15
  have hs15 := HBB15.out.size
  have H515 := Lib.hid (H514.out.below HBB15.out (by omega))
  have N515 := Lib.hid (N514.out.below HBB15.out (by omega))
  have HB15 := Lib.hid (HB14.out.trans (HBB15.out.mono (by omega)))
  have HLEN := Lib.hid (fun j (hj : j < n8) => HSM.out.2.1 j (by rw [H8.out.1]; exact hj))
  go_wp2_with fail
  refine (markDX_any _ _ _ _ 1 _ _ _ (clL f cs) (gnL f cs) _ (H814.out.below HBB15.out) (row_below M814.out HBB15.out) (by omega) (by omega) HLEN.out (by omega) (by omega)).mono ?_
  rintro e w16 ⟨rfl, ho16, q1, q2, hy16, hq1, hq12, hq2, hdm⟩
  have HO16 := Lib.hid ho16; clear ho16
  have HDM := Lib.hid hdm; clear hdm
  have HY16 := Lib.hid hy16; clear hy16
  have hs16 := HO16.out.size
  have H516 := Lib.hid (H515.out.out HO16.out (by omega) (.inl (by omega)))
  have N516 := Lib.hid (N515.out.out HO16.out (by omega) (.inl (by omega)))
  have HB16 := Lib.hid (HB15.out.trans ((HO16.out.below (by omega)).mono (by omega)))
  have hkh := mkC_hi (k := 1) HLEN.out n8 (Nat.le_refl _)
  have hkl := mkC_lo (nth (clL f cs)) 1 n8
  obtain ⟨k7, hk7⟩ : ∃ k7 : Nat, k7 = mkC (nth (clL f cs)) 1 n8 := ⟨_, rfl⟩
  rw [← hk7] at hkh hkl
  rw [← hk7]
  have HK7 := Lib.hid hk7
  have hq0 : ¬ ((k7 : Int) < 0) := by omega
  clear hk7
  go_wp2_with fail
  refine (markStringS_any _ _ _ k7 (gnL f cs) q1 q2 _ HY16.out (by omega) (by omega) (by omega) (by omega)).mono ?_
  rintro e w17 ⟨rfl, h17, ho17⟩
  have HO17 := Lib.hid ho17; clear ho17
  have H17 := Lib.hid h17; clear h17
  have HD17 := Lib.hid (HDM.out.outQ HO17.out)
  have hs17 := HO17.out.size
  have H517 := Lib.hid (H516.out.out HO17.out (by omega) (.inl (by omega)))
  have N517 := Lib.hid (N516.out.out HO17.out (by omega) (.inl (by omega)))
  have HB17 := Lib.hid (HB16.out.trans ((HO17.out.below (by omega)).mono (by omega)))
  obtain ⟨k9, hk9⟩ : ∃ k9 : Nat, k9 = k7 + k8 := ⟨_, rfl⟩
  rw [← hk9]
  have HK9 := Lib.hid hk9
  have hq3 : ((k9 : Int) != (k9 : Int)) = false := by simp
  have hq4 : ¬ ((k9 : Int) < 0) := by omega
  clear hk9
  go_wp2_with fail
  refine (heldDR_any _ _ _ 1 _ (clL f cs) _ HD17.out (by omega) HLEN.out (by omega) (by omega)).mono ?_
  rintro e w18 ⟨rfl, hb18⟩
  rw [← HK7.out]
  have HB18 := Lib.hid (HB17.out.trans (hb18.mono HB17.out.size))
  have HBB18 := Lib.hid hb18; clear hb18
  have hs18 := HBB18.out.size
  go_wp2_with fail
  refine (heldStringS_any _ _ _ k7 q1 _ ((H17.out.below HBB18.out (by omega)).up (by omega)) (by omega) (by omega) (by omega)).mono ?_
  rintro e w19 ⟨rfl, hb19⟩
  rw [← HK9.out]
  have HB19 := Lib.hid (HB18.out.trans (hb19.mono HB18.out.size))
  have HBB19 := Lib.hid (HBB18.out.trans (hb19.mono HBB18.out.size)); clear hb19
  have hs19 := HBB19.out.size
  obtain ⟨⟨b0, b1⟩, _⟩ := HK.out _ HB19.out
  go_wp2_with fail
  refine (toFlow_any _ _ _ f _ _ (HK.out _ HB19.out).2.1 HOK.out).mono ?_
  rintro e w20 ⟨A20, c20, rfl, h20, hb20⟩
  have H20 := Lib.hid h20; clear h20
  have HB20 := Lib.hid (HB19.out.trans (hb20.mono HB19.out.size))
  have HBB20 := Lib.hid (HBB19.out.trans (hb20.mono HBB19.out.size)); clear hb20 b0 b1
  go_wp2_with fail
  refine (toCaseS_any _ _ _ cs _ _ (HK.out _ HB20.out).2.2.1 HOC.out).mono ?_
  rintro e w21 ⟨B21, d21, rfl, h21, hb21⟩
  have H21 := Lib.hid h21; clear h21
  have H201 := Lib.hid (H20.out.below hb21)
  have HB21 := Lib.hid (HB20.out.trans (hb21.mono HB20.out.size))
  have HBB21 := Lib.hid (HBB20.out.trans (hb21.mono HBB20.out.size)); clear hb21
  go_wp2_with fail
  refine (clearI_any _ _ _ _ _ _ f cs _ _ _ H201.out HOK.out H21.out HOC.out).mono ?_
  rintro e w22 ⟨A22, n22, c22, C22, k22, e22, rfl, h22, _, hn22, hb22⟩
  obtain rfl : n22 = n8 := by rw [← h22.1, ← H5.out.1]
  obtain rfl : k22 = k8 := by rw [← hn22.1, ← N5.out.1]
  have H22 := Lib.hid h22; clear h22
  have N22 := Lib.hid hn22; clear hn22
  have HB22 := Lib.hid (HB21.out.trans (hb22.mono HB21.out.size))
  have HBB22 := Lib.hid (HBB21.out.trans (hb22.mono HBB21.out.size)); clear hb22
  have hs22 := HBB22.out.size
  go_wp2_with fail
  refine (eqCaseS_same _ _ _ _ _ (clL f cs) _ _ _ H22.out HOP.out ((H517.out.below HBB22.out (by omega)).up (by omega))).mono ?_
  rintro e w23a ⟨rfl, hb23a⟩
  have HBA := Lib.hid (HBB22.out.trans (hb23a.mono HBB22.out.size))
  have hs23a := HBA.out.size
  go_wp2_with fail
  refine (eqStringS_same _ _ k22 k22 _ _ (gnL f cs) _ _ _ (N22.out.below hb23a) (by omega) ((N517.out.below HBA.out (by omega)).up (by omega))).mono ?_
  rintro e w23 ⟨rfl, q23, hq23⟩
  have hb23 : Below w22.heap.size w22 w23 := by rw [hq23]; exact below_drewN hb23a _
  clear hq23 hb23a
  have HB23 := Lib.hid (HB22.out.trans (hb23.mono HB22.out.size))
  have HBB23 := Lib.hid (HBB22.out.trans (hb23.mono HBB22.out.size)); clear hb23
  have hs23 := HBB23.out.size
  go_wp2_with fail
  refine (heldDR_any _ _ _ 1 _ (clL f cs) _ (HD17.out.below HBB23.out) (by omega) HLEN.out (by omega) (by omega)).mono ?_
  rintro e w24 ⟨rfl, hb24⟩
  rw [← HK7.out]
  have HB24 := Lib.hid (HB23.out.trans (hb24.mono HB23.out.size))
  have HBB24 := Lib.hid (HBB23.out.trans (hb24.mono HBB23.out.size)); clear hb24
  have hs24 := HBB24.out.size
  go_wp2_with fail
  refine (heldStringS_any _ _ _ k7 q1 _ ((H17.out.below HBB24.out (by omega)).up (by omega)) (by omega) (by omega) (by omega)).mono ?_
  rintro e w25 ⟨rfl, hb25⟩
  rw [← HK9.out]
  have HB25 := Lib.hid (HB24.out.trans (hb25.mono HB24.out.size)); clear hb25
  go_wp2_with fail
  go_ret
  exact ⟨rfl, (HK.out _ HB25.out).2.2.2⟩
end Go.Proofs.Ythcpjkhijjkolaa

/- FnExactPoolClear returns true at every input, and leaves its arguments as they were. No condition. -/
namespace Go.Proofs.Ythcpjkhijjkolaa
open Go.ChangeShapes Go.WideShapes Go.ChangeAt Go.RowKit

set_option maxRecDepth 100000 in
theorem fnExactPoolClear_lifted (os : Os) (started : os.Started) (H : Type) (enc : TypeId × Value → H) :
    ReturnsInHanded {} Try.checked os 10 .any (Rows.fnExactPoolClearSpec.pre6 enc Try.prog Try.f10 Rows.fnExactPoolClearRow.domain false) (Rows.fnExactPoolClearSpec.post enc Try.prog Try.f10 false true false false) := by
  refine returnsInHanded_of_change (C := Try.checked) Try.own started (by kernel_rfl) Try.func10
    (ChangeSpec.witness6 (enc := enc) (C := Try.checked) false ⟨#[], #[.agg #[.int .i64 0, .slice none 0 0], .slice none 0 0], []⟩ 8 (by kernel_rfl) (by kernel_rfl) (by kernel_rfl) (by kernel_rfl)) ?_
  intro W base args ds gs before hval0 hW hcnd _
  have hval : ∀ (j : Nat) t v, Try.f10.params[j]? = some t → args[j]? = some v → Value.okWide Try.prog W .any base t v := hval0
  have hW' := hW
  obtain ⟨p, q, hA0, hV, rfl, hfz, hnd⟩ := hW
  have hA : DataW.TrodAll enc Try.prog W 0 (fun _ => true) true Try.f10.params.toList args.toList ds p := hA0
  rw [Try.params10] at hA hval
  obtain ⟨v0, v1, d0, d1, p0, p1, rfl, rfl, rfl, h0, h1⟩ := trodAll_two hA
  obtain ⟨rfl, rfl⟩ := trodVars_none hV
  have h0k := h0
  have h1k := h1
  obtain ⟨B0, m0, dd0, rfl⟩ := okWide_slice Try.underlying57 (hval 1 57 v1 rfl rfl)
  obtain ⟨fuel, hf⟩ := h0
  obtain ⟨fuel1, hf1⟩ := h1
  simp only [List.append_nil] at hW' hfz
  have hlt : ∀ x ∈ p0 ++ p1, x.block < W.heap.size := fun x hx => hW'.lt x hx
  obtain ⟨ver, A, n, c, ss, rfl, hr, hn, hs⟩ := open_flow (hval 0 24 v0 rfl rfl) hf (fun b off hb => hfz b off (List.mem_append_left _ hb))
  obtain ⟨B, m, d, cs, hcase, hd, hm, hc⟩ := open_caseS hf1 (fun b off hb => hfz b off (List.mem_append_right _ hb))
  clear hA0 hval0 hA
  rw [hcase]
  rw [hcase] at h1k hW'
  refine (fnExactPoolClear_any A B n c m d ⟨ver, ss⟩ cs W hr hn hs hd hm hc).mono fun e W' ⟨he, hb⟩ => ?_
  subst he
  exact ⟨_, rfl, post_law hW' rfl (by kernel_rfl) Try.underlying4 rfl rfl rfl (trodAll_mk2 (Below.trod Try.laidOut (by kernel_rfl) (of_decide_eq_true (by kernel_rfl)) h0k hb (fun x hx => hlt x (List.mem_append_left _ hx))) (Below.trod Try.laidOut (by kernel_rfl) (of_decide_eq_true (by kernel_rfl)) h1k hb (fun x hx => hlt x (List.mem_append_right _ hx)))) hb⟩

theorem fnExactPoolClear_holds : Rows.FnExactPoolClearSaid :=
  OpenClaim.holds_of_wide 10 Try.f10 rfl rfl rfl rfl rfl rfl rfl ⟨rfl, rfl, rfl, rfl, rfl⟩ rfl rfl rfl rfl rfl (by kernel_rfl) Try.func10 (by kernel_rfl)
    (of_decide_eq_true (by kernel_rfl)) (by unfold Func.isWrapper; rw [if_neg (by decide +kernel)]; exact ⟨rfl, rfl⟩)
    (fun os started H enc _ => fnExactPoolClear_lifted os started H enc)
end Go.Proofs.Ythcpjkhijjkolaa
