/- FnExactPoolEvent returns true at every input, and leaves its arguments as they were. No condition. -/
import Derived.Deep.RegionHeld3
import Derived.Carry
import Derived.Test.YthcpjkhijjkolaaZC
import Derived.Test.YthcpjkhijjkolaaZD
import Derived.Test.YthcpjkhijjkolaaZA
import Derived.Test.YthcpjkhijjkolaaZG
import Derived.Test.YthcpjkhijjkolaaZH

/- Marks on arguments: what they leave. -/
namespace Go.Proofs.Ythcpjkhijjkolaa
open Go.RowKit

/-- The same kind of value; slices are the same. -/
def kin : Value → Value → Prop
  | .string _, v => ∃ s, v = .string s
  | .bool _, v => ∃ b, v = .bool b
  | .int k _, v => ∃ i, v = .int k i
  | v, u => u = v
theorem kin_refl (v : Value) : kin v v := by
  cases v <;> simp [kin]
theorem kin_trans {a b c : Value} (h : kin a b) (k : kin b c) : kin a c := by
  cases a <;> simp only [kin] at h
  all_goals first
    | (obtain ⟨s, rfl⟩ := h; simp only [kin] at k ⊢; exact k)
    | (subst h; exact k)
/-- Each cell keeps its kind. -/
def KeepK (w w' : World) : Prop := ∀ b o v, Cl w b o v → ∃ u, Cl w' b o u ∧ kin v u
theorem KeepK.refl (w : World) : KeepK w w := fun _ _ v h => ⟨v, h, kin_refl v⟩
theorem KeepK.trans {w w1 w2 : World} (h : KeepK w w1) (k : KeepK w1 w2) : KeepK w w2 := fun b o v hv => by
  obtain ⟨u, h1, h2⟩ := h b o v hv
  obtain ⟨x, h3, h4⟩ := k b o u h1
  exact ⟨x, h3, kin_trans h2 h4⟩
theorem KeepK.of_below {w w' : World} (h : Below w.heap.size w w') : KeepK w w' := fun _ _ v hv =>
  ⟨v, hv.same (Same.of_below (lo := 0) h) (Nat.zero_le _) (World.block_lt_of_cell? w _ hv.1), kin_refl v⟩
theorem KeepK.set {w : World} {b o : Nat} {v u : Value} (h : Cl w b o v) (hk : kin v u) : KeepK w (w.setCell ⟨b, o, none⟩ u) := fun b' o' v' hv => by
  by_cases e : b' = b ∧ o' = o
  · obtain ⟨rfl, rfl⟩ := e
    have : v' = v := Option.some.inj (hv.1.symm.trans h.1)
    subst this
    exact ⟨u, h.set_same, hk⟩
  · refine ⟨v', hv.set_other ?_, kin_refl _⟩
    by_cases eb : b' = b
    · right; intro eo; exact e ⟨eb, eo⟩
    · exact .inl eb
theorem KeepK.set_ {w0 w : World} {b o : Nat} {v u : Value} (hw : KeepK w0 w) (h : Cl w b o v) (hk : kin v u) : KeepK w0 (w.setCell ⟨b, o, none⟩ u) := hw.trans (KeepK.set h hk)

theorem list_of {α : Type} [Inhabited α] {n : Nat} {P : Nat → α → Prop} (h : ∀ j, j < n → ∃ x, P j x) : ∃ ys : List α, ys.length = n ∧ ∀ j, j < n → P j (nth ys j) := by
  have each : ∀ j, ∃ x, j < n → P j x := fun j => by
    by_cases hj : j < n
    · obtain ⟨x, hx⟩ := h j hj
      exact ⟨x, fun _ => hx⟩
    · exact ⟨default, fun h => absurd h hj⟩
  refine ⟨(List.range n).map fun j => Classical.choose (each j), by simp, fun j hj => ?_⟩
  rw [nth_eq (by simpa using hj)]
  simp only [List.getElem_map, List.getElem_range]
  exact Classical.choose_spec (each j) hj

theorem RStr.kin_ {w w' : World} {lo hi n : Nat} {A : Option Addr} {xs : List Str} (h : RH strE w lo hi A n xs) (hk : KeepK w w') : ∃ ys, RH strE w' lo hi A n ys := by
  rcases Nat.eq_zero_or_pos n with rfl | hn
  · exact ⟨[], rfl, fun h => absurd h (by omega)⟩
  obtain ⟨b, off, e, h1, h2, hc⟩ := h.2 hn
  obtain ⟨ys, hl, hy⟩ := list_of (n := n) (P := fun j (s : Str) => Cl w' b (off + j * 1) (.string s)) (fun j hj => by
    obtain ⟨u, g1, g2⟩ := hk _ _ _ (hc j hj)
    obtain ⟨s, rfl⟩ := g2
    exact ⟨s, g1⟩)
  exact ⟨ys, hl, fun _ => ⟨b, off, e, h1, h2, hy⟩⟩
theorem RStep.kin_ {w w' : World} {lo hi n : Nat} {A : Option Addr} {ss : List Step} (h : RH stepE w lo hi A n ss) (hk : KeepK w w') : ∃ ts, RH stepE w' lo hi A n ts ∧ ∀ j, j < n → (nth ts j).after.length = (nth ss j).after.length := by
  rcases Nat.eq_zero_or_pos n with rfl | hn
  · exact ⟨[], ⟨rfl, fun h => absurd h (by omega)⟩, fun j hj => absurd hj (by omega)⟩
  obtain ⟨b, off, e, h1, h2, hc⟩ := h.2 hn
  obtain ⟨ts, hl, hy⟩ := list_of (n := n) (P := fun j (s : Step) => stepE.rep w' lo hi b (off + j * 3) s ∧ s.after.length = (nth ss j).after.length) (fun j hj => by
    obtain ⟨c1, ⟨A', n', c', c2, c3⟩, c4⟩ := hc j hj
    obtain ⟨u1, g1, k1⟩ := hk _ _ _ c1
    obtain ⟨s, rfl⟩ := k1
    obtain ⟨u2, g2, k2⟩ := hk _ _ _ c2
    simp only [kin] at k2
    subst k2
    obtain ⟨u3, g3, k3⟩ := hk _ _ _ c4
    obtain ⟨b3, rfl⟩ := k3
    obtain ⟨ys, hys⟩ := RStr.kin_ c3 hk
    exact ⟨⟨s, ys, b3⟩, ⟨g1, ⟨A', n', c', g2, hys⟩, g3⟩, by show ys.length = _; rw [hys.1, c3.1]⟩)
  exact ⟨ts, ⟨hl, fun _ => ⟨b, off, e, h1, h2, fun j hj => (hy j hj).1⟩⟩, fun j hj => (hy j hj).2⟩
theorem RCase.kin_ {w w' : World} {lo hi n : Nat} {A : Option Addr} {ss : List Case} (h : RH caseE w lo hi A n ss) (hk : KeepK w w') : ∃ ts, RH caseE w' lo hi A n ts ∧ ∀ j, j < n → (nth ts j).done.length = (nth ss j).done.length := by
  rcases Nat.eq_zero_or_pos n with rfl | hn
  · exact ⟨[], ⟨rfl, fun h => absurd h (by omega)⟩, fun j hj => absurd hj (by omega)⟩
  obtain ⟨b, off, e, h1, h2, hc⟩ := h.2 hn
  obtain ⟨ts, hl, hy⟩ := list_of (n := n) (P := fun j (s : Case) => caseE.rep w' lo hi b (off + j * 3) s ∧ s.done.length = (nth ss j).done.length) (fun j hj => by
    obtain ⟨c1, c4, ⟨A', n', c', c2, c3, c5⟩⟩ := hc j hj
    obtain ⟨u1, g1, k1⟩ := hk _ _ _ c1
    obtain ⟨s, rfl⟩ := k1
    obtain ⟨u2, g2, k2⟩ := hk _ _ _ c2
    simp only [kin] at k2
    subst k2
    obtain ⟨u3, g3, k3⟩ := hk _ _ _ c4
    obtain ⟨i3, rfl⟩ := k3
    obtain ⟨ys, hys⟩ := RStr.kin_ c3 hk
    exact ⟨⟨s, i3, ys⟩, ⟨g1, g3, ⟨A', n', c', g2, hys, c5⟩⟩, by show ys.length = _; rw [hys.1, c3.1]⟩)
  exact ⟨ts, ⟨hl, fun _ => ⟨b, off, e, h1, h2, fun j hj => (hy j hj).1⟩⟩, fun j hj => (hy j hj).2⟩

set_option maxRecDepth 100000 in
theorem markText2_any (k : Nat) (w : World) (h1 : 1 ≤ k) (h2 : k ≤ 2305843009213693952) :
    Calls Try.prog 88 #[.int .i64 (k : Int)] w fun e w' => e = .returned (.string (markS k)) ∧ Below w.heap.size w w' := by
  go_enter Try.func88, Try.ntmps88
  go_wp2_with fail
  go_loopw [0, 3] (fun j o wr => ∃ jn f : Nat, ∃ acc : List UInt8, jn ≤ f ∧ acc.length + jn ≤ 2305843009213693952 ∧ j = .int .i64 (jn : Int) ∧ o = .string ⟨acc.toArray⟩ ∧ decL f jn acc = decL k k [] ∧ Below w.heap.size w wr) (fun j _ _ => (intOf j).toNat)
  case atStart => exact ⟨k, k, [], Nat.le_refl _, by simpa using h2, rfl, rfl, rfl, Below.refl _ _⟩
  case round =>
    obtain ⟨jn, f, acc, hf, hj, rfl, rfl, hd, hb⟩ := hrel
    have HD := Lib.hid hd; clear hd
    have HB := Lib.hid hb; clear hb
    by_cases h0 : 0 < jn
    · have hcv := conv1 (wr.alloc (.cells #[.int .u8 (48 + (jn : Int) % 10)] 5)) wr.heap.size (48 + (jn : Int) % 10) (heap_new rfl)
      go_wp2_with fail
      go_roundw
      case rel =>
        obtain ⟨f', rfl⟩ : ∃ f', f = f' + 1 := ⟨f - 1, by omega⟩
        refine ⟨jn / 10, f', (48 + UInt8.ofNat (jn % 10)) :: acc, by omega, by simp; omega, by go_num, str_congr (bcat [_] acc), ?_, HB.out.alloc HB.out.size _⟩
        rw [← HD.out, decL, if_neg (by omega)]
      case measure => simp [intOf]; omega
    · have h0' : (jn : Int) < 1 := by omega
      go_wp2_with fail
      go_ret
      refine ⟨ret_s ?_, HB.out⟩
      have hz : jn = 0 := by omega
      have hd := HD.out
      subst hz
      unfold markS
      have e : decL f 0 acc = acc := by cases f <;> simp [decL]
      rw [← hd, e]
      exact bcat [109] acc

set_option maxRecDepth 100000 in
theorem markStr2_any (A : Option Addr) (n c k : Nat) (xs : List Str) (lo hi : Nat) (w : World) (hr : RH strE w lo hi A n xs) (hn : n ≤ 1048576) (h1 : 1 ≤ k) (h2 : k ≤ 1152921504606846976) (hhi : hi ≤ w.heap.size) :
    Calls Try.prog 43 #[.slice A n c, .int .i64 (k : Int)] w fun e w' => e = .returned (.int .i64 ((k + n : Nat) : Int)) ∧ KeepK w w' ∧ Out lo hi w w' := by
  have HR := Lib.hid hr; clear hr
  go_enter Try.func43, Try.ntmps43
  go_wp2_with fail
  go_loopw [1, 5] (fun q i wr => ∃ j m : Nat, j ≤ n ∧ i = .int .i64 (j : Int) ∧ q = .int .i64 (m : Int) ∧ m = k + j ∧ KeepK w wr ∧ Out lo hi w wr) (fun _ i _ => n - (intOf i).toNat)
  case atStart => exact ⟨0, k, Nat.zero_le _, rfl, rfl, rfl, KeepK.refl _, Out.refl⟩
  case round =>
    obtain ⟨j, m, hj, rfl, rfl, hm, hkk, hb⟩ := hrel
    have HM := Lib.hid hm
    have HK := Lib.hid hkk; clear hkk
    have HB := Lib.hid hb; clear hb
    have hm1 : 1 ≤ m := by omega
    have hm2 : m ≤ 2305843009213693952 := by omega
    have hm3 : (m : Int) ≤ 2305843009213693952 := by omega
    clear hm
    by_cases hlt : j < n
    · obtain ⟨ys, hys⟩ := RStr.kin_ HR.out HK.out
      obtain ⟨b, off, rfl, ⟨hb1, hb3⟩, hc⟩ := RStr.hat hys hlt
      have hwr : hi ≤ wr.heap.size := Nat.le_trans hhi HB.out.size
      have hb2 : b < wr.heap.size := by omega
      obtain ⟨c1, c2⟩ := hc j hlt
      clear hc hys
      go_wp2_with fail
      refine (markText2_any m _ hm1 hm2).mono ?_
      rintro e w1 ⟨rfl, hbw⟩
      have d1 := (hbw.cell (p := ⟨b, off + j, none⟩) hb2).trans c1
      have d2 := (hbw.frozen (p := ⟨b, off + j, none⟩) hb2).trans c2
      clear c1 c2
      have HBW := Lib.hid hbw; clear hbw
      have HK2 := Lib.hid ((HK.out.trans (KeepK.of_below HBW.out)).set_ (u := .string (markS m)) ⟨d1, d2⟩ ⟨_, rfl⟩)
      go_wp2_with fail
      go_roundw
      case rel => exact ⟨j + 1, m + 1, by omega, by go_num, by go_num, by rw [HM.out, Nat.add_assoc], HK2.out, (HB.out.trans (Out.of_below HBW.out)).set_ hb1 hb3 _ _⟩
      case measure => simp [intOf]; omega
    · go_wp2_with fail
      go_ret
      exact ⟨ret_i (by rw [HM.out, show j = n by omega]), HK.out, HB.out⟩

set_option maxRecDepth 100000 in
theorem markStepS_any (A : Option Addr) (n c k : Nat) (ss : List Step) (lo hi : Nat) (w : World) (hr : RH stepE w lo hi A n ss) (hok : okSteps ss) (h1 : 1 ≤ k) (h2 : k ≤ 549755813888) (hhi : hi ≤ w.heap.size) :
    Calls Try.prog 87 #[.slice A n c, .int .i64 (k : Int)] w fun e w' => (∃ k' : Nat, e = .returned (.int .i64 (k' : Int)) ∧ k ≤ k' ∧ k' ≤ k + n * 1048578) ∧ Out lo hi w w' := by
  have HL := Lib.hid hr.1
  have hn : n ≤ 1048576 := by have := hok.1; rw [hr.1] at this; exact this
  have hnn : n * 1048578 ≤ 1048576 * 1048578 := Nat.mul_le_mul_right _ hn
  have HR := Lib.hid hr; clear hr
  go_enter Try.func87, Try.ntmps87
  go_wp2_with fail
  go_loopw [1, 5] (fun q i wr => ∃ j m : Nat, j ≤ n ∧ i = .int .i64 (j : Int) ∧ q = .int .i64 (m : Int) ∧ k ≤ m ∧ m ≤ k + j * 1048578 ∧ KeepK w wr ∧ Out lo hi w wr) (fun _ i _ => n - (intOf i).toNat)
  case atStart => exact ⟨0, k, Nat.zero_le _, rfl, rfl, Nat.le_refl _, by omega, KeepK.refl _, Out.refl⟩
  case round =>
    obtain ⟨j, m, hj, rfl, rfl, hkm, hmk, hkk, hb⟩ := hrel
    have HK := Lib.hid hkk; clear hkk
    have HB := Lib.hid hb; clear hb
    have hjn : j * 1048578 ≤ n * 1048578 := Nat.mul_le_mul_right _ hj
    have hm1 : 1 ≤ m := by omega
    have hm2 : m ≤ 1649269538816 := by omega
    have hwr : hi ≤ wr.heap.size := Nat.le_trans hhi HB.out.size
    by_cases hlt : j < n
    · obtain ⟨ts, hts, hlen⟩ := RStep.kin_ HR.out HK.out
      have HTS := Lib.hid hts
      obtain ⟨b, off, rfl, ⟨hb1, hb3⟩, hc⟩ := RStep.hat hts hlt
      clear hc hts
      have hb2 : b < wr.heap.size := by omega
      have hal := hlen j hlt
      have hao := (hok.2 j (by rw [HL.out]; exact hlt)).2.1
      go_wp2_with fail
      refine (markText2_any m _ hm1 (by omega)).mono ?_
      rintro e w1 ⟨rfl, hbw⟩
      have HT1 := Lib.hid (HTS.out.below hbw hwr)
      have HB1 := Lib.hid (HB.out.trans (Out.of_below hbw))
      have HK1 := Lib.hid (HK.out.trans (KeepK.of_below hbw))
      have hs1 := hbw.size
      clear hbw
      obtain ⟨b', off', e', _, hc⟩ := RStep.hat HT1.out hlt
      injection e' with e'; injection e' with e1 e2
      subst e1; subst e2
      obtain ⟨A', n', c', ⟨d1, d2, d3⟩, ha, f1, f2, f3⟩ := hc j hlt
      clear hc
      have hn' : n' ≤ 1048576 := by rw [← ha.1, hal]; exact hao
      have HK2 := Lib.hid (KeepK.set (u := .string (markS m)) ⟨d1, f1⟩ ⟨_, rfl⟩)
      have HKK2 := Lib.hid (HK1.out.trans HK2.out)
      have HB2 := Lib.hid (HB1.out.set_ hb1 hb3 (off + j * 3) (.string (markS m)))
      obtain ⟨u2, ⟨g2, _⟩, k2⟩ := HK2.out _ _ _ ⟨d2, f2⟩
      simp only [kin] at k2
      subst k2
      obtain ⟨ys, hys⟩ := RStr.kin_ ha HK2.out
      have HYS := Lib.hid hys; clear hys
      obtain ⟨u3, ⟨g3, g3'⟩, k3⟩ := HK2.out _ _ _ ⟨d3, f3⟩
      obtain ⟨b3, rfl⟩ := k3
      clear ha
      go_wp2_with fail
      refine (markStr2_any A' n' c' (m + 1) ys lo hi _ HYS.out hn' (by omega) (by omega) (by simp; omega)).mono ?_
      rintro e w3 ⟨rfl, hk3, ho3⟩
      obtain ⟨u4, ⟨g4, g4'⟩, k4⟩ := hk3 _ _ _ ⟨g3, g3'⟩
      obtain ⟨b4, rfl⟩ := k4
      have HK3 := Lib.hid (HKK2.out.trans hk3)
      have HB3 := Lib.hid (HB2.out.trans ho3)
      clear hk3 ho3 d1 d2 d3 f1 f2 f3 g2 g3 g3'
      obtain ⟨m3, hm3⟩ : ∃ m3 : Nat, m3 = m + 1 + n' := ⟨_, rfl⟩
      rw [← hm3]
      have hm4 : m3 ≤ 2749269444608 := by omega
      have hm5 : m + 1 ≤ m3 := by omega
      have hm6 : m3 + 1 ≤ m + 1048578 := by omega
      clear hm3
      have HK4 := Lib.hid (fun x : Bool => HK3.out.set_ (u := .bool x) ⟨g4, g4'⟩ ⟨_, rfl⟩)
      go_wp2_with fail
      go_roundw
      case rel => exact ⟨j + 1, m3 + 1, by omega, by go_num, by go_num, by omega, by omega, HK4.out _, HB3.out.set_ hb1 hb3 _ _⟩
      case measure => simp [intOf]; omega
    · go_wp2_with fail
      have hmn : m ≤ k + n * 1048578 := Nat.le_trans hmk (Nat.add_le_add_left hjn _)
      go_ret
      exact ⟨⟨m, rfl, hkm, hmn⟩, HB.out⟩

set_option maxRecDepth 100000 in
theorem markFlow_any (A : Option Addr) (n c k : Nat) (f : Flow) (lo hi : Nat) (w : World) (hr : RH stepE w lo hi A n f.steps) (hok : okSteps f.steps) (h1 : 1 ≤ k) (h2 : k ≤ 549755813888) (hhi : hi ≤ w.heap.size) :
    Calls Try.prog 36 #[.agg #[.int .i64 f.ver, .slice A n c], .int .i64 (k : Int)] w fun e w' => (∃ k' : Nat, e = .returned (.int .i64 (k' : Int)) ∧ k ≤ k' ∧ k' ≤ k + n * 1048578) ∧ Out lo hi w w' := by
  have hb0 := (Below.refl w.heap.size w).alloc (Nat.le_refl _) (.cells #[.int .i64 f.ver, .slice A n c] 33)
  have HR := Lib.hid (hr.below hb0 hhi); clear hr
  have HB0 := Lib.hid hb0; clear hb0
  go_enter Try.func36, Try.ntmps36
  go_wp2_with fail
  refine (markStepS_any A n c k f.steps lo hi _ HR.out hok h1 h2 (by simp; omega)).mono ?_
  rintro e w1 ⟨⟨k', rfl, hk1, hk2⟩, ho⟩
  have HO := Lib.hid ((Out.of_below HB0.out).trans ho); clear ho
  go_wp2_with fail
  go_ret
  exact ⟨⟨k', rfl, hk1, hk2⟩, HO.out⟩

set_option maxRecDepth 100000 in
theorem markCaseS_any (A : Option Addr) (n c k : Nat) (ss : List Case) (lo hi : Nat) (w : World) (hr : RH caseE w lo hi A n ss) (hok : okCases ss) (h1 : 1 ≤ k) (h2 : k ≤ 1649269538816) (hhi : hi ≤ w.heap.size) :
    Calls Try.prog 37 #[.slice A n c, .int .i64 (k : Int)] w fun e w' => (∃ k' : Nat, e = .returned (.int .i64 (k' : Int)) ∧ k ≤ k') ∧ Out lo hi w w' := by
  have HL := Lib.hid hr.1
  have hn : n ≤ 1048576 := by have := hok.1; rw [hr.1] at this; exact this
  have hnn : n * 1048578 ≤ 1048576 * 1048578 := Nat.mul_le_mul_right _ hn
  have HR := Lib.hid hr; clear hr
  go_enter Try.func37, Try.ntmps37
  go_wp2_with fail
  go_loopw [1, 5] (fun q i wr => ∃ j m : Nat, j ≤ n ∧ i = .int .i64 (j : Int) ∧ q = .int .i64 (m : Int) ∧ k ≤ m ∧ m ≤ k + j * 1048578 ∧ KeepK w wr ∧ Out lo hi w wr) (fun _ i _ => n - (intOf i).toNat)
  case atStart => exact ⟨0, k, Nat.zero_le _, rfl, rfl, Nat.le_refl _, by omega, KeepK.refl _, Out.refl⟩
  case round =>
    obtain ⟨j, m, hj, rfl, rfl, hkm, hmk, hkk, hb⟩ := hrel
    have HK := Lib.hid hkk; clear hkk
    have HB := Lib.hid hb; clear hb
    have hjn : j * 1048578 ≤ n * 1048578 := Nat.mul_le_mul_right _ hj
    have hm1 : 1 ≤ m := by omega
    have hm2 : m ≤ 2749269444608 := by omega
    have hwr : hi ≤ wr.heap.size := Nat.le_trans hhi HB.out.size
    by_cases hlt : j < n
    · obtain ⟨ts, hts, hlen⟩ := RCase.kin_ HR.out HK.out
      have HTS := Lib.hid hts
      obtain ⟨b, off, e, hb1, hb3, hc⟩ := hts.2 (by omega)
      subst e
      clear hc hts
      have hb2 : b < wr.heap.size := by omega
      have hal := hlen j hlt
      have hao := (hok.2 j (by rw [HL.out]; exact hlt)).2
      go_wp2_with fail
      refine (markText2_any m _ hm1 (by omega)).mono ?_
      rintro e w1 ⟨rfl, hbw⟩
      have HT1 := Lib.hid (HTS.out.below hbw hwr)
      have HB1 := Lib.hid (HB.out.trans (Out.of_below hbw))
      have HK1 := Lib.hid (HK.out.trans (KeepK.of_below hbw))
      have hs1 := hbw.size
      clear hbw
      obtain ⟨b', off', e', _, _, hc⟩ := HT1.out.2 (by omega)
      injection e' with e'; injection e' with e1 e2
      subst e1; subst e2
      obtain ⟨⟨d1, f1⟩, ⟨d2, f2⟩, ⟨A', n', c', ⟨d3, f3⟩, ha, _⟩⟩ := hc j hlt
      clear hc
      have e3 : off + j * caseE.size = off + j * 3 := rfl
      rw [e3] at d1 f1 d2 f2 d3 f3
      clear e3
      have hn' : n' ≤ 1048576 := by rw [← ha.1, hal]; exact hao
      have HK2 := Lib.hid (KeepK.set (u := .string (markS m)) ⟨d1, f1⟩ ⟨_, rfl⟩)
      have HKK2 := Lib.hid (HK1.out.trans HK2.out)
      have HB2 := Lib.hid (HB1.out.set_ hb1 hb3 (off + j * 3) (.string (markS m)))
      obtain ⟨u2, ⟨g2, g2'⟩, k2⟩ := HK2.out _ _ _ ⟨d2, f2⟩
      obtain ⟨i2, rfl⟩ := k2
      have HK3 := Lib.hid (KeepK.set (u := .int .i64 ((m : Int) + 1)) ⟨g2, g2'⟩ ⟨_, rfl⟩)
      have HK23 := Lib.hid (HK2.out.trans HK3.out)
      have HKK3 := Lib.hid (HKK2.out.trans HK3.out)
      have HB3 := Lib.hid (HB2.out.set_ hb1 hb3 (off + j * 3 + 1) (.int .i64 ((m : Int) + 1)))
      obtain ⟨u3, ⟨g3, g3'⟩, k3⟩ := HK23.out _ _ _ ⟨d3, f3⟩
      simp only [kin] at k3
      subst k3
      obtain ⟨ys, hys⟩ := RStr.kin_ ha HK23.out
      have HYS := Lib.hid hys; clear hys
      clear ha
      go_wp2_with fail
      refine (markStr2_any A' n' c' (m + 2) ys lo hi _ HYS.out hn' (by omega) (by omega) (by simp; omega)).mono ?_
      rintro e w3 ⟨rfl, hk3, ho3⟩
      have HK4 := Lib.hid (HKK3.out.trans hk3)
      have HB4 := Lib.hid (HB3.out.trans ho3)
      clear hk3 ho3
      go_wp2_with fail
      go_roundw
      case rel => exact ⟨j + 1, m + 2 + n', by omega, by go_num, rfl, by omega, by omega, HK4.out, HB4.out⟩
      case measure => simp [intOf]; omega
    · go_wp2_with fail
      go_ret
      exact ⟨⟨m, rfl, hkm⟩, HB.out⟩

set_option maxRecDepth 100000 in
theorem heldIntS_any (A : Option Addr) (n c k : Nat) (lo : Nat) (w : World) (hr : RInt w lo A n (marksI k n)) (hn : n ≤ 1048576) (h2 : k ≤ 549755813888) :
    Calls Try.prog 39 #[.slice A n c, .int .i64 (k : Int)] w fun e w' => e = .returned (.int .i64 ((k + n : Nat) : Int)) ∧ Below w.heap.size w w' := by
  have HR := Lib.hid hr; clear hr
  go_enter Try.func39, Try.ntmps39
  go_wp2_with fail
  go_loopw [1, 5] (fun q i wr => ∃ j m : Nat, j ≤ n ∧ i = .int .i64 (j : Int) ∧ q = .int .i64 (m : Int) ∧ m = k + j ∧ Below w.heap.size w wr) (fun _ i _ => n - (intOf i).toNat)
  case atStart => exact ⟨0, k, Nat.zero_le _, rfl, rfl, rfl, Below.refl _ _⟩
  case round =>
    obtain ⟨j, m, hj, rfl, rfl, hm, hb⟩ := hrel
    have HM := Lib.hid hm
    have HB := Lib.hid hb; clear hb
    have hm3 : (m : Int) ≤ 1099511627776 := by omega
    clear hm
    by_cases hlt : j < n
    · obtain ⟨b, off, rfl, _, hc⟩ := RInt.at_ (HR.out.below HB.out) hlt
      obtain ⟨c1, c2⟩ := hc j hlt
      clear hc c2
      rw [marksI_at hlt, ← HM.out] at c1
      have hq : ((m : Int) != (m : Int)) = false := by simp
      go_wp2_with fail
      go_roundw
      case rel => exact ⟨j + 1, m + 1, by omega, by go_num, by go_num, by rw [HM.out, Nat.add_assoc], HB.out⟩
      case measure => simp [intOf]; omega
    · go_wp2_with fail
      go_ret
      exact ⟨ret_i (by rw [HM.out, show j = n by omega]), HB.out⟩
end Go.Proofs.Ythcpjkhijjkolaa

/- Marks on cases of the call's own. -/
namespace Go.Proofs.Ythcpjkhijjkolaa
open Go.RowKit

/-- Where the marks of a case begin. -/
def mkC (F : Nat → Case) (k : Nat) : Nat → Nat
  | 0 => k
  | j + 1 => mkC F k j + 2 + (F j).done.length
def mkF (F : Nat → Case) (k : Nat) (j : Nat) : Case := ⟨markS (mkC F k j), ((mkC F k j : Nat) : Int) + 1, marksS (mkC F k j + 2) (F j).done.length⟩
theorem mkC_lo (F : Nat → Case) (k : Nat) : ∀ j, k ≤ mkC F k j
  | 0 => Nat.le_refl _
  | j + 1 => by have := mkC_lo F k j; show k ≤ mkC F k j + 2 + _; omega
theorem mkC_hi {F : Nat → Case} {k n : Nat} (h : ∀ j, j < n → (F j).done.length ≤ 1000) : ∀ j, j ≤ n → mkC F k j ≤ k + j * 1002
  | 0, _ => by show k ≤ _; omega
  | j + 1, hj => by have h2 := mkC_hi (k := k) h j (by omega); have := h j (by omega); show mkC F k j + 2 + _ ≤ _; omega
theorem DC.congr {w : World} {b off n : Nat} {F G : Nat → Case} {β γ : Nat → Nat} (h : DC w b off n F β γ) (e : ∀ j, j < n → F j = G j) : DC w b off n G β γ :=
  ⟨h.lt, h.hi, fun j hj => by rw [← e j hj]; exact h.at_ j hj, h.ne, h.dis⟩
theorem DC.mark {w w1 w3 : World} {b off n j n' c' : Nat} {A' : Option Addr} {F : Nat → Case} {β γ : Nat → Nat} {s : Str} {z : Int} {ys : List Str} (h : DC w b off n F β γ) (hj : j < n) (hb1 : Below w.heap.size w w1)
    (hc : Cl w b (off + j * 3 + 2) (.slice A' n' c')) (hnc : n' ≤ c') (ho : Out (β j) (γ j) ((w1.setCell ⟨b, off + j * 3, none⟩ (.string s)).setCell ⟨b, off + j * 3 + 1, none⟩ (.int .i64 z)) w3) (hr : RH strE w3 (β j) (γ j) A' n' ys) :
    DC w3 b off n (fun i => if i = j then ⟨s, z, ys⟩ else F i) β γ := by
  have h1 := h.below hb1
  have hsz : ((w1.setCell ⟨b, off + j * 3, none⟩ (.string s)).setCell ⟨b, off + j * 3 + 1, none⟩ (.int .i64 z)).heap.size = w1.heap.size := by simp
  have hs3 : w1.heap.size ≤ w3.heap.size := by have := ho.size; omega
  have hkeep : ∀ i, i ≠ b → ((w1.setCell ⟨b, off + j * 3, none⟩ (.string s)).setCell ⟨b, off + j * 3 + 1, none⟩ (.int .i64 z)).heap[i]? = w1.heap[i]? := fun i hi =>
    (Below.heap_setCell _ _ _ i (by intro e; exact hi e)).trans (Below.heap_setCell _ _ _ i (by intro e; exact hi e))
  have hsb : Same b (b + 1) ((w1.setCell ⟨b, off + j * 3, none⟩ (.string s)).setCell ⟨b, off + j * 3 + 1, none⟩ (.int .i64 z)) w3 := ⟨fun i g1 g2 => by
    rw [show i = b by omega]
    refine ho.block b (by rw [hsz]; exact h1.lt) ?_
    rcases h.ne j hj with g | g
    · exact .inl g
    · exact .inr g⟩
  have hsw : Same b (b + 1) w w1 := ⟨fun i g1 g2 => by rw [show i = b by omega]; exact hb1.block b h.lt⟩
  refine ⟨Nat.lt_of_lt_of_le h1.lt hs3, fun i hi => Nat.le_trans (h1.hi i hi) hs3, fun i hi => ?_, h.ne, h.dis⟩
  by_cases hij : i = j
  · subst hij
    simp only [if_true]
    obtain ⟨_, _, _, d1, d2, _⟩ := h1.at_ i hi
    have d3 := hc.same hsw (Nat.le_refl _) (Nat.lt_succ_self _)
    refine ⟨A', n', c', ?_, ?_, ?_, hr, hnc⟩
    · exact (d1.set_same.set_other (.inr (by omega))).same hsb (Nat.le_refl _) (Nat.lt_succ_self _)
    · exact ((d2.set_other (.inr (by omega))).set_same).same hsb (Nat.le_refl _) (Nat.lt_succ_self _)
    · exact ((d3.set_other (.inr (by omega))).set_other (.inr (by omega))).same hsb (Nat.le_refl _) (Nat.lt_succ_self _)
  · simp only [hij, if_false]
    obtain ⟨A1, n1, c1, d1, d2, d3, d4, d5⟩ := h1.at_ i hi
    refine ⟨A1, n1, c1, ?_, ?_, ?_, ?_, d5⟩
    · exact ((d1.set_other (.inr (by omega))).set_other (.inr (by omega))).same hsb (Nat.le_refl _) (Nat.lt_succ_self _)
    · exact ((d2.set_other (.inr (by omega))).set_other (.inr (by omega))).same hsb (Nat.le_refl _) (Nat.lt_succ_self _)
    · exact ((d3.set_other (.inr (by omega))).set_other (.inr (by omega))).same hsb (Nat.le_refl _) (Nat.lt_succ_self _)
    · have d6 : RH strE ((w1.setCell ⟨b, off + j * 3, none⟩ (.string s)).setCell ⟨b, off + j * 3 + 1, none⟩ (.int .i64 z)) (β i) (γ i) A1 n1 (F i).done := d4.same ⟨fun q g1 g2 => hkeep q (by rcases h.ne i hi with g | g <;> omega)⟩
      exact d6.out ho (by rw [hsz]; exact h1.hi i hi) (h.dis i j hi hj hij)

set_option maxRecDepth 100000 in
set_option maxHeartbeats 1000000 in
theorem markOwn_any (b off n c k lo : Nat) (F : Nat → Case) (β γ : Nat → Nat) (w : World) (h : DC w b off n F β γ) (hn : n ≤ 1000) (hl : ∀ j, j < n → (F j).done.length ≤ 1000) (h1 : 1 ≤ k) (h2 : k ≤ 1000000000) (hlo : lo ≤ b) (hlo2 : ∀ j, j < n → lo ≤ β j ∨ γ j ≤ β j) :
    Calls Try.prog 37 #[.slice (some ⟨b, off, none⟩) n c, .int .i64 (k : Int)] w fun e w' => e = .returned (.int .i64 ((mkC F k n : Nat) : Int)) ∧ DC w' b off n (mkF F k) β γ ∧ Out lo w.heap.size w w' := by
  have HLT := Lib.hid h.lt
  have HHI := Lib.hid h.hi
  have HH := Lib.hid h; clear h
  have HLD := Lib.hid hl; clear hl
  have HL2 := Lib.hid hlo2; clear hlo2
  go_enter Try.func37, Try.ntmps37
  go_wp2_with fail
  go_loopw [1, 5] (fun q i wr => ∃ j : Nat, j ≤ n ∧ i = .int .i64 (j : Int) ∧ q = .int .i64 ((mkC F k j : Nat) : Int) ∧ DC wr b off n (fun i => if i < j then mkF F k i else F i) β γ ∧ Out lo w.heap.size w wr) (fun _ i _ => n - (intOf i).toNat)
  case atStart => exact ⟨0, Nat.zero_le _, rfl, rfl, HH.out.congr (fun j _ => by simp), Out.refl⟩
  case round =>
    obtain ⟨j, hj, rfl, rfl, hdc, hb⟩ := hrel
    have HDC := Lib.hid hdc; clear hdc
    have HB := Lib.hid hb; clear hb
    have hm := mkC_hi (k := k) HLD.out j hj
    have hm0 := mkC_lo F k j
    by_cases hlt : j < n
    · obtain ⟨A', n', c', ⟨d1, f1⟩, ⟨d2, f2⟩, ⟨d3, f3⟩, d4, d5⟩ := HDC.out.at_ j hlt
      have e1 : (if j < j then mkF F k j else F j) = F j := if_neg (by omega)
      simp only [e1] at d1 d2 d4
      have hn' : n' = (F j).done.length := d4.1.symm
      have hdl := HLD.out j hlt
      have HT := Lib.hid (show mkC F k (j + 1) = mkC F k j + 2 + n' by rw [hn']; rfl)
      have HFJ := Lib.hid (show mkF F k j = ⟨markS (mkC F k j), ((mkC F k j : Nat) : Int) + 1, marksS (mkC F k j + 2) n'⟩ by rw [hn']; rfl)
      have HN' := Lib.hid hn'; clear hn'
      have hdl' : n' ≤ 1000 := by rw [HN'.out]; exact hdl
      generalize mkC F k j = m at *
      have hm3 : (m : Int) ≤ 2305843009213693952 := by omega
      have hbl := HDC.out.lt
      go_wp2_with fail
      refine (markText2_any m _ (by omega) (by omega)).mono ?_
      rintro e w1 ⟨rfl, hbw⟩
      have HBW := Lib.hid hbw
      have p1 := (hbw.cell (p := ⟨b, off + j * 3, none⟩) hbl).trans d1
      have p1' := (hbw.frozen (p := ⟨b, off + j * 3, none⟩) hbl).trans f1
      have c2 : Cl w1 b (off + j * 3 + 1) (.int .i64 (F j).st) := ⟨(hbw.cell (p := ⟨b, off + j * 3 + 1, none⟩) hbl).trans d2, (hbw.frozen (p := ⟨b, off + j * 3 + 1, none⟩) hbl).trans f2⟩
      have c3 : Cl w1 b (off + j * 3 + 2) (.slice A' n' c') := ⟨(hbw.cell (p := ⟨b, off + j * 3 + 2, none⟩) hbl).trans d3, (hbw.frozen (p := ⟨b, off + j * 3 + 2, none⟩) hbl).trans f3⟩
      obtain ⟨p2, p2'⟩ := c2.set_other (b' := b) (o' := off + j * 3) (v := .string (markS m)) (.inr (by omega))
      obtain ⟨p3, _⟩ := (c3.set_other (b' := b) (o' := off + j * 3) (v := .string (markS m)) (.inr (by omega))).set_other (b' := b) (o' := off + j * 3 + 1) (v := .int .i64 ((m : Int) + 1)) (.inr (by omega))
      have HRS : Hid (RH strE ((w1.setCell ⟨b, off + j * 3, none⟩ (.string (markS m))).setCell ⟨b, off + j * 3 + 1, none⟩ (.int .i64 ((m : Int) + 1))) (β j) (γ j) A' n' (F j).done) := (d4.below hbw (HDC.out.hi j hlt)).same ⟨fun q g1 g2 => by
        have hq : q ≠ b := by rcases HDC.out.ne j hlt with g | g <;> omega
        exact (Below.heap_setCell _ _ _ q (by intro e; exact hq e)).trans (Below.heap_setCell _ _ _ q (by intro e; exact hq e))⟩
      have HC3 := Lib.hid (show Cl wr b (off + j * 3 + 2) (.slice A' n' c') from ⟨d3, f3⟩)
      have hhi := HDC.out.hi j hlt
      have hs1 := hbw.size
      clear hbw d1 f1 d2 f2 d3 f3 d4 c2 c3 hdl e1 HH
      go_wp2_with fail
      refine (markStringS_any A' n' c' (m + 2) (F j).done (β j) (γ j) _ HRS.out (by omega) (by omega) (by omega) (by simp; omega)).mono ?_
      rintro e w3 ⟨rfl, hr3, ho3⟩
      have HD3 := Lib.hid (HDC.out.mark hlt HBW.out HC3.out d5 ho3 hr3)
      have HO3 := Lib.hid (show Out lo w.heap.size w w3 from by
        have hsw := HB.out.size
        have g0 : Out lo w.heap.size w ((w1.setCell ⟨b, off + j * 3, none⟩ (.string (markS m))).setCell ⟨b, off + j * 3 + 1, none⟩ (.int .i64 ((m : Int) + 1))) := by
          have hbw0 : b < w.heap.size := HLT.out
          exact ((HB.out.trans (Out.of_below HBW.out)).set_ hlo hbw0 _ _).set_ hlo hbw0 _ _
        refine g0.trans ⟨ho3.os, ho3.tape, ho3.output, ho3.size, fun i g1 g2 => ?_⟩
        have g3 := HHI.out j hlt
        refine ho3.block i g1 ?_
        rcases HL2.out j hlt with g4 | g4
        · rcases g2 with g2 | g2
          · exact .inl (by omega)
          · exact .inr (by omega)
        · rcases Nat.lt_or_ge i (β j) with g5 | g5
          · exact .inl g5
          · exact .inr (by omega))
      clear ho3 hr3
      go_wp2_with fail
      go_roundw
      case rel =>
        refine ⟨j + 1, by omega, by go_num, by rw [HT.out]; go_num, HD3.out.congr (fun i hi => ?_), HO3.out⟩
        by_cases hij : i = j
        · subst hij
          rw [if_pos rfl, if_pos (by omega), HFJ.out]
        · rw [if_neg hij]
          by_cases hil : i < j
          · rw [if_pos hil, if_pos (by omega)]
          · rw [if_neg hil, if_neg (by omega)]
      case measure => simp [intOf]; omega
    · obtain rfl : j = n := by omega
      go_wp2_with fail
      go_ret
      exact ⟨rfl, HDC.out.congr (fun i hi => by rw [if_pos hi]), HB.out⟩

set_option maxRecDepth 100000 in
set_option maxHeartbeats 1000000 in
theorem heldOwn_any (b off n c k : Nat) (F : Nat → Case) (β γ : Nat → Nat) (w : World) (h : DC w b off n (mkF F k) β γ) (hn : n ≤ 1000) (hl : ∀ j, j < n → (F j).done.length ≤ 1000) (h1 : 1 ≤ k) (h2 : k ≤ 1000000000) :
    Calls Try.prog 44 #[.slice (some ⟨b, off, none⟩) n c, .int .i64 (k : Int)] w fun e w' => e = .returned (.int .i64 ((mkC F k n : Nat) : Int)) ∧ Below w.heap.size w w' := by
  have HH := Lib.hid h; clear h
  have HLD := Lib.hid hl; clear hl
  go_enter Try.func44, Try.ntmps44
  go_wp2_with fail
  go_loopw [1, 5] (fun q i wr => ∃ j : Nat, j ≤ n ∧ i = .int .i64 (j : Int) ∧ q = .int .i64 ((mkC F k j : Nat) : Int) ∧ Below w.heap.size w wr) (fun _ i _ => n - (intOf i).toNat)
  case atStart => exact ⟨0, Nat.zero_le _, rfl, rfl, Below.refl _ _⟩
  case round =>
    obtain ⟨j, hj, rfl, rfl, hb⟩ := hrel
    have HB := Lib.hid hb; clear hb
    have HDC := Lib.hid (HH.out.below HB.out)
    have hm := mkC_hi (k := k) HLD.out j hj
    have hm0 := mkC_lo F k j
    by_cases hlt : j < n
    · obtain ⟨A', n', c', ⟨d1, f1⟩, ⟨d2, f2⟩, ⟨d3, f3⟩, d4, d5⟩ := HDC.out.at_ j hlt
      have hdl := HLD.out j hlt
      have hn' : n' = (F j).done.length := by rw [← d4.1]; exact marksS_len _ _
      have HT := Lib.hid (show mkC F k (j + 1) = mkC F k j + 2 + n' by rw [hn']; rfl)
      have hfj : mkF F k j = ⟨markS (mkC F k j), ((mkC F k j : Nat) : Int) + 1, marksS (mkC F k j + 2) n'⟩ := by rw [hn']; rfl
      rw [hfj] at d1 d2 d4
      have hdl' : n' ≤ 1000 := by rw [hn']; exact hdl
      clear hn' hfj hdl
      generalize mkC F k j = m at *
      have hm3 : (m : Int) ≤ 2305843009213693952 := by omega
      have hm1 : 1 ≤ m := by omega
      have hm2 : m ≤ 2305843009213693952 := by omega
      have hbl := HDC.out.lt
      have hq : ((markS m).toList != (markS m).toList) = false := by simp
      have hq2 : (((m : Int) + 1) != ((m : Int) + 1)) = false := by simp
      have hss : Hid (RStr wr (β j) A' n' (marksS (m + 2) n')) := d4.up (HDC.out.hi j hlt)
      clear d4
      go_wp2_with fail
      go_region_held3 (fun w' => w'.cell? ⟨b, off + j * 3, none⟩ = some (.string (markS m)))
        (first | go_keep | (rw [hbw.cell (p := ⟨b, off + j * 3, none⟩) (by simpa using hbl)]; assumption))
        (first | (go_at_call 88; refine (markText2_any m _ hm1 hm2).mono ?_; rintro e w1 ⟨rfl, hbw⟩))
      have hbw' : Below wr.heap.size wr w1 := (Below.refl wr.heap.size wr).drew.trans hbw
      have p2 := (hbw'.cell (p := ⟨b, off + j * 3 + 1, none⟩) hbl).trans d2
      have p3 := (hbw'.cell (p := ⟨b, off + j * 3 + 2, none⟩) hbl).trans d3
      have HB1 := Lib.hid (HB.out.trans (hbw'.mono HB.out.size))
      have HS1 := Lib.hid (hss.out.below hbw')
      clear hbw hbw' d1 d2 d3 f1 f2 f3 hss
      go_wp2_with fail
      refine (heldStringS_any A' n' c' (m + 2) _ _ HS1.out (by omega) (by omega) (by omega)).mono ?_
      rintro e w3 ⟨rfl, hb3⟩
      have HB3 := Lib.hid (HB1.out.trans (hb3.mono HB1.out.size))
      clear hb3 p2 p3
      have hpos : ¬ (((m + 2 + n' : Nat) : Int) < 0) := by omega
      go_wp2_with fail
      go_roundw
      case rel => exact ⟨j + 1, by omega, by go_num, by rw [HT.out]; go_num, HB3.out⟩
      case measure => simp [intOf]; omega
    · obtain rfl : j = n := by omega
      go_wp2_with fail
      go_ret
      exact ⟨rfl, HB.out⟩

/-- The marked cases, as a list. -/
def mkL (ss : List Case) (k : Nat) : List Case := (List.range ss.length).map (mkF (nth ss) k)
theorem mkL_len (ss : List Case) (k : Nat) : (mkL ss k).length = ss.length := by simp [mkL]
theorem mkL_at {ss : List Case} {k j : Nat} (hj : j < ss.length) : nth (mkL ss k) j = mkF (nth ss) k j := by
  rw [nth_eq (by rw [mkL_len]; exact hj)]; simp [mkL]
theorem markDR_any (A : Option Addr) (n c k lo : Nat) (ss : List Case) (w : World) (h : DR w lo A n ss) (hn : n ≤ 1000) (hl : ∀ j, j < n → (nth ss j).done.length ≤ 1000) (h1 : 1 ≤ k) (h2 : k ≤ 1000000000) :
    Calls Try.prog 37 #[.slice A n c, .int .i64 (k : Int)] w fun e w' => e = .returned (.int .i64 ((mkC (nth ss) k n : Nat) : Int)) ∧ DR w' lo A n (mkL ss k) ∧ Out lo w.heap.size w w' := by
  have hL := h.1
  rcases Nat.eq_zero_or_pos n with h0 | h0
  · subst h0
    have he : ss = [] := List.length_eq_zero_iff.1 hL
    subst he
    go_enter Try.func37, Try.ntmps37
    go_wp2_with fail
    go_loopw [1, 5] (fun q i wr => q = .int .i64 (k : Int) ∧ i = .int .i64 0 ∧ wr = w) (fun _ _ _ => 0)
    case atStart => exact ⟨rfl, rfl, rfl⟩
    case round =>
      obtain ⟨rfl, rfl, rfl⟩ := hrel
      go_wp2_with fail
      go_ret
      exact ⟨rfl, DR.nil, Out.refl⟩
  · obtain ⟨b, off, β, γ, rfl, e1, e2, e3⟩ := h.2 h0
    refine (markOwn_any b off n c k lo (nth ss) β γ w e3 hn hl h1 h2 e1 e2).mono ?_
    rintro e w' ⟨rfl, hd, ho⟩
    exact ⟨rfl, ⟨by rw [mkL_len]; exact hL, fun _ => ⟨b, off, β, γ, rfl, e1, e2, hd.congr (fun j hj => (mkL_at (by omega)).symm)⟩⟩, ho⟩
theorem heldDR_any (A : Option Addr) (n c k lo : Nat) (ss : List Case) (w : World) (h : DR w lo A n (mkL ss k)) (hn : n ≤ 1000) (hl : ∀ j, j < n → (nth ss j).done.length ≤ 1000) (h1 : 1 ≤ k) (h2 : k ≤ 1000000000) :
    Calls Try.prog 44 #[.slice A n c, .int .i64 (k : Int)] w fun e w' => e = .returned (.int .i64 ((mkC (nth ss) k n : Nat) : Int)) ∧ Below w.heap.size w w' := by
  have hL : ss.length = n := by rw [← h.1, mkL_len]
  rcases Nat.eq_zero_or_pos n with h0 | h0
  · subst h0
    go_enter Try.func44, Try.ntmps44
    go_wp2_with fail
    go_loopw [1, 5] (fun q i wr => q = .int .i64 (k : Int) ∧ i = .int .i64 0 ∧ wr = w) (fun _ _ _ => 0)
    case atStart => exact ⟨rfl, rfl, rfl⟩
    case round =>
      obtain ⟨rfl, rfl, rfl⟩ := hrel
      go_wp2_with fail
      go_ret
      exact ⟨rfl, Below.refl _ _⟩
  · obtain ⟨b, off, β, γ, rfl, e1, e2, e3⟩ := h.2 h0
    exact heldOwn_any b off n c k (nth ss) β γ w (e3.congr (fun j hj => mkL_at (by omega))) hn hl h1 h2
end Go.Proofs.Ythcpjkhijjkolaa

/- Events in exact laws; cases of the call's own beside marks. -/
namespace Go.Proofs.Ythcpjkhijjkolaa
open Go.RowKit

theorem DR.out {w w' : World} {lo lo1 hi1 n : Nat} {A : Option Addr} {ss : List Case} (h : DR w lo A n ss) (ho : Out lo1 hi1 w w') (hd : hi1 ≤ lo) : DR w' lo A n ss :=
  ⟨h.1, fun hn => by
    obtain ⟨b, off, β, γ, e, h1, h2, h3⟩ := h.2 hn
    refine ⟨b, off, β, γ, e, h1, h2, h3.kept ho.size (ho.block b h3.lt (.inr (by omega))) fun j hj i g1 g2 => ho.block i (Nat.lt_of_lt_of_le g2 (h3.hi j hj)) (.inr ?_)⟩
    rcases h2 j hj with g | g <;> omega⟩
theorem DR.low {w : World} {lo n : Nat} {A : Option Addr} {ss : List Case} (h : DR w lo A n ss) : RH caseE w lo w.heap.size A n ss := h.hat
theorem szEvent_any (k : Int) (x : Str) (left : Int) (w : World) (h0 : 0 ≤ left) (h1 : left ≤ 1099511627776) (hx : (x.size : Int) ≤ 9223372036854775807) :
    Calls Try.prog 55 #[.agg #[.int .i64 k, .string x], .int .i64 left] w fun e w' => (∃ r : Int, e = .returned (.int .i64 r)) ∧ Below w.heap.size w w' := by
  by_cases hl : left - (x.size : Int) < 0
  · go_enter Try.func55, Try.ntmps55
    go_wp2_with fail
    go_ret
    exact ⟨⟨_, rfl⟩, (Below.refl _ _).alloc (Nat.le_refl _) _⟩
  · go_enter Try.func55, Try.ntmps55
    go_wp2_with fail
    go_ret
    exact ⟨⟨_, rfl⟩, (Below.refl _ _).alloc (Nat.le_refl _) _⟩
theorem toEvent_any (k : Int) (x : Str) (w : World) :
    Calls Try.prog 56 #[.agg #[.int .i64 k, .string x]] w fun e w' => e = .returned (.agg #[.int .i64 k, .string x]) ∧ Below w.heap.size w w' := by
  go_enter Try.func56, Try.ntmps56
  go_wp2_with fail
  have hres := heap_old (o := .cells #[.int .i64 k, .string x] 73) (heap_new (w := w.alloc (.cells #[.int .i64 k, .string x] 81)) (b := w.heap.size + 1) (o := .cells #[.int .i64 k, .string x] 73) (by simp))
  have e0 := (blk_cl (k := 0) hres rfl).1
  have e1 := (blk_cl (k := 1) hres rfl).1
  exact bodyPost_ret (v := .agg #[.int .i64 k, .string x]) (by simp [results, Try.results56, go_sem, e0, e1]) rfl ⟨rfl, (((Below.refl w.heap.size w).alloc (Nat.le_refl _) _).alloc (by simp) _).alloc (by simp; omega) _⟩
theorem peL_small {f : Flow} {cs : List Case} {nm x : Str} {k : Int} : (peL f cs nm k x).length ≤ 8 ∧ ∀ j, j < (peL f cs nm k x).length → (nth (peL f cs nm k x) j).done.length ≤ 8 := by
  cases h : peB f cs nm k x
  · rw [peL_no h]
    exact ⟨Nat.zero_le _, fun j hj => absurd hj (by simp)⟩
  · have hp := pool_ev h
    exact ⟨pool_len hp, fun j hj => (run_sizes (pool_run hp hj)).1⟩
end Go.Proofs.Ythcpjkhijjkolaa

/- FnExactPoolEvent: the walk. -/
namespace Go.Proofs.Ythcpjkhijjkolaa
open Go.RowKit

set_option maxRecDepth 100000 in
set_option maxHeartbeats 8000000 in
theorem fnExactPoolEvent_any (A B : Option Addr) (n c m d : Nat) (f : Flow) (cs : List Case) (nm : Str) (k : Int) (x : Str) (w : World) (hr : RStep w 0 A n f.steps) (hn : n ≤ maxLen) (hs : ∀ j, j < n → stepSz (nth f.steps j)) (hd : RCase w 0 B m cs) (hm : m ≤ maxLen) (hcs : ∀ j, j < m → caseSz (nth cs j)) (hx : x.size ≤ maxLen) :
    Calls Try.prog 13 #[.agg #[.int .i64 f.ver, .slice A n c], .slice B m d, .string nm, .agg #[.int .i64 k, .string x]] w fun e w' => e = .returned (.bool true) ∧ Below w.heap.size w w' := by
  have HN := Lib.hid hn; clear hn
  have HS := Lib.hid hs; clear hs
  have HM := Lib.hid hm; clear hm
  have HCS := Lib.hid hcs; clear hcs
  have HXL := Lib.hid hx; clear hx
  have HX0 := Lib.hid (heap_old (o := .cells #[.int .i64 k, .string x] 81) (heap_new (w := w) (o := .cells #[.int .i64 f.ver, .slice A n c] 24) rfl))
  have HV0 := Lib.hid (heap_new (w := w.alloc (.cells #[.int .i64 f.ver, .slice A n c] 24)) (b := w.heap.size + 1) (o := .cells #[.int .i64 k, .string x] 81) (by simp))
  have HB0 := Lib.hid (((Below.refl w.heap.size w).alloc (Nat.le_refl _) (.cells #[.int .i64 f.ver, .slice A n c] 24)).alloc (by simp) (.cells #[.int .i64 k, .string x] 81))
  have HR0 := Lib.hid ((hr.alloc (.cells #[.int .i64 f.ver, .slice A n c] 24)).alloc (.cells #[.int .i64 k, .string x] 81)); clear hr
  have HD0 := Lib.hid ((hd.alloc (.cells #[.int .i64 f.ver, .slice A n c] 24)).alloc (.cells #[.int .i64 k, .string x] 81)); clear hd
  have HK : Hid (∀ w', Below ((w.alloc (.cells #[.int .i64 f.ver, .slice A n c] 24)).alloc (.cells #[.int .i64 k, .string x] 81)).heap.size ((w.alloc (.cells #[.int .i64 f.ver, .slice A n c] 24)).alloc (.cells #[.int .i64 k, .string x] 81)) w' → ((w'.cell? ⟨w.heap.size, 0, none⟩ = some (.int .i64 f.ver) ∧ w'.cell? ⟨w.heap.size, 1, none⟩ = some (.slice A n c)) ∧ (w'.cell? ⟨w.heap.size + 1, 0, none⟩ = some (.int .i64 k) ∧ w'.cell? ⟨w.heap.size + 1, 1, none⟩ = some (.string x))) ∧ RStep w' 0 A n f.steps ∧ RCase w' 0 B m cs ∧ Below w.heap.size w w') := fun w' h => by
    have e1 := (h.block w.heap.size (by simp; omega)).trans HX0.out
    have e2 := (h.block (w.heap.size + 1) (by simp)).trans HV0.out
    exact ⟨⟨⟨(blk_cl (k := 0) e1 rfl).1, (blk_cl (k := 1) e1 rfl).1⟩, (blk_cl (k := 0) e2 rfl).1, (blk_cl (k := 1) e2 rfl).1⟩, HR0.out.below h, HD0.out.below h, HB0.out.trans (h.mono HB0.out.size)⟩
  by_cases hlong : 1048576 < nm.size
  · have hlong2 : (1048576 : Int) < (nm.size : Int) := by omega
    go_enter Try.func13, Try.ntmps13
    go_wp2_with fail
    go_ret
    exact ⟨rfl, (HK.out _ (Below.refl _ _)).2.2.2⟩
  have hlong2 : ¬ ((1048576 : Int) < (nm.size : Int)) := by omega
  go_enter Try.func13, Try.ntmps13
  go_wp2_with fail
  refine (szFlow_any _ _ _ f _ _ _ HR0.out HN.out HS.out (by omega) (by omega)).mono ?_
  rintro e w1 ⟨r, rfl, hr0, hr1, hb1⟩
  have HB1 := Lib.hid hb1; clear hb1
  by_cases hneg : r < 0
  · clear hr1
    go_wp2_with fail
    go_ret
    exact ⟨rfl, (HK.out _ HB1.out).2.2.2⟩
  obtain ⟨hle, hok⟩ := hr1 (by omega)
  have HOK := Lib.hid hok; clear hok
  go_wp2_with fail
  refine (szCaseS_any _ _ _ cs _ _ _ (HK.out _ HB1.out).2.2.1 HM.out HCS.out (by omega) (by omega)).mono ?_
  rintro e w2 ⟨r2, rfl, hr20, hr21, hb2⟩
  have HB2 := Lib.hid (HB1.out.trans (hb2.mono HB1.out.size)); clear hb2
  by_cases hneg2 : r2 < 0
  · clear hr21
    go_wp2_with fail
    go_ret
    exact ⟨rfl, (HK.out _ HB2.out).2.2.2⟩
  obtain ⟨_, hokc⟩ := hr21 (by omega)
  have HOC := Lib.hid hokc; clear hokc
  obtain ⟨⟨⟨_, _⟩, v0, v1⟩, _⟩ := HK.out _ HB2.out
  go_wp2_with fail
  refine (szEvent_any k x r2 _ (by omega) (by omega) (by have := HXL.out; unfold maxLen at this; omega)).mono ?_
  rintro e w3 ⟨⟨r3, rfl⟩, hb3⟩
  have HB3 := Lib.hid (HB2.out.trans (hb3.mono HB2.out.size)); clear hb3 v0 v1
  by_cases hneg3 : r3 < 0
  · go_wp2_with fail
    go_ret
    exact ⟨rfl, (HK.out _ HB3.out).2.2.2⟩
  have HSA : Hid (∀ w', Below w3.heap.size w3 w' → ((w'.cell? ⟨w.heap.size, 0, none⟩ = some (.int .i64 f.ver) ∧ w'.cell? ⟨w.heap.size, 1, none⟩ = some (.slice A n c)) ∧ (w'.cell? ⟨w.heap.size + 1, 0, none⟩ = some (.int .i64 k) ∧ w'.cell? ⟨w.heap.size + 1, 1, none⟩ = some (.string x))) ∧ Below w3.heap.size w3 w') := fun w' h => ⟨(HK.out _ (HB3.out.trans (h.mono HB3.out.size))).1, h⟩
  go_wp2_with fail
  go_region_held3 (fun w' => ((w'.cell? ⟨w.heap.size, 0, none⟩ = some (.int .i64 f.ver) ∧ w'.cell? ⟨w.heap.size, 1, none⟩ = some (.slice A n c)) ∧ (w'.cell? ⟨w.heap.size + 1, 0, none⟩ = some (.int .i64 k) ∧ w'.cell? ⟨w.heap.size + 1, 1, none⟩ = some (.string x))) ∧ Below w3.heap.size w3 w')
    (first | exact HSA.out _ hbw | exact HSA.out _ (Below.refl _ _).drew | fail "keep")
    (first
      | (go_at_call 17; refine (toFlow_any _ _ _ f _ _ ((HK.out _ HB3.out).2.1.below (Below.refl _ _).drew) HOK.out).mono ?_; rintro e wa ⟨Aa, ca, rfl, ha, hba⟩; have hbw : Below w3.heap.size w3 wa := (Below.refl w3.heap.size w3).drew.trans hba)
      | (go_at_call 31; refine (toCaseS_any _ _ _ cs _ _ ((HK.out _ HB3.out).2.2.1.below hbw) HOC.out).mono ?_; rintro e wc ⟨Bc, dc, rfl, hc, hbc⟩; replace ha := ha.below hbc; replace hbw := hbw.trans (hbc.mono hbw.size))
      | (go_at_call 56; refine (toEvent_any k x _).mono ?_; rintro e we ⟨rfl, hbe⟩; replace ha := ha.below hbe; replace hc := hc.below hbe; replace hbw := hbw.trans (hbe.mono hbw.size))
      | (go_at_call 48; refine (poolEvS_any _ _ _ _ _ _ f cs nm k x _ _ _ ha HOK.out hc HOC.out).mono ?_; rintro e wp ⟨Ap, np, dp, rfl, hp, hnp, hbp⟩; have hsp := hbw.size; replace hbw := hbw.trans (hbp.mono hbw.size))
      | fail "no arm")
  clear HSA ha hc hba hbc hbe
  have HSM := Lib.hid (peL_small (f := f) (cs := cs) (nm := nm) (x := x) (k := k))
  have HOP := Lib.hid (okCases_ev (f := f) (nm := nm) (x := x) (k := k) HOC.out)
  have hn5 : np ≤ 8 := by rw [← hp.1]; exact HSM.out.1
  have HPW := Lib.hid hp.low; clear hp
  have HB5 := Lib.hid (HB3.out.trans (hbw.mono HB3.out.size))
  clear hbw hbp hsp hnp
  obtain ⟨⟨⟨b0, b1⟩, _⟩, _⟩ := HK.out _ HB5.out
  go_wp2_with fail
  refine (toFlow_any _ _ _ f _ _ (HK.out _ HB5.out).2.1 HOK.out).mono ?_
  rintro e w6 ⟨A6, c6, rfl, h6, hb6⟩
  have hs6 := hb6.size
  have hs6a : (w6.alloc (.cells #[.int .i64 f.ver, .slice A6 n c6] 33)).heap.size = w6.heap.size + 1 := by simp
  have HY6 := Lib.hid (heap_new (w := w6) (o := .cells #[.int .i64 f.ver, .slice A6 n c6] 33) rfl)
  have HA6 := Lib.hid ((Below.refl w6.heap.size w6).alloc (Nat.le_refl _) (.cells #[.int .i64 f.ver, .slice A6 n c6] 33))
  have H56 := Lib.hid (HPW.out.below (hb6.alloc hb6.size (.cells #[.int .i64 f.ver, .slice A6 n c6] 33)) (Nat.le_refl _))
  have H6 := Lib.hid (h6.low.below HA6.out (Nat.le_refl _))
  have HF6 := Lib.hid (h6.alloc (.cells #[.int .i64 f.ver, .slice A6 n c6] 33)); clear h6
  have HB6a := HB5.out.trans (hb6.mono HB5.out.size)
  have HB6 := Lib.hid (HB6a.alloc HB6a.size (.cells #[.int .i64 f.ver, .slice A6 n c6] 33))
  clear hb6 b0 b1 HB6a
  go_wp2_with fail
  refine (toCaseS_any _ _ _ cs _ _ (HK.out _ HB6.out).2.2.1 HOC.out).mono ?_
  rintro e w7 ⟨B7, d7, rfl, h7, hb7⟩
  have hs7 := hb7.size
  have HY7 := Lib.hid ((hb7.block w6.heap.size (heap_lt HY6.out)).trans HY6.out)
  have H57 := Lib.hid (H56.out.below hb7 (by omega))
  have H67 := Lib.hid (H6.out.below hb7 (by omega))
  have H7 := Lib.hid h7.low
  have HC7 := Lib.hid h7; clear h7
  have HF7 := Lib.hid (HF6.out.below hb7)
  have HB7 := Lib.hid (HB6.out.trans (hb7.mono HB6.out.size))
  clear hb7
  have HSC : Hid (∀ w', Below w7.heap.size w7 w' → (((w'.cell? ⟨w.heap.size, 0, none⟩ = some (.int .i64 f.ver) ∧ w'.cell? ⟨w.heap.size, 1, none⟩ = some (.slice A n c)) ∧ (w'.cell? ⟨w.heap.size + 1, 0, none⟩ = some (.int .i64 k) ∧ w'.cell? ⟨w.heap.size + 1, 1, none⟩ = some (.string x))) ∧ (w'.cell? ⟨w6.heap.size, 0, none⟩ = some (.int .i64 f.ver) ∧ w'.cell? ⟨w6.heap.size, 1, none⟩ = some (.slice A6 n c6))) ∧ Below w7.heap.size w7 w') := fun w' h => by
    have e2 := (h.block _ (heap_lt HY7.out)).trans HY7.out
    exact ⟨⟨(HK.out _ (HB7.out.trans (h.mono HB7.out.size))).1, (blk_cl (k := 0) e2 rfl).1, (blk_cl (k := 1) e2 rfl).1⟩, h⟩
  go_wp2_with fail
  go_region_held3 (fun w' => (((w'.cell? ⟨w.heap.size, 0, none⟩ = some (.int .i64 f.ver) ∧ w'.cell? ⟨w.heap.size, 1, none⟩ = some (.slice A n c)) ∧ (w'.cell? ⟨w.heap.size + 1, 0, none⟩ = some (.int .i64 k) ∧ w'.cell? ⟨w.heap.size + 1, 1, none⟩ = some (.string x))) ∧ (w'.cell? ⟨w6.heap.size, 0, none⟩ = some (.int .i64 f.ver) ∧ w'.cell? ⟨w6.heap.size, 1, none⟩ = some (.slice A6 n c6))) ∧ Below w7.heap.size w7 w')
    (first | exact HSC.out _ hbw | exact HSC.out _ (Below.refl _ _).drew | fail "keep")
    (first
      | (go_at_call 56; refine (toEvent_any k x _).mono ?_; rintro e we ⟨rfl, hbe⟩; have hbw : Below w7.heap.size w7 we := (Below.refl w7.heap.size w7).drew.trans hbe)
      | (go_at_call 47; refine (poolEvI_any _ _ _ _ _ _ f cs nm k x _ _ _ (HF7.out.below hbw) HOK.out (HC7.out.below hbw) HOC.out).mono ?_; rintro e w8 ⟨A8, n8, c8, rfl, h8, hnc8, hb8⟩; have hsp := hbw.size; replace hbw := hbw.trans (hb8.mono hbw.size))
      | fail "no arm")
  clear HSC
  obtain rfl : n8 = np := by rw [← h8.1, ← HPW.out.1]
  have hs8 := hbw.size
  have HY8 := Lib.hid ((hbw.block w6.heap.size (heap_lt HY7.out)).trans HY7.out)
  have H58 := Lib.hid (H57.out.below hbw (by omega))
  have H68 := Lib.hid (H67.out.below hbw (by omega))
  have H78 := Lib.hid (H7.out.below hbw (by omega))
  have HC8 := Lib.hid (HC7.out.below hbw)
  have HF8 := Lib.hid (HF7.out.below hbw)
  have H8 := Lib.hid (h8.lower hsp); clear h8
  have HB8 := Lib.hid (HB7.out.trans (hbw.mono HB7.out.size))
  clear hb8 hbw hbe hsp
  have hpe : (peB f cs nm k x != peB f cs nm k x) = false := by simp
  go_wp2_with fail
  refine (eqCaseS_same _ _ _ _ _ (peL f cs nm k x) _ _ _ H8.out.hat HOP.out (H58.out.up (by omega))).mono ?_
  rintro e w9 ⟨rfl, hb9⟩
  have hs9 := hb9.size
  have HB9 := Lib.hid (HB8.out.trans (hb9.mono HB8.out.size))
  have HF9 := Lib.hid (HF8.out.below hb9)
  have HY9 := Lib.hid ((hb9.block w6.heap.size (heap_lt HY8.out)).trans HY8.out)
  have HBB9 := Lib.hid hb9; clear hb9
  have HSB : Hid (∀ w', Below w9.heap.size w9 w' → (((w'.cell? ⟨w.heap.size, 0, none⟩ = some (.int .i64 f.ver) ∧ w'.cell? ⟨w.heap.size, 1, none⟩ = some (.slice A n c)) ∧ (w'.cell? ⟨w.heap.size + 1, 0, none⟩ = some (.int .i64 k) ∧ w'.cell? ⟨w.heap.size + 1, 1, none⟩ = some (.string x))) ∧ (w'.cell? ⟨w6.heap.size, 0, none⟩ = some (.int .i64 f.ver) ∧ w'.cell? ⟨w6.heap.size, 1, none⟩ = some (.slice A6 n c6))) ∧ Below w9.heap.size w9 w') := fun w' h => by
    have e2 := (h.block _ (heap_lt HY9.out)).trans HY9.out
    exact ⟨⟨(HK.out _ (HB9.out.trans (h.mono HB9.out.size))).1, (blk_cl (k := 0) e2 rfl).1, (blk_cl (k := 1) e2 rfl).1⟩, h⟩
  go_wp2_with fail
  go_region_held3 (fun w' => (((w'.cell? ⟨w.heap.size, 0, none⟩ = some (.int .i64 f.ver) ∧ w'.cell? ⟨w.heap.size, 1, none⟩ = some (.slice A n c)) ∧ (w'.cell? ⟨w.heap.size + 1, 0, none⟩ = some (.int .i64 k) ∧ w'.cell? ⟨w.heap.size + 1, 1, none⟩ = some (.string x))) ∧ (w'.cell? ⟨w6.heap.size, 0, none⟩ = some (.int .i64 f.ver) ∧ w'.cell? ⟨w6.heap.size, 1, none⟩ = some (.slice A6 n c6))) ∧ Below w9.heap.size w9 w')
    (first | exact HSB.out _ hbw | exact HSB.out _ (Below.refl _ _).drew | fail "keep")
    (first
      | (go_at_call 17; refine (toFlow_any _ _ _ f _ _ ((HK.out _ HB9.out).2.1.below (Below.refl _ _).drew) HOK.out).mono ?_; rintro e w10 ⟨A10, c10, rfl, h10, hb10⟩; have hbw : Below w9.heap.size w9 w10 := (Below.refl w9.heap.size w9).drew.trans hb10)
      | (go_at_call 20; refine (eqFlow_same _ _ _ _ _ f _ _ _ (HF9.out.below hbw) HOK.out h10).mono ?_; rintro e w10 ⟨rfl, hb10⟩; replace hbw := hbw.trans (hb10.mono hbw.size))
      | fail "no arm")
  have HBW := Lib.hid hbw
  go_wp2_with fail
  refine (toCaseS_any _ _ _ cs _ _ (HK.out _ (HB9.out.trans (HBW.out.mono HB9.out.size))).2.2.1 HOC.out).mono ?_
  rintro e w11 ⟨B11, d11, rfl, h11, hb11⟩
  have HB11 := Lib.hid (HBB9.out.trans ((HBW.out.trans (hb11.mono HBW.out.size)).mono HBB9.out.size))
  have H11 := Lib.hid h11; clear h11
  clear hb11
  go_wp2_with fail
  refine (eqCaseS_same _ _ _ _ _ cs _ _ _ (HC8.out.below HB11.out) HOC.out H11.out).mono ?_
  rintro e w12 ⟨rfl, hb12⟩
  have H812 := Lib.hid (HB11.out.trans (hb12.mono HB11.out.size))
  clear hb12
  have hs12 := H812.out.size
  have HB12 := Lib.hid (HB8.out.trans (H812.out.mono HB8.out.size))
  have HY12 := Lib.hid ((H812.out.block w6.heap.size (heap_lt HY8.out)).trans HY8.out)
  have b0 := (blk_cl (k := 0) HY12.out rfl).1
  have b1 := (blk_cl (k := 1) HY12.out rfl).1
  clear hbw
  go_wp2_with fail
  refine (markFlow_any _ _ _ 1 f _ _ _ (H68.out.below H812.out (by omega)) HOK.out (by omega) (by omega) (by omega)).mono ?_
  rintro e w13 ⟨⟨k13, rfl, hk1, hk2⟩, ho13⟩
  have HO13 := Lib.hid ho13; clear ho13
  have hs13 := HO13.out.size
  have hn13 : n ≤ 1048576 := by have := HOK.out.1; rw [(HK.out _ HB12.out).2.1.1] at this; exact this
  have hk3 : k13 ≤ 1649269538816 := by
    have := Nat.mul_le_mul_right 1048578 hn13
    omega
  clear b0 b1 hk2
  go_wp2_with fail
  refine (markCaseS_any _ _ _ k13 cs _ _ _ ((H78.out.below H812.out (by omega)).out HO13.out (by omega) (.inr (by omega))) HOC.out hk1 hk3 (by omega)).mono ?_
  rintro e w14 ⟨⟨k14, rfl, hk4⟩, ho14⟩
  have HO14 := Lib.hid ho14; clear ho14
  have hs14 := HO14.out.size
  have hk5 : 1 ≤ k14 := by omega
  have H514 := Lib.hid (((H58.out.below H812.out (by omega)).out HO13.out (by omega) (.inl (by omega))).out HO14.out (by omega) (.inl (by omega)))
  have H814 := Lib.hid (((H8.out.below H812.out).out HO13.out (by omega)).out HO14.out (by omega))
  clear hk4 hk3 hk1
  have hz0 := HB0.out.size
  have hzz : ((w.alloc (.cells #[.int .i64 f.ver, .slice A n c] 24)).alloc (.cells #[.int .i64 k, .string x] 81)).heap.size = w.heap.size + 1 + 1 := by simp
  have hz5 := HB5.out.size
  have HB14 := Lib.hid ((HB12.out.trans ((HO13.out.below (by omega)).mono hz5)).trans ((HO14.out.below (by omega)).mono (by omega)))
  go_wp2_with fail
  refine (eqCaseS_same _ _ _ _ _ (peL f cs nm k x) _ _ _ H814.out.hat HOP.out (H514.out.up (by omega))).mono ?_
  rintro e w15 ⟨rfl, hb15⟩
  have HBB15 := Lib.hid hb15; clear hb15
  have hs15 := HBB15.out.size
  have H515 := Lib.hid (H514.out.below HBB15.out (by omega))
  have HB15 := Lib.hid (HB14.out.trans (HBB15.out.mono (by omega)))
  have HLEN := Lib.hid (fun j (hj : j < n8) => (Nat.le_trans (HSM.out.2 j (by rw [H8.out.1]; exact hj)) (by omega) : (nth (peL f cs nm k x) j).done.length ≤ 1000))
  go_wp2_with fail
  refine (markDR_any _ _ _ 1 _ (peL f cs nm k x) _ (H814.out.below HBB15.out) (by omega) HLEN.out (by omega) (by omega)).mono ?_
  rintro e w16 ⟨rfl, h16, ho16⟩
  have H16 := Lib.hid h16; clear h16
  have HO16 := Lib.hid ho16; clear ho16
  have hs16 := HO16.out.size
  have H516 := Lib.hid (H515.out.out HO16.out (by omega) (.inl (by omega)))
  have HB16 := Lib.hid (HB15.out.trans ((HO16.out.below (by omega)).mono (by omega)))
  obtain ⟨k7, hk7⟩ : ∃ k7 : Nat, k7 = mkC (nth (peL f cs nm k x)) 1 n8 := ⟨_, rfl⟩
  rw [← hk7]
  have HK7 := Lib.hid hk7
  have hq : ((k7 : Int) != (k7 : Int)) = false := by simp
  have hq0 : ¬ ((k7 : Int) < 0) := by omega
  clear hk7
  go_wp2_with fail
  refine (heldDR_any _ _ _ 1 _ (peL f cs nm k x) _ H16.out (by omega) HLEN.out (by omega) (by omega)).mono ?_
  rintro e w17 ⟨rfl, hb17⟩
  rw [← HK7.out]
  have HB17 := Lib.hid (HB16.out.trans (hb17.mono HB16.out.size))
  have HBB17 := Lib.hid hb17; clear hb17
  have hs17 := HBB17.out.size
  have HSA : Hid (∀ w', Below w17.heap.size w17 w' → ((w'.cell? ⟨w.heap.size, 0, none⟩ = some (.int .i64 f.ver) ∧ w'.cell? ⟨w.heap.size, 1, none⟩ = some (.slice A n c)) ∧ (w'.cell? ⟨w.heap.size + 1, 0, none⟩ = some (.int .i64 k) ∧ w'.cell? ⟨w.heap.size + 1, 1, none⟩ = some (.string x))) ∧ Below w17.heap.size w17 w') := fun w' h => ⟨(HK.out _ (HB17.out.trans (h.mono HB17.out.size))).1, h⟩
  go_wp2_with fail
  go_region_held3 (fun w' => ((w'.cell? ⟨w.heap.size, 0, none⟩ = some (.int .i64 f.ver) ∧ w'.cell? ⟨w.heap.size, 1, none⟩ = some (.slice A n c)) ∧ (w'.cell? ⟨w.heap.size + 1, 0, none⟩ = some (.int .i64 k) ∧ w'.cell? ⟨w.heap.size + 1, 1, none⟩ = some (.string x))) ∧ Below w17.heap.size w17 w')
    (first | exact HSA.out _ hbw | exact HSA.out _ (Below.refl _ _).drew | fail "keep")
    (first
      | (go_at_call 17; refine (toFlow_any _ _ _ f _ _ ((HK.out _ HB17.out).2.1.below (Below.refl _ _).drew) HOK.out).mono ?_; rintro e wa ⟨Aa, ca, rfl, ha, hba⟩; have hbw : Below w17.heap.size w17 wa := (Below.refl w17.heap.size w17).drew.trans hba)
      | (go_at_call 31; refine (toCaseS_any _ _ _ cs _ _ ((HK.out _ HB17.out).2.2.1.below hbw) HOC.out).mono ?_; rintro e wc ⟨Bc, dc, rfl, hc, hbc⟩; replace ha := ha.below hbc; replace hbw := hbw.trans (hbc.mono hbw.size))
      | (go_at_call 56; refine (toEvent_any k x _).mono ?_; rintro e we ⟨rfl, hbe⟩; replace ha := ha.below hbe; replace hc := hc.below hbe; replace hbw := hbw.trans (hbe.mono hbw.size))
      | (go_at_call 47; refine (poolEvI_any _ _ _ _ _ _ f cs nm k x _ _ _ ha HOK.out hc HOC.out).mono ?_; rintro e w20 ⟨Aq, nq, dp, rfl, hq20, hnp, hbp⟩; have hsp := hbw.size; replace hbw := hbw.trans (hbp.mono hbw.size))
      | fail "no arm")
  clear HSA ha hc hba hbc hbe
  obtain rfl : nq = n8 := by rw [← hq20.1, ← HPW.out.1]
  have HB20 := Lib.hid (HB17.out.trans (hbw.mono HB17.out.size))
  have HBB20 := Lib.hid (HBB17.out.trans (hbw.mono HBB17.out.size)); clear hbw
  have hs20 := HBB20.out.size
  have H20 := Lib.hid hq20.hat; clear hq20
  go_wp2_with fail
  refine (eqCaseS_same _ _ _ _ _ (peL f cs nm k x) _ _ _ H20.out HOP.out ((H516.out.below HBB20.out (by omega)).up (by omega))).mono ?_
  rintro e w21 ⟨rfl, hb21⟩
  have HB21 := Lib.hid (HB20.out.trans (hb21.mono HB20.out.size))
  have HBB21 := Lib.hid (HBB20.out.trans (hb21.mono HBB20.out.size)); clear hb21
  have hs21 := HBB21.out.size
  go_wp2_with fail
  refine (heldDR_any _ _ _ 1 _ (peL f cs nm k x) _ (H16.out.below HBB21.out) (by omega) HLEN.out (by omega) (by omega)).mono ?_
  rintro e w22 ⟨rfl, hb22⟩
  rw [← HK7.out]
  have HB22 := Lib.hid (HB21.out.trans (hb22.mono HB21.out.size)); clear hb22
  go_wp2_with fail
  go_ret
  exact ⟨rfl, (HK.out _ HB22.out).2.2.2⟩
end Go.Proofs.Ythcpjkhijjkolaa

/- Arguments opened: an event. -/
namespace Go.Proofs.Ythcpjkhijjkolaa
open Go.ChangeShapes Go.WideShapes Go.ChangeAt Go.RowKit Go.Deep

set_option maxRecDepth 100000 in
theorem open_event {H : Type} {enc : TypeId × Value → H} {W : World} {base : Nat} {v : Value} {d : DataW H} {p : List MemPlace} {fuel : Nat} (hw : Value.okWide Try.prog W .any base 81 v)
    (h : DataW.trod enc Try.prog W 0 (fun _ => true) true fuel 81 (Value.cells v).toList = some (d, p)) :
    ∃ k x, v = .agg #[.int .i64 k, .string x] ∧ x.size ≤ maxLen := by
  obtain ⟨cs, rfl, hcs⟩ := okWide_struct Try.underlying81 hw
  have h2 : cs.size = 2 := hcs.trans (by kernel_rfl)
  obtain ⟨x, y, rfl⟩ : ∃ x y, cs = #[x, y] := by
    obtain ⟨l⟩ := cs
    match l, h2 with
    | [x, y], _ => exact ⟨x, y, rfl⟩
  obtain ⟨ys, n, hx, hf⟩ := open_struct_fields Try.underlying81 (by kernel_rfl) h
  obtain ⟨y0, _, t0⟩ := hf 0 _ x rfl rfl
  obtain ⟨y1, _, t1⟩ := hf 1 _ y rfl rfl
  obtain ⟨k, hv1, _⟩ := DataW.trod_int Try.underlying3 t0
  obtain ⟨s, hs1, _, hs3⟩ := DataW.trod_string Try.underlying9 t1
  have g0 : x = .int .i64 k := by simpa using hv1
  have g1 : y = .string s := by simpa using hs1
  subst g0; subst g1
  exact ⟨k, s, rfl, hs3⟩
end Go.Proofs.Ythcpjkhijjkolaa

/- FnExactPoolEvent returns true at every input, and leaves its arguments as they were. No condition. -/
namespace Go.Proofs.Ythcpjkhijjkolaa
open Go.ChangeShapes Go.WideShapes Go.ChangeAt Go.RowKit

set_option maxRecDepth 100000 in
theorem fnExactPoolEvent_lifted (os : Os) (started : os.Started) (H : Type) (enc : TypeId × Value → H) :
    ReturnsInHanded {} Try.checked os 13 .any (Rows.fnExactPoolEventSpec.pre6 enc Try.prog Try.f13 Rows.fnExactPoolEventRow.domain false) (Rows.fnExactPoolEventSpec.post enc Try.prog Try.f13 false true false false) := by
  refine returnsInHanded_of_change (C := Try.checked) Try.own started (by kernel_rfl) Try.func13
    (ChangeSpec.witness6 (enc := enc) (C := Try.checked) false ⟨#[], #[.agg #[.int .i64 0, .slice none 0 0], .slice none 0 0, .string ⟨#[]⟩, .agg #[.int .i64 0, .string ⟨#[]⟩]], []⟩ 8 (by kernel_rfl) (by kernel_rfl) (by kernel_rfl) (by kernel_rfl)) ?_
  intro W base args ds gs before hval0 hW hcnd _
  have hval : ∀ (j : Nat) t v, Try.f13.params[j]? = some t → args[j]? = some v → Value.okWide Try.prog W .any base t v := hval0
  have hW' := hW
  obtain ⟨p, q, hA0, hV, rfl, hfz, hnd⟩ := hW
  have hA : DataW.TrodAll enc Try.prog W 0 (fun _ => true) true Try.f13.params.toList args.toList ds p := hA0
  rw [Try.params13] at hA hval
  obtain ⟨v0, v1, v2, v3, d0, d1, d2, d3, p0, p1, p2, p3, rfl, rfl, rfl, h0, h1, h2, h3⟩ := trodAll_four hA
  obtain ⟨rfl, rfl⟩ := trodVars_none hV
  have h0k := h0
  have h1k := h1
  have h2k := h2
  have h3k := h3
  obtain ⟨B0, m0, dd0, rfl⟩ := okWide_slice Try.underlying57 (hval 1 57 v1 rfl rfl)
  obtain ⟨nm, rfl⟩ := okWide_string Try.underlying9 (hval 2 9 v2 rfl rfl)
  obtain ⟨fuel, hf⟩ := h0
  obtain ⟨fuel1, hf1⟩ := h1
  obtain ⟨fuel3, hf3⟩ := h3
  simp only [List.append_nil] at hW' hfz
  have hlt : ∀ x ∈ p0 ++ p1 ++ p2 ++ p3, x.block < W.heap.size := fun x hx => hW'.lt x hx
  obtain ⟨ver, A, n, c, ss, rfl, hr, hn, hs⟩ := open_flow (hval 0 24 v0 rfl rfl) hf (fun b off hb => hfz b off (List.mem_append_left _ (List.mem_append_left _ (List.mem_append_left _ hb))))
  obtain ⟨B, m, d, cs, hcase, hd, hm, hc⟩ := open_caseS hf1 (fun b off hb => hfz b off (List.mem_append_left _ (List.mem_append_left _ (List.mem_append_right _ hb))))
  obtain ⟨k, x, rfl, hx⟩ := open_event (hval 3 81 v3 rfl rfl) hf3
  clear hA0 hval0 hA
  rw [hcase]
  rw [hcase] at h1k hW'
  refine (fnExactPoolEvent_any A B n c m d ⟨ver, ss⟩ cs nm k x W hr hn hs hd hm hc hx).mono fun e W' ⟨he, hb⟩ => ?_
  subst he
  have k0 := Below.trod Try.laidOut (by kernel_rfl) (of_decide_eq_true (by kernel_rfl)) h0k hb (fun x hx => hlt x (List.mem_append_left _ (List.mem_append_left _ (List.mem_append_left _ hx))))
  have k1 := Below.trod Try.laidOut (by kernel_rfl) (of_decide_eq_true (by kernel_rfl)) h1k hb (fun x hx => hlt x (List.mem_append_left _ (List.mem_append_left _ (List.mem_append_right _ hx))))
  have k2 := Below.trod Try.laidOut (by kernel_rfl) (of_decide_eq_true (by kernel_rfl)) h2k hb (fun x hx => hlt x (List.mem_append_left _ (List.mem_append_right _ hx)))
  have k3 := Below.trod Try.laidOut (by kernel_rfl) (of_decide_eq_true (by kernel_rfl)) h3k hb (fun x hx => hlt x (List.mem_append_right _ hx))
  have hall := trodAll_mk4 k0 k1 k2 k3
  rw [← List.append_assoc, ← List.append_assoc] at hall
  exact ⟨_, rfl, post_law hW' rfl (by kernel_rfl) Try.underlying4 rfl rfl rfl hall hb⟩

theorem fnExactPoolEvent_holds : Rows.FnExactPoolEventSaid :=
  OpenClaim.holds_of_wide 13 Try.f13 rfl rfl rfl rfl rfl rfl rfl ⟨rfl, rfl, rfl, rfl, rfl⟩ rfl rfl rfl rfl rfl (by kernel_rfl) Try.func13 (by kernel_rfl)
    (of_decide_eq_true (by kernel_rfl)) (by unfold Func.isWrapper; rw [if_neg (by decide +kernel)]; exact ⟨rfl, rfl⟩)
    (fun os started H enc _ => fnExactPoolEvent_lifted os started H enc)
end Go.Proofs.Ythcpjkhijjkolaa
