/- FnExactReportSteps returns true at every input, and leaves its arguments as they were. No condition. -/
import Derived.Test.YthcpjkhijjkolaaZC
import Derived.Test.YthcpjkhijjkolaaZD
import Derived.Test.YthcpjkhijjkolaaZA
import Derived.Test.YthcpjkhijjkolaaZE

/- Marks on arguments: what they leave. -/
namespace Go.Proofs.Ythcpjkhijjkolaa
open Go.RowKit

/-- The same kind of value; slices are the same. -/
def kin : Value → Value → Prop
  | .string _, v => ∃ s, v = .string s
  | .bool _, v => ∃ b, v = .bool b
  | .int k _, v => ∃ i, v = .int k i
  | v, u => u = v
theorem kin_refl (v : Value) : kin v v := by
  cases v <;> simp [kin]
theorem kin_trans {a b c : Value} (h : kin a b) (k : kin b c) : kin a c := by
  cases a <;> simp only [kin] at h
  all_goals first
    | (obtain ⟨s, rfl⟩ := h; simp only [kin] at k ⊢; exact k)
    | (subst h; exact k)
/-- Each cell keeps its kind. -/
def KeepK (w w' : World) : Prop := ∀ b o v, Cl w b o v → ∃ u, Cl w' b o u ∧ kin v u
theorem KeepK.refl (w : World) : KeepK w w := fun _ _ v h => ⟨v, h, kin_refl v⟩
theorem KeepK.trans {w w1 w2 : World} (h : KeepK w w1) (k : KeepK w1 w2) : KeepK w w2 := fun b o v hv => by
  obtain ⟨u, h1, h2⟩ := h b o v hv
  obtain ⟨x, h3, h4⟩ := k b o u h1
  exact ⟨x, h3, kin_trans h2 h4⟩
theorem KeepK.of_below {w w' : World} (h : Below w.heap.size w w') : KeepK w w' := fun _ _ v hv =>
  ⟨v, hv.same (Same.of_below (lo := 0) h) (Nat.zero_le _) (World.block_lt_of_cell? w _ hv.1), kin_refl v⟩
theorem KeepK.set {w : World} {b o : Nat} {v u : Value} (h : Cl w b o v) (hk : kin v u) : KeepK w (w.setCell ⟨b, o, none⟩ u) := fun b' o' v' hv => by
  by_cases e : b' = b ∧ o' = o
  · obtain ⟨rfl, rfl⟩ := e
    have : v' = v := Option.some.inj (hv.1.symm.trans h.1)
    subst this
    exact ⟨u, h.set_same, hk⟩
  · refine ⟨v', hv.set_other ?_, kin_refl _⟩
    by_cases eb : b' = b
    · right; intro eo; exact e ⟨eb, eo⟩
    · exact .inl eb
theorem KeepK.set_ {w0 w : World} {b o : Nat} {v u : Value} (hw : KeepK w0 w) (h : Cl w b o v) (hk : kin v u) : KeepK w0 (w.setCell ⟨b, o, none⟩ u) := hw.trans (KeepK.set h hk)

theorem list_of {α : Type} [Inhabited α] {n : Nat} {P : Nat → α → Prop} (h : ∀ j, j < n → ∃ x, P j x) : ∃ ys : List α, ys.length = n ∧ ∀ j, j < n → P j (nth ys j) := by
  have each : ∀ j, ∃ x, j < n → P j x := fun j => by
    by_cases hj : j < n
    · obtain ⟨x, hx⟩ := h j hj
      exact ⟨x, fun _ => hx⟩
    · exact ⟨default, fun h => absurd h hj⟩
  refine ⟨(List.range n).map fun j => Classical.choose (each j), by simp, fun j hj => ?_⟩
  rw [nth_eq (by simpa using hj)]
  simp only [List.getElem_map, List.getElem_range]
  exact Classical.choose_spec (each j) hj

theorem RStr.kin_ {w w' : World} {lo hi n : Nat} {A : Option Addr} {xs : List Str} (h : RH strE w lo hi A n xs) (hk : KeepK w w') : ∃ ys, RH strE w' lo hi A n ys := by
  rcases Nat.eq_zero_or_pos n with rfl | hn
  · exact ⟨[], rfl, fun h => absurd h (by omega)⟩
  obtain ⟨b, off, e, h1, h2, hc⟩ := h.2 hn
  obtain ⟨ys, hl, hy⟩ := list_of (n := n) (P := fun j (s : Str) => Cl w' b (off + j * 1) (.string s)) (fun j hj => by
    obtain ⟨u, g1, g2⟩ := hk _ _ _ (hc j hj)
    obtain ⟨s, rfl⟩ := g2
    exact ⟨s, g1⟩)
  exact ⟨ys, hl, fun _ => ⟨b, off, e, h1, h2, hy⟩⟩
theorem RStep.kin_ {w w' : World} {lo hi n : Nat} {A : Option Addr} {ss : List Step} (h : RH stepE w lo hi A n ss) (hk : KeepK w w') : ∃ ts, RH stepE w' lo hi A n ts ∧ ∀ j, j < n → (nth ts j).after.length = (nth ss j).after.length := by
  rcases Nat.eq_zero_or_pos n with rfl | hn
  · exact ⟨[], ⟨rfl, fun h => absurd h (by omega)⟩, fun j hj => absurd hj (by omega)⟩
  obtain ⟨b, off, e, h1, h2, hc⟩ := h.2 hn
  obtain ⟨ts, hl, hy⟩ := list_of (n := n) (P := fun j (s : Step) => stepE.rep w' lo hi b (off + j * 3) s ∧ s.after.length = (nth ss j).after.length) (fun j hj => by
    obtain ⟨c1, ⟨A', n', c', c2, c3⟩, c4⟩ := hc j hj
    obtain ⟨u1, g1, k1⟩ := hk _ _ _ c1
    obtain ⟨s, rfl⟩ := k1
    obtain ⟨u2, g2, k2⟩ := hk _ _ _ c2
    simp only [kin] at k2
    subst k2
    obtain ⟨u3, g3, k3⟩ := hk _ _ _ c4
    obtain ⟨b3, rfl⟩ := k3
    obtain ⟨ys, hys⟩ := RStr.kin_ c3 hk
    exact ⟨⟨s, ys, b3⟩, ⟨g1, ⟨A', n', c', g2, hys⟩, g3⟩, by show ys.length = _; rw [hys.1, c3.1]⟩)
  exact ⟨ts, ⟨hl, fun _ => ⟨b, off, e, h1, h2, fun j hj => (hy j hj).1⟩⟩, fun j hj => (hy j hj).2⟩
theorem RCase.kin_ {w w' : World} {lo hi n : Nat} {A : Option Addr} {ss : List Case} (h : RH caseE w lo hi A n ss) (hk : KeepK w w') : ∃ ts, RH caseE w' lo hi A n ts ∧ ∀ j, j < n → (nth ts j).done.length = (nth ss j).done.length := by
  rcases Nat.eq_zero_or_pos n with rfl | hn
  · exact ⟨[], ⟨rfl, fun h => absurd h (by omega)⟩, fun j hj => absurd hj (by omega)⟩
  obtain ⟨b, off, e, h1, h2, hc⟩ := h.2 hn
  obtain ⟨ts, hl, hy⟩ := list_of (n := n) (P := fun j (s : Case) => caseE.rep w' lo hi b (off + j * 3) s ∧ s.done.length = (nth ss j).done.length) (fun j hj => by
    obtain ⟨c1, c4, ⟨A', n', c', c2, c3, c5⟩⟩ := hc j hj
    obtain ⟨u1, g1, k1⟩ := hk _ _ _ c1
    obtain ⟨s, rfl⟩ := k1
    obtain ⟨u2, g2, k2⟩ := hk _ _ _ c2
    simp only [kin] at k2
    subst k2
    obtain ⟨u3, g3, k3⟩ := hk _ _ _ c4
    obtain ⟨i3, rfl⟩ := k3
    obtain ⟨ys, hys⟩ := RStr.kin_ c3 hk
    exact ⟨⟨s, i3, ys⟩, ⟨g1, g3, ⟨A', n', c', g2, hys, c5⟩⟩, by show ys.length = _; rw [hys.1, c3.1]⟩)
  exact ⟨ts, ⟨hl, fun _ => ⟨b, off, e, h1, h2, fun j hj => (hy j hj).1⟩⟩, fun j hj => (hy j hj).2⟩

set_option maxRecDepth 100000 in
theorem markText2_any (k : Nat) (w : World) (h1 : 1 ≤ k) (h2 : k ≤ 2305843009213693952) :
    Calls Try.prog 88 #[.int .i64 (k : Int)] w fun e w' => e = .returned (.string (markS k)) ∧ Below w.heap.size w w' := by
  go_enter Try.func88, Try.ntmps88
  go_wp2_with fail
  go_loopw [0, 3] (fun j o wr => ∃ jn f : Nat, ∃ acc : List UInt8, jn ≤ f ∧ acc.length + jn ≤ 2305843009213693952 ∧ j = .int .i64 (jn : Int) ∧ o = .string ⟨acc.toArray⟩ ∧ decL f jn acc = decL k k [] ∧ Below w.heap.size w wr) (fun j _ _ => (intOf j).toNat)
  case atStart => exact ⟨k, k, [], Nat.le_refl _, by simpa using h2, rfl, rfl, rfl, Below.refl _ _⟩
  case round =>
    obtain ⟨jn, f, acc, hf, hj, rfl, rfl, hd, hb⟩ := hrel
    have HD := Lib.hid hd; clear hd
    have HB := Lib.hid hb; clear hb
    by_cases h0 : 0 < jn
    · have hcv := conv1 (wr.alloc (.cells #[.int .u8 (48 + (jn : Int) % 10)] 5)) wr.heap.size (48 + (jn : Int) % 10) (heap_new rfl)
      go_wp2_with fail
      go_roundw
      case rel =>
        obtain ⟨f', rfl⟩ : ∃ f', f = f' + 1 := ⟨f - 1, by omega⟩
        refine ⟨jn / 10, f', (48 + UInt8.ofNat (jn % 10)) :: acc, by omega, by simp; omega, by go_num, str_congr (bcat [_] acc), ?_, HB.out.alloc HB.out.size _⟩
        rw [← HD.out, decL, if_neg (by omega)]
      case measure => simp [intOf]; omega
    · have h0' : (jn : Int) < 1 := by omega
      go_wp2_with fail
      go_ret
      refine ⟨ret_s ?_, HB.out⟩
      have hz : jn = 0 := by omega
      have hd := HD.out
      subst hz
      unfold markS
      have e : decL f 0 acc = acc := by cases f <;> simp [decL]
      rw [← hd, e]
      exact bcat [109] acc

set_option maxRecDepth 100000 in
theorem markStr2_any (A : Option Addr) (n c k : Nat) (xs : List Str) (lo hi : Nat) (w : World) (hr : RH strE w lo hi A n xs) (hn : n ≤ 1048576) (h1 : 1 ≤ k) (h2 : k ≤ 1152921504606846976) (hhi : hi ≤ w.heap.size) :
    Calls Try.prog 43 #[.slice A n c, .int .i64 (k : Int)] w fun e w' => e = .returned (.int .i64 ((k + n : Nat) : Int)) ∧ KeepK w w' ∧ Out lo hi w w' := by
  have HR := Lib.hid hr; clear hr
  go_enter Try.func43, Try.ntmps43
  go_wp2_with fail
  go_loopw [1, 5] (fun q i wr => ∃ j m : Nat, j ≤ n ∧ i = .int .i64 (j : Int) ∧ q = .int .i64 (m : Int) ∧ m = k + j ∧ KeepK w wr ∧ Out lo hi w wr) (fun _ i _ => n - (intOf i).toNat)
  case atStart => exact ⟨0, k, Nat.zero_le _, rfl, rfl, rfl, KeepK.refl _, Out.refl⟩
  case round =>
    obtain ⟨j, m, hj, rfl, rfl, hm, hkk, hb⟩ := hrel
    have HM := Lib.hid hm
    have HK := Lib.hid hkk; clear hkk
    have HB := Lib.hid hb; clear hb
    have hm1 : 1 ≤ m := by omega
    have hm2 : m ≤ 2305843009213693952 := by omega
    have hm3 : (m : Int) ≤ 2305843009213693952 := by omega
    clear hm
    by_cases hlt : j < n
    · obtain ⟨ys, hys⟩ := RStr.kin_ HR.out HK.out
      obtain ⟨b, off, rfl, ⟨hb1, hb3⟩, hc⟩ := RStr.hat hys hlt
      have hwr : hi ≤ wr.heap.size := Nat.le_trans hhi HB.out.size
      have hb2 : b < wr.heap.size := by omega
      obtain ⟨c1, c2⟩ := hc j hlt
      clear hc hys
      go_wp2_with fail
      refine (markText2_any m _ hm1 hm2).mono ?_
      rintro e w1 ⟨rfl, hbw⟩
      have d1 := (hbw.cell (p := ⟨b, off + j, none⟩) hb2).trans c1
      have d2 := (hbw.frozen (p := ⟨b, off + j, none⟩) hb2).trans c2
      clear c1 c2
      have HBW := Lib.hid hbw; clear hbw
      have HK2 := Lib.hid ((HK.out.trans (KeepK.of_below HBW.out)).set_ (u := .string (markS m)) ⟨d1, d2⟩ ⟨_, rfl⟩)
      go_wp2_with fail
      go_roundw
      case rel => exact ⟨j + 1, m + 1, by omega, by go_num, by go_num, by rw [HM.out, Nat.add_assoc], HK2.out, (HB.out.trans (Out.of_below HBW.out)).set_ hb1 hb3 _ _⟩
      case measure => simp [intOf]; omega
    · go_wp2_with fail
      go_ret
      exact ⟨ret_i (by rw [HM.out, show j = n by omega]), HK.out, HB.out⟩

set_option maxRecDepth 100000 in
theorem markStepS_any (A : Option Addr) (n c k : Nat) (ss : List Step) (lo hi : Nat) (w : World) (hr : RH stepE w lo hi A n ss) (hok : okSteps ss) (h1 : 1 ≤ k) (h2 : k ≤ 549755813888) (hhi : hi ≤ w.heap.size) :
    Calls Try.prog 87 #[.slice A n c, .int .i64 (k : Int)] w fun e w' => (∃ k' : Nat, e = .returned (.int .i64 (k' : Int)) ∧ k ≤ k' ∧ k' ≤ k + n * 1048578) ∧ Out lo hi w w' := by
  have HL := Lib.hid hr.1
  have hn : n ≤ 1048576 := by have := hok.1; rw [hr.1] at this; exact this
  have hnn : n * 1048578 ≤ 1048576 * 1048578 := Nat.mul_le_mul_right _ hn
  have HR := Lib.hid hr; clear hr
  go_enter Try.func87, Try.ntmps87
  go_wp2_with fail
  go_loopw [1, 5] (fun q i wr => ∃ j m : Nat, j ≤ n ∧ i = .int .i64 (j : Int) ∧ q = .int .i64 (m : Int) ∧ k ≤ m ∧ m ≤ k + j * 1048578 ∧ KeepK w wr ∧ Out lo hi w wr) (fun _ i _ => n - (intOf i).toNat)
  case atStart => exact ⟨0, k, Nat.zero_le _, rfl, rfl, Nat.le_refl _, by omega, KeepK.refl _, Out.refl⟩
  case round =>
    obtain ⟨j, m, hj, rfl, rfl, hkm, hmk, hkk, hb⟩ := hrel
    have HK := Lib.hid hkk; clear hkk
    have HB := Lib.hid hb; clear hb
    have hjn : j * 1048578 ≤ n * 1048578 := Nat.mul_le_mul_right _ hj
    have hm1 : 1 ≤ m := by omega
    have hm2 : m ≤ 1649269538816 := by omega
    have hwr : hi ≤ wr.heap.size := Nat.le_trans hhi HB.out.size
    by_cases hlt : j < n
    · obtain ⟨ts, hts, hlen⟩ := RStep.kin_ HR.out HK.out
      have HTS := Lib.hid hts
      obtain ⟨b, off, rfl, ⟨hb1, hb3⟩, hc⟩ := RStep.hat hts hlt
      clear hc hts
      have hb2 : b < wr.heap.size := by omega
      have hal := hlen j hlt
      have hao := (hok.2 j (by rw [HL.out]; exact hlt)).2.1
      go_wp2_with fail
      refine (markText2_any m _ hm1 (by omega)).mono ?_
      rintro e w1 ⟨rfl, hbw⟩
      have HT1 := Lib.hid (HTS.out.below hbw hwr)
      have HB1 := Lib.hid (HB.out.trans (Out.of_below hbw))
      have HK1 := Lib.hid (HK.out.trans (KeepK.of_below hbw))
      have hs1 := hbw.size
      clear hbw
      obtain ⟨b', off', e', _, hc⟩ := RStep.hat HT1.out hlt
      injection e' with e'; injection e' with e1 e2
      subst e1; subst e2
      obtain ⟨A', n', c', ⟨d1, d2, d3⟩, ha, f1, f2, f3⟩ := hc j hlt
      clear hc
      have hn' : n' ≤ 1048576 := by rw [← ha.1, hal]; exact hao
      have HK2 := Lib.hid (KeepK.set (u := .string (markS m)) ⟨d1, f1⟩ ⟨_, rfl⟩)
      have HKK2 := Lib.hid (HK1.out.trans HK2.out)
      have HB2 := Lib.hid (HB1.out.set_ hb1 hb3 (off + j * 3) (.string (markS m)))
      obtain ⟨u2, ⟨g2, _⟩, k2⟩ := HK2.out _ _ _ ⟨d2, f2⟩
      simp only [kin] at k2
      subst k2
      obtain ⟨ys, hys⟩ := RStr.kin_ ha HK2.out
      have HYS := Lib.hid hys; clear hys
      obtain ⟨u3, ⟨g3, g3'⟩, k3⟩ := HK2.out _ _ _ ⟨d3, f3⟩
      obtain ⟨b3, rfl⟩ := k3
      clear ha
      go_wp2_with fail
      refine (markStr2_any A' n' c' (m + 1) ys lo hi _ HYS.out hn' (by omega) (by omega) (by simp; omega)).mono ?_
      rintro e w3 ⟨rfl, hk3, ho3⟩
      obtain ⟨u4, ⟨g4, g4'⟩, k4⟩ := hk3 _ _ _ ⟨g3, g3'⟩
      obtain ⟨b4, rfl⟩ := k4
      have HK3 := Lib.hid (HKK2.out.trans hk3)
      have HB3 := Lib.hid (HB2.out.trans ho3)
      clear hk3 ho3 d1 d2 d3 f1 f2 f3 g2 g3 g3'
      obtain ⟨m3, hm3⟩ : ∃ m3 : Nat, m3 = m + 1 + n' := ⟨_, rfl⟩
      rw [← hm3]
      have hm4 : m3 ≤ 2749269444608 := by omega
      have hm5 : m + 1 ≤ m3 := by omega
      have hm6 : m3 + 1 ≤ m + 1048578 := by omega
      clear hm3
      have HK4 := Lib.hid (fun x : Bool => HK3.out.set_ (u := .bool x) ⟨g4, g4'⟩ ⟨_, rfl⟩)
      go_wp2_with fail
      go_roundw
      case rel => exact ⟨j + 1, m3 + 1, by omega, by go_num, by go_num, by omega, by omega, HK4.out _, HB3.out.set_ hb1 hb3 _ _⟩
      case measure => simp [intOf]; omega
    · go_wp2_with fail
      have hmn : m ≤ k + n * 1048578 := Nat.le_trans hmk (Nat.add_le_add_left hjn _)
      go_ret
      exact ⟨⟨m, rfl, hkm, hmn⟩, HB.out⟩

set_option maxRecDepth 100000 in
theorem markFlow_any (A : Option Addr) (n c k : Nat) (f : Flow) (lo hi : Nat) (w : World) (hr : RH stepE w lo hi A n f.steps) (hok : okSteps f.steps) (h1 : 1 ≤ k) (h2 : k ≤ 549755813888) (hhi : hi ≤ w.heap.size) :
    Calls Try.prog 36 #[.agg #[.int .i64 f.ver, .slice A n c], .int .i64 (k : Int)] w fun e w' => (∃ k' : Nat, e = .returned (.int .i64 (k' : Int)) ∧ k ≤ k' ∧ k' ≤ k + n * 1048578) ∧ Out lo hi w w' := by
  have hb0 := (Below.refl w.heap.size w).alloc (Nat.le_refl _) (.cells #[.int .i64 f.ver, .slice A n c] 33)
  have HR := Lib.hid (hr.below hb0 hhi); clear hr
  have HB0 := Lib.hid hb0; clear hb0
  go_enter Try.func36, Try.ntmps36
  go_wp2_with fail
  refine (markStepS_any A n c k f.steps lo hi _ HR.out hok h1 h2 (by simp; omega)).mono ?_
  rintro e w1 ⟨⟨k', rfl, hk1, hk2⟩, ho⟩
  have HO := Lib.hid ((Out.of_below HB0.out).trans ho); clear ho
  go_wp2_with fail
  go_ret
  exact ⟨⟨k', rfl, hk1, hk2⟩, HO.out⟩

set_option maxRecDepth 100000 in
theorem markCaseS_any (A : Option Addr) (n c k : Nat) (ss : List Case) (lo hi : Nat) (w : World) (hr : RH caseE w lo hi A n ss) (hok : okCases ss) (h1 : 1 ≤ k) (h2 : k ≤ 1649269538816) (hhi : hi ≤ w.heap.size) :
    Calls Try.prog 37 #[.slice A n c, .int .i64 (k : Int)] w fun e w' => (∃ k' : Nat, e = .returned (.int .i64 (k' : Int)) ∧ k ≤ k') ∧ Out lo hi w w' := by
  have HL := Lib.hid hr.1
  have hn : n ≤ 1048576 := by have := hok.1; rw [hr.1] at this; exact this
  have hnn : n * 1048578 ≤ 1048576 * 1048578 := Nat.mul_le_mul_right _ hn
  have HR := Lib.hid hr; clear hr
  go_enter Try.func37, Try.ntmps37
  go_wp2_with fail
  go_loopw [1, 5] (fun q i wr => ∃ j m : Nat, j ≤ n ∧ i = .int .i64 (j : Int) ∧ q = .int .i64 (m : Int) ∧ k ≤ m ∧ m ≤ k + j * 1048578 ∧ KeepK w wr ∧ Out lo hi w wr) (fun _ i _ => n - (intOf i).toNat)
  case atStart => exact ⟨0, k, Nat.zero_le _, rfl, rfl, Nat.le_refl _, by omega, KeepK.refl _, Out.refl⟩
  case round =>
    obtain ⟨j, m, hj, rfl, rfl, hkm, hmk, hkk, hb⟩ := hrel
    have HK := Lib.hid hkk; clear hkk
    have HB := Lib.hid hb; clear hb
    have hjn : j * 1048578 ≤ n * 1048578 := Nat.mul_le_mul_right _ hj
    have hm1 : 1 ≤ m := by omega
    have hm2 : m ≤ 2749269444608 := by omega
    have hwr : hi ≤ wr.heap.size := Nat.le_trans hhi HB.out.size
    by_cases hlt : j < n
    · obtain ⟨ts, hts, hlen⟩ := RCase.kin_ HR.out HK.out
      have HTS := Lib.hid hts
      obtain ⟨b, off, e, hb1, hb3, hc⟩ := hts.2 (by omega)
      subst e
      clear hc hts
      have hb2 : b < wr.heap.size := by omega
      have hal := hlen j hlt
      have hao := (hok.2 j (by rw [HL.out]; exact hlt)).2
      go_wp2_with fail
      refine (markText2_any m _ hm1 (by omega)).mono ?_
      rintro e w1 ⟨rfl, hbw⟩
      have HT1 := Lib.hid (HTS.out.below hbw hwr)
      have HB1 := Lib.hid (HB.out.trans (Out.of_below hbw))
      have HK1 := Lib.hid (HK.out.trans (KeepK.of_below hbw))
      have hs1 := hbw.size
      clear hbw
      obtain ⟨b', off', e', _, _, hc⟩ := HT1.out.2 (by omega)
      injection e' with e'; injection e' with e1 e2
      subst e1; subst e2
      obtain ⟨⟨d1, f1⟩, ⟨d2, f2⟩, ⟨A', n', c', ⟨d3, f3⟩, ha, _⟩⟩ := hc j hlt
      clear hc
      have e3 : off + j * caseE.size = off + j * 3 := rfl
      rw [e3] at d1 f1 d2 f2 d3 f3
      clear e3
      have hn' : n' ≤ 1048576 := by rw [← ha.1, hal]; exact hao
      have HK2 := Lib.hid (KeepK.set (u := .string (markS m)) ⟨d1, f1⟩ ⟨_, rfl⟩)
      have HKK2 := Lib.hid (HK1.out.trans HK2.out)
      have HB2 := Lib.hid (HB1.out.set_ hb1 hb3 (off + j * 3) (.string (markS m)))
      obtain ⟨u2, ⟨g2, g2'⟩, k2⟩ := HK2.out _ _ _ ⟨d2, f2⟩
      obtain ⟨i2, rfl⟩ := k2
      have HK3 := Lib.hid (KeepK.set (u := .int .i64 ((m : Int) + 1)) ⟨g2, g2'⟩ ⟨_, rfl⟩)
      have HK23 := Lib.hid (HK2.out.trans HK3.out)
      have HKK3 := Lib.hid (HKK2.out.trans HK3.out)
      have HB3 := Lib.hid (HB2.out.set_ hb1 hb3 (off + j * 3 + 1) (.int .i64 ((m : Int) + 1)))
      obtain ⟨u3, ⟨g3, g3'⟩, k3⟩ := HK23.out _ _ _ ⟨d3, f3⟩
      simp only [kin] at k3
      subst k3
      obtain ⟨ys, hys⟩ := RStr.kin_ ha HK23.out
      have HYS := Lib.hid hys; clear hys
      clear ha
      go_wp2_with fail
      refine (markStr2_any A' n' c' (m + 2) ys lo hi _ HYS.out hn' (by omega) (by omega) (by simp; omega)).mono ?_
      rintro e w3 ⟨rfl, hk3, ho3⟩
      have HK4 := Lib.hid (HKK3.out.trans hk3)
      have HB4 := Lib.hid (HB3.out.trans ho3)
      clear hk3 ho3
      go_wp2_with fail
      go_roundw
      case rel => exact ⟨j + 1, m + 2 + n', by omega, by go_num, rfl, by omega, by omega, HK4.out, HB4.out⟩
      case measure => simp [intOf]; omega
    · go_wp2_with fail
      go_ret
      exact ⟨⟨m, rfl, hkm⟩, HB.out⟩

set_option maxRecDepth 100000 in
theorem heldIntS_any (A : Option Addr) (n c k : Nat) (lo : Nat) (w : World) (hr : RInt w lo A n (marksI k n)) (hn : n ≤ 1048576) (h2 : k ≤ 549755813888) :
    Calls Try.prog 39 #[.slice A n c, .int .i64 (k : Int)] w fun e w' => e = .returned (.int .i64 ((k + n : Nat) : Int)) ∧ Below w.heap.size w w' := by
  have HR := Lib.hid hr; clear hr
  go_enter Try.func39, Try.ntmps39
  go_wp2_with fail
  go_loopw [1, 5] (fun q i wr => ∃ j m : Nat, j ≤ n ∧ i = .int .i64 (j : Int) ∧ q = .int .i64 (m : Int) ∧ m = k + j ∧ Below w.heap.size w wr) (fun _ i _ => n - (intOf i).toNat)
  case atStart => exact ⟨0, k, Nat.zero_le _, rfl, rfl, rfl, Below.refl _ _⟩
  case round =>
    obtain ⟨j, m, hj, rfl, rfl, hm, hb⟩ := hrel
    have HM := Lib.hid hm
    have HB := Lib.hid hb; clear hb
    have hm3 : (m : Int) ≤ 1099511627776 := by omega
    clear hm
    by_cases hlt : j < n
    · obtain ⟨b, off, rfl, _, hc⟩ := RInt.at_ (HR.out.below HB.out) hlt
      obtain ⟨c1, c2⟩ := hc j hlt
      clear hc c2
      rw [marksI_at hlt, ← HM.out] at c1
      have hq : ((m : Int) != (m : Int)) = false := by simp
      go_wp2_with fail
      go_roundw
      case rel => exact ⟨j + 1, m + 1, by omega, by go_num, by go_num, by rw [HM.out, Nat.add_assoc], HB.out⟩
      case measure => simp [intOf]; omega
    · go_wp2_with fail
      go_ret
      exact ⟨ret_i (by rw [HM.out, show j = n by omega]), HB.out⟩
end Go.Proofs.Ythcpjkhijjkolaa

/- FnExactPoolValid: the walk. -/
namespace Go.Proofs.Ythcpjkhijjkolaa
open Go.RowKit

end Go.Proofs.Ythcpjkhijjkolaa

/- FnExactReportSteps: the walk. -/
namespace Go.Proofs.Ythcpjkhijjkolaa
open Go.RowKit

set_option maxRecDepth 100000 in
set_option maxHeartbeats 4000000 in
theorem fnExactReportSteps_any (A B : Option Addr) (n c m d : Nat) (f : Flow) (cs : List Case) (w : World) (hr : RStep w 0 A n f.steps) (hn : n ≤ maxLen) (hs : ∀ j, j < n → stepSz (nth f.steps j)) (hd : RCase w 0 B m cs) (hm : m ≤ maxLen) (hcs : ∀ j, j < m → caseSz (nth cs j)) :
    Calls Try.prog 9 #[.agg #[.int .i64 f.ver, .slice A n c], .slice B m d] w fun e w' => e = .returned (.bool true) ∧ Below w.heap.size w w' := by
  have HN := Lib.hid hn; clear hn
  have HS := Lib.hid hs; clear hs
  have HM := Lib.hid hm; clear hm
  have HCS := Lib.hid hcs; clear hcs
  have HX0 := Lib.hid (heap_new (w := w) (o := .cells #[.int .i64 f.ver, .slice A n c] 24) rfl)
  have HB0 := Lib.hid ((Below.refl w.heap.size w).alloc (Nat.le_refl _) (.cells #[.int .i64 f.ver, .slice A n c] 24))
  have HR0 := Lib.hid (hr.alloc (.cells #[.int .i64 f.ver, .slice A n c] 24)); clear hr
  have HD0 := Lib.hid (hd.alloc (.cells #[.int .i64 f.ver, .slice A n c] 24)); clear hd
  have HK : Hid (∀ w', Below (w.alloc (.cells #[.int .i64 f.ver, .slice A n c] 24)).heap.size (w.alloc (.cells #[.int .i64 f.ver, .slice A n c] 24)) w' → (w'.cell? ⟨w.heap.size, 0, none⟩ = some (.int .i64 f.ver) ∧ w'.cell? ⟨w.heap.size, 1, none⟩ = some (.slice A n c)) ∧ RStep w' 0 A n f.steps ∧ RCase w' 0 B m cs ∧ Below w.heap.size w w') := fun w' h => by
    have e1 := (h.block w.heap.size (by simp)).trans HX0.out
    exact ⟨⟨(blk_cl (k := 0) e1 rfl).1, (blk_cl (k := 1) e1 rfl).1⟩, HR0.out.below h, HD0.out.below h, HB0.out.trans (h.mono HB0.out.size)⟩
  go_enter Try.func9, Try.ntmps9
  go_wp2_with fail
  refine (szFlow_any _ _ _ f _ _ _ HR0.out HN.out HS.out (by omega) (by omega)).mono ?_
  rintro e w1 ⟨r, rfl, hr0, hr1, hb1⟩
  have HB1 := Lib.hid hb1; clear hb1
  by_cases hneg : r < 0
  · clear hr1
    go_wp2_with fail
    go_ret
    exact ⟨rfl, (HK.out _ HB1.out).2.2.2⟩
  obtain ⟨hle, hok⟩ := hr1 (by omega)
  have HOK := Lib.hid hok; clear hok
  go_wp2_with fail
  refine (szCaseS_any _ _ _ cs _ _ _ (HK.out _ HB1.out).2.2.1 HM.out HCS.out (by omega) (by omega)).mono ?_
  rintro e w2 ⟨r2, rfl, hr20, hr21, hb2⟩
  have HB2 := Lib.hid (HB1.out.trans (hb2.mono HB1.out.size)); clear hb2
  by_cases hneg2 : r2 < 0
  · clear hr21
    go_wp2_with fail
    go_ret
    exact ⟨rfl, (HK.out _ HB2.out).2.2.2⟩
  obtain ⟨_, hokc⟩ := hr21 (by omega)
  have HOC := Lib.hid hokc; clear hokc
  obtain ⟨⟨b0, b1⟩, _⟩ := HK.out _ HB2.out
  go_wp2_with fail
  refine (toFlow_any _ _ _ f _ _ (HK.out _ HB2.out).2.1 HOK.out).mono ?_
  rintro e w3 ⟨A3, c3, rfl, h3, hb3⟩
  have HF3 := Lib.hid h3; clear h3
  have HB3 := Lib.hid (HB2.out.trans (hb3.mono HB2.out.size)); clear hb3 b0 b1
  go_wp2_with fail
  refine (toCaseS_any _ _ _ cs _ _ (HK.out _ HB3.out).2.2.1 HOC.out).mono ?_
  rintro e w4 ⟨B4, d4, rfl, h4, hb4⟩
  have HC4 := Lib.hid h4; clear h4
  have HF4 := Lib.hid (HF3.out.below hb4)
  have HB4 := Lib.hid (HB3.out.trans (hb4.mono HB3.out.size)); clear hb4
  go_wp2_with fail
  refine (stepsS_any _ _ _ _ _ _ f cs _ _ _ HF4.out HOK.out HC4.out HOC.out).mono ?_
  rintro e w5 ⟨A5, n5, c5, rfl, h5, hb5⟩
  have hn5 : n5 ≤ 1048576 := by
    rw [← h5.1]
    unfold stpL
    split
    · rw [tallyL_len, namesOf_len]; exact HOK.out.1
    · exact Nat.zero_le _
  have H5 := Lib.hid h5.low; clear h5
  have HB5 := Lib.hid (HB4.out.trans (hb5.mono HB4.out.size)); clear hb5
  obtain ⟨⟨b0, b1⟩, _⟩ := HK.out _ HB5.out
  go_wp2_with fail
  refine (toFlow_any _ _ _ f _ _ (HK.out _ HB5.out).2.1 HOK.out).mono ?_
  rintro e w6 ⟨A6, c6, rfl, h6, hb6⟩
  have hs6 := hb6.size
  have hs6a : (w6.alloc (.cells #[.int .i64 f.ver, .slice A6 n c6] 33)).heap.size = w6.heap.size + 1 := by simp
  have HY6 := Lib.hid (heap_new (w := w6) (o := .cells #[.int .i64 f.ver, .slice A6 n c6] 33) rfl)
  have HA6 := Lib.hid ((Below.refl w6.heap.size w6).alloc (Nat.le_refl _) (.cells #[.int .i64 f.ver, .slice A6 n c6] 33))
  have H56 := Lib.hid (H5.out.below (hb6.alloc hb6.size (.cells #[.int .i64 f.ver, .slice A6 n c6] 33)) (Nat.le_refl _))
  have H6 := Lib.hid (h6.low.below HA6.out (Nat.le_refl _))
  have HF6 := Lib.hid (h6.alloc (.cells #[.int .i64 f.ver, .slice A6 n c6] 33)); clear h6
  have HB6a := HB5.out.trans (hb6.mono HB5.out.size)
  have HB6 := Lib.hid (HB6a.alloc HB6a.size (.cells #[.int .i64 f.ver, .slice A6 n c6] 33))
  clear hb6 b0 b1 HB6a
  go_wp2_with fail
  refine (toCaseS_any _ _ _ cs _ _ (HK.out _ HB6.out).2.2.1 HOC.out).mono ?_
  rintro e w7 ⟨B7, d7, rfl, h7, hb7⟩
  have hs7 := hb7.size
  have HY7 := Lib.hid ((hb7.block w6.heap.size (heap_lt HY6.out)).trans HY6.out)
  have H57 := Lib.hid (H56.out.below hb7 (by omega))
  have H67 := Lib.hid (H6.out.below hb7 (by omega))
  have H7 := Lib.hid h7.low
  have HC7 := Lib.hid h7; clear h7
  have HF7 := Lib.hid (HF6.out.below hb7)
  have HB7 := Lib.hid (HB6.out.trans (hb7.mono HB6.out.size))
  clear hb7
  have b0 := (blk_cl (k := 0) HY7.out rfl).1
  have b1 := (blk_cl (k := 1) HY7.out rfl).1
  go_wp2_with fail
  refine (stepsI_any _ _ _ _ _ _ f cs _ _ _ HF7.out HOK.out HC7.out HOC.out).mono ?_
  rintro e w8 ⟨A8, n8, c8, rfl, h8, hb8⟩
  obtain rfl : n8 = n5 := by rw [← h8.1, ← H5.out.1]
  have hs8 := hb8.size
  have HY8 := Lib.hid ((hb8.block w6.heap.size (heap_lt HY7.out)).trans HY7.out)
  have H58 := Lib.hid (H57.out.below hb8 (by omega))
  have H68 := Lib.hid (H67.out.below hb8 (by omega))
  have H78 := Lib.hid (H7.out.below hb8 (by omega))
  have HC8 := Lib.hid (HC7.out.below hb8)
  have HF8 := Lib.hid (HF7.out.below hb8)
  have H8 := Lib.hid h8.low
  have HB8 := Lib.hid (HB7.out.trans (hb8.mono HB7.out.size))
  clear hb8 b0 b1
  go_wp2_with fail
  refine (eqIntS_same _ _ _ _ _ (stpL f cs) _ _ _ h8 hn5 (H58.out.up (by omega))).mono ?_
  rintro e w9 ⟨rfl, q9, hq9⟩
  have hb9 : Below w8.heap.size w8 w9 := by rw [hq9]; exact below_drewN (Below.refl _ _) _
  clear hq9 h8
  have hs9 := hb9.size
  have HB9 := Lib.hid (HB8.out.trans (hb9.mono HB8.out.size))
  have HF9 := Lib.hid (HF8.out.below hb9)
  have HY9 := Lib.hid ((hb9.block w6.heap.size (heap_lt HY8.out)).trans HY8.out)
  have HBB9 := Lib.hid hb9; clear hb9
  have HSB : Hid (∀ w', Below w9.heap.size w9 w' → ((w'.cell? ⟨w.heap.size, 0, none⟩ = some (.int .i64 f.ver) ∧ w'.cell? ⟨w.heap.size, 1, none⟩ = some (.slice A n c)) ∧
      (w'.cell? ⟨w6.heap.size, 0, none⟩ = some (.int .i64 f.ver) ∧ w'.cell? ⟨w6.heap.size, 1, none⟩ = some (.slice A6 n c6))) ∧ Below w9.heap.size w9 w') := fun w' h => by
    have e2 := (h.block _ (heap_lt HY9.out)).trans HY9.out
    exact ⟨⟨(HK.out _ (HB9.out.trans (h.mono HB9.out.size))).1, (blk_cl (k := 0) e2 rfl).1, (blk_cl (k := 1) e2 rfl).1⟩, h⟩
  go_wp2_with fail
  go_region_held3 (fun w' => ((w'.cell? ⟨w.heap.size, 0, none⟩ = some (.int .i64 f.ver) ∧ w'.cell? ⟨w.heap.size, 1, none⟩ = some (.slice A n c)) ∧
      (w'.cell? ⟨w6.heap.size, 0, none⟩ = some (.int .i64 f.ver) ∧ w'.cell? ⟨w6.heap.size, 1, none⟩ = some (.slice A6 n c6))) ∧ Below w9.heap.size w9 w')
    (first | exact HSB.out _ hbw | exact HSB.out _ (Below.refl _ _).drew | fail "keep")
    (first
      | (go_at_call 17; refine (toFlow_any _ _ _ f _ _ ((HK.out _ HB9.out).2.1.below (Below.refl _ _).drew) HOK.out).mono ?_; rintro e w10 ⟨A10, c10, rfl, h10, hb10⟩; have hbw : Below w9.heap.size w9 w10 := (Below.refl w9.heap.size w9).drew.trans hb10)
      | (go_at_call 20; refine (eqFlow_same _ _ _ _ _ f _ _ _ (HF9.out.below hbw) HOK.out h10).mono ?_; rintro e w10 ⟨rfl, hb10⟩; replace hbw := hbw.trans (hb10.mono hbw.size))
      | fail "no arm")
  have HBW := Lib.hid hbw
  go_wp2_with fail
  refine (toCaseS_any _ _ _ cs _ _ (HK.out _ (HB9.out.trans (HBW.out.mono HB9.out.size))).2.2.1 HOC.out).mono ?_
  rintro e w11 ⟨B11, d11, rfl, h11, hb11⟩
  have HB11 := Lib.hid (HBB9.out.trans ((HBW.out.trans (hb11.mono HBW.out.size)).mono HBB9.out.size))
  have H11 := Lib.hid h11; clear h11
  clear hb11
  go_wp2_with fail
  refine (eqCaseS_same _ _ _ _ _ cs _ _ _ (HC8.out.below HB11.out) HOC.out H11.out).mono ?_
  rintro e w12 ⟨rfl, hb12⟩
  have H812 := Lib.hid (HB11.out.trans (hb12.mono HB11.out.size))
  clear hb12
  have hs12 := H812.out.size
  have HB12 := Lib.hid (HB8.out.trans (H812.out.mono HB8.out.size))
  have HY12 := Lib.hid ((H812.out.block w6.heap.size (heap_lt HY8.out)).trans HY8.out)
  have b0 := (blk_cl (k := 0) HY12.out rfl).1
  have b1 := (blk_cl (k := 1) HY12.out rfl).1
  clear hbw
  go_wp2_with fail
  refine (markFlow_any _ _ _ 1 f _ _ _ (H68.out.below H812.out (by omega)) HOK.out (by omega) (by omega) (by omega)).mono ?_
  rintro e w13 ⟨⟨k13, rfl, hk1, hk2⟩, ho13⟩
  have HO13 := Lib.hid ho13; clear ho13
  have hs13 := HO13.out.size
  have hn13 : n ≤ 1048576 := by have := HOK.out.1; rw [(HK.out _ HB12.out).2.1.1] at this; exact this
  have hk3 : k13 ≤ 1649269538816 := by
    have := Nat.mul_le_mul_right 1048578 hn13
    omega
  clear b0 b1 hk2
  go_wp2_with fail
  refine (markCaseS_any _ _ _ k13 cs _ _ _ ((H78.out.below H812.out (by omega)).out HO13.out (by omega) (.inr (by omega))) HOC.out hk1 hk3 (by omega)).mono ?_
  rintro e w14 ⟨⟨k14, rfl, hk4⟩, ho14⟩
  have HO14 := Lib.hid ho14; clear ho14
  have hs14 := HO14.out.size
  have hk5 : 1 ≤ k14 := by omega
  have H514 := Lib.hid (((H58.out.below H812.out (by omega)).out HO13.out (by omega) (.inl (by omega))).out HO14.out (by omega) (.inl (by omega)))
  have H814 := Lib.hid (((H8.out.below H812.out (by omega)).out HO13.out (by omega) (.inr (by omega))).out HO14.out (by omega) (.inr (by omega)))
  clear hk4 hk3 hk1
  have hz0 := HB0.out.size
  have hzz : (w.alloc (.cells #[.int .i64 f.ver, .slice A n c] 24)).heap.size = w.heap.size + 1 := by simp
  have hz5 := HB5.out.size
  have HB14 := Lib.hid ((HB12.out.trans ((HO13.out.below (by omega)).mono hz5)).trans ((HO14.out.below (by omega)).mono (by omega)))
  go_wp2_with fail
  refine (eqIntS_same _ _ _ _ _ (stpL f cs) _ _ _ (H814.out.up (by omega)) hn5 (H514.out.up (by omega))).mono ?_
  rintro e w15 ⟨rfl, q15, hq15⟩
  have hb15 : Below w14.heap.size w14 w15 := by rw [hq15]; exact below_drewN (Below.refl _ _) _
  clear hq15
  have HBB15 := Lib.hid hb15; clear hb15
  have hs15 := HBB15.out.size
  have H515 := Lib.hid (H514.out.below HBB15.out (by omega))
  have HB15 := Lib.hid (HB14.out.trans (HBB15.out.mono (by omega)))
  go_wp2_with fail
  refine (markIntS_any _ _ _ 1 (stpL f cs) _ _ _ (H814.out.below HBB15.out (by omega)) hn5 (by omega)).mono ?_
  rintro e w16 ⟨rfl, h16, ho16⟩
  have H16 := Lib.hid h16; clear h16
  have HO16 := Lib.hid ho16; clear ho16
  have hs16 := HO16.out.size
  have H516 := Lib.hid (H515.out.out HO16.out (by omega) (.inl (by omega)))
  have HB16 := Lib.hid (HB15.out.trans ((HO16.out.below (by omega)).mono (by omega)))
  obtain ⟨k7, hk7⟩ : ∃ k7 : Nat, k7 = 1 + n8 := ⟨_, rfl⟩
  rw [← hk7]
  have HK7 := Lib.hid hk7
  have hk8 : k7 ≤ 10000000 := by omega
  have hq : ((k7 : Int) != (k7 : Int)) = false := by simp
  clear hk7
  go_wp2_with fail
  refine (heldIntS_any _ _ _ 1 _ _ (H16.out.up (by omega)) hn5 (by omega)).mono ?_
  rintro e w17 ⟨rfl, hb17⟩
  rw [← HK7.out]
  have HB17 := Lib.hid (HB16.out.trans (hb17.mono HB16.out.size))
  have HBB17 := Lib.hid hb17; clear hb17
  have hs17 := HBB17.out.size
  obtain ⟨⟨b0, b1⟩, _⟩ := HK.out _ HB17.out
  go_wp2_with fail
  refine (toFlow_any _ _ _ f _ _ (HK.out _ HB17.out).2.1 HOK.out).mono ?_
  rintro e w18 ⟨A18, c18, rfl, h18, hb18⟩
  have H18 := Lib.hid h18; clear h18
  have HB18 := Lib.hid (HB17.out.trans (hb18.mono HB17.out.size))
  have HBB18 := Lib.hid (HBB17.out.trans (hb18.mono HBB17.out.size)); clear hb18 b0 b1
  go_wp2_with fail
  refine (toCaseS_any _ _ _ cs _ _ (HK.out _ HB18.out).2.2.1 HOC.out).mono ?_
  rintro e w19 ⟨B19, d19, rfl, h19, hb19⟩
  have H19 := Lib.hid h19; clear h19
  have H189 := Lib.hid (H18.out.below hb19)
  have HB19 := Lib.hid (HB18.out.trans (hb19.mono HB18.out.size))
  have HBB19 := Lib.hid (HBB18.out.trans (hb19.mono HBB18.out.size)); clear hb19
  go_wp2_with fail
  refine (stepsI_any _ _ _ _ _ _ f cs _ _ _ H189.out HOK.out H19.out HOC.out).mono ?_
  rintro e w20 ⟨A20, n20, c20, rfl, h20, hb20⟩
  obtain rfl : n20 = n8 := by rw [← h20.1, ← H5.out.1]
  have H20 := Lib.hid h20; clear h20
  have HB20 := Lib.hid (HB19.out.trans (hb20.mono HB19.out.size))
  have HBB20 := Lib.hid (HBB19.out.trans (hb20.mono HBB19.out.size)); clear hb20
  have hs20 := HBB20.out.size
  go_wp2_with fail
  refine (eqIntS_same _ _ _ _ _ (stpL f cs) _ _ _ H20.out hn5 ((H516.out.below HBB20.out (by omega)).up (by omega))).mono ?_
  rintro e w21 ⟨rfl, q21, hq21⟩
  have hb21 : Below w20.heap.size w20 w21 := by rw [hq21]; exact below_drewN (Below.refl _ _) _
  clear hq21
  have HB21 := Lib.hid (HB20.out.trans (hb21.mono HB20.out.size))
  have HBB21 := Lib.hid (HBB20.out.trans (hb21.mono HBB20.out.size)); clear hb21
  have hs21 := HBB21.out.size
  go_wp2_with fail
  refine (heldIntS_any _ _ _ 1 _ _ ((H16.out.below HBB21.out (by omega)).up (by omega)) hn5 (by omega)).mono ?_
  rintro e w22 ⟨rfl, hb22⟩
  rw [← HK7.out]
  have HB22 := Lib.hid (HB21.out.trans (hb22.mono HB21.out.size)); clear hb22
  go_wp2_with fail
  go_ret
  exact ⟨rfl, (HK.out _ HB22.out).2.2.2⟩
end Go.Proofs.Ythcpjkhijjkolaa

/- FnExactReportSteps returns true at every input, and leaves its arguments as they were. No condition. -/
namespace Go.Proofs.Ythcpjkhijjkolaa
open Go.ChangeShapes Go.WideShapes Go.ChangeAt Go.RowKit

set_option maxRecDepth 100000 in
theorem fnExactReportSteps_lifted (os : Os) (started : os.Started) (H : Type) (enc : TypeId × Value → H) :
    ReturnsInHanded {} Try.checked os 9 .any (Rows.fnExactReportStepsSpec.pre6 enc Try.prog Try.f9 Rows.fnExactReportStepsRow.domain false) (Rows.fnExactReportStepsSpec.post enc Try.prog Try.f9 false true false false) := by
  refine returnsInHanded_of_change (C := Try.checked) Try.own started (by kernel_rfl) Try.func9
    (ChangeSpec.witness6 (enc := enc) (C := Try.checked) false ⟨#[], #[.agg #[.int .i64 0, .slice none 0 0], .slice none 0 0], []⟩ 8 (by kernel_rfl) (by kernel_rfl) (by kernel_rfl) (by kernel_rfl)) ?_
  intro W base args ds gs before hval0 hW hcnd _
  have hval : ∀ (j : Nat) t v, Try.f9.params[j]? = some t → args[j]? = some v → Value.okWide Try.prog W .any base t v := hval0
  have hW' := hW
  obtain ⟨p, q, hA0, hV, rfl, hfz, hnd⟩ := hW
  have hA : DataW.TrodAll enc Try.prog W 0 (fun _ => true) true Try.f9.params.toList args.toList ds p := hA0
  rw [Try.params9] at hA hval
  obtain ⟨v0, v1, d0, d1, p0, p1, rfl, rfl, rfl, h0, h1⟩ := trodAll_two hA
  obtain ⟨rfl, rfl⟩ := trodVars_none hV
  have h0k := h0
  have h1k := h1
  obtain ⟨B0, m0, dd0, rfl⟩ := okWide_slice Try.underlying57 (hval 1 57 v1 rfl rfl)
  obtain ⟨fuel, hf⟩ := h0
  obtain ⟨fuel1, hf1⟩ := h1
  simp only [List.append_nil] at hW' hfz
  have hlt : ∀ x ∈ p0 ++ p1, x.block < W.heap.size := fun x hx => hW'.lt x hx
  obtain ⟨ver, A, n, c, ss, rfl, hr, hn, hs⟩ := open_flow (hval 0 24 v0 rfl rfl) hf (fun b off hb => hfz b off (List.mem_append_left _ hb))
  obtain ⟨B, m, d, cs, hcase, hd, hm, hc⟩ := open_caseS hf1 (fun b off hb => hfz b off (List.mem_append_right _ hb))
  clear hA0 hval0 hA
  rw [hcase]
  rw [hcase] at h1k hW'
  refine (fnExactReportSteps_any A B n c m d ⟨ver, ss⟩ cs W hr hn hs hd hm hc).mono fun e W' ⟨he, hb⟩ => ?_
  subst he
  exact ⟨_, rfl, post_law hW' rfl (by kernel_rfl) Try.underlying4 rfl rfl rfl (trodAll_mk2 (Below.trod Try.laidOut (by kernel_rfl) (of_decide_eq_true (by kernel_rfl)) h0k hb (fun x hx => hlt x (List.mem_append_left _ hx))) (Below.trod Try.laidOut (by kernel_rfl) (of_decide_eq_true (by kernel_rfl)) h1k hb (fun x hx => hlt x (List.mem_append_right _ hx)))) hb⟩

theorem fnExactReportSteps_holds : Rows.FnExactReportStepsSaid :=
  OpenClaim.holds_of_wide 9 Try.f9 rfl rfl rfl rfl rfl rfl rfl ⟨rfl, rfl, rfl, rfl, rfl⟩ rfl rfl rfl rfl rfl (by kernel_rfl) Try.func9 (by kernel_rfl)
    (of_decide_eq_true (by kernel_rfl)) (by unfold Func.isWrapper; rw [if_neg (by decide +kernel)]; exact ⟨rfl, rfl⟩)
    (fun os started H enc _ => fnExactReportSteps_lifted os started H enc)
end Go.Proofs.Ythcpjkhijjkolaa
