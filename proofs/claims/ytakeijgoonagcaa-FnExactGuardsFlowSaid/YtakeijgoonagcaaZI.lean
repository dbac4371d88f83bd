/- Contracts of functions and plain lemmas, joined. No condition but those that each states. -/
import Derived.Deep.RegionHeld3
import Derived.Test.YtakeijgoonagcaaZG
import Derived.Test.YtakeijgoonagcaaZF
import Derived.Test.YtakeijgoonagcaaZC
import Derived.Test.YtakeijgoonagcaaZD
import Derived.Test.YtakeijgoonagcaaZA
import Derived.Test.YtakeijgoonagcaaZH

/- Rows of cases whose lists lie apart, beside a row of names. -/
namespace Go.Proofs.Ytakeijgoonagcaa
open Go.RowKit

/-- Cases of the call's own, all of them outside one block. -/
def DX (w : World) (lo : Nat) (A : Option Addr) (n : Nat) (ss : List Case) (av : Option Nat) : Prop :=
  ss.length = n ∧ (0 < n → ∃ b off β γ, A = some ⟨b, off, none⟩ ∧ lo ≤ b ∧ (∀ j, j < n → lo ≤ β j ∨ γ j ≤ β j) ∧ DC w b off n (nth ss) β γ ∧ (∀ q, av = some q → ∀ j, j < n → q < β j ∨ γ j ≤ q) ∧ ∃ cur, w.heap[b]? = some (.cells cur 52 (0, 0)))
theorem DX.dr {w : World} {lo n : Nat} {A : Option Addr} {ss : List Case} {av : Option Nat} (h : DX w lo A n ss av) : DR w lo A n ss :=
  ⟨h.1, fun hn => by
    obtain ⟨b, off, β, γ, e, h1, h2, h3, _⟩ := h.2 hn
    exact ⟨b, off, β, γ, e, h1, h2, h3⟩⟩
theorem DX.nil {w : World} {lo : Nat} {A : Option Addr} {av : Option Nat} : DX w lo A 0 [] av := ⟨rfl, fun h => absurd h (by omega)⟩
theorem DX.below {w w' : World} {lo n : Nat} {A : Option Addr} {ss : List Case} {av : Option Nat} (h : DX w lo A n ss av) (hb : Below w.heap.size w w') : DX w' lo A n ss av :=
  ⟨h.1, fun hn => by
    obtain ⟨b, off, β, γ, e, h1, h2, h3, h4, cur, h5⟩ := h.2 hn
    exact ⟨b, off, β, γ, e, h1, h2, h3.below hb, h4, cur, (hb.block _ h3.lt).trans h5⟩⟩
theorem DX.lower {w : World} {lo lo' n : Nat} {A : Option Addr} {ss : List Case} {av : Option Nat} (h : DX w lo A n ss av) (hl : lo' ≤ lo) : DX w lo' A n ss av :=
  ⟨h.1, fun hn => by
    obtain ⟨b, off, β, γ, e, h1, h2, h3⟩ := h.2 hn
    exact ⟨b, off, β, γ, e, by omega, fun j hj => by rcases h2 j hj with h | h; exact .inl (by omega); exact .inr h, h3⟩⟩
theorem DX.out {w w' : World} {lo lo1 hi1 n : Nat} {A : Option Addr} {ss : List Case} {av : Option Nat} (h : DX w lo A n ss av) (ho : Out lo1 hi1 w w') (hd : hi1 ≤ lo) : DX w' lo A n ss av :=
  ⟨h.1, fun hn => by
    obtain ⟨b, off, β, γ, e, h1, h2, h3, h4, cur, h5⟩ := h.2 hn
    refine ⟨b, off, β, γ, e, h1, h2, h3.kept ho.size (ho.block b h3.lt (.inr (by omega))) (fun j hj i g1 g2 => ho.block i (Nat.lt_of_lt_of_le g2 (h3.hi j hj)) (.inr ?_)), h4, cur, (ho.block b h3.lt (.inr (by omega))).trans h5⟩
    rcases h2 j hj with g | g <;> omega⟩

theorem KRowD.drx {w : World} {base n lo1 hi : Nat} {av : Option Nat} {v : Value} {ss : List Case} (h : KRowD w base av lo1 hi v n ss) : ∃ A c, v = .slice A n c ∧ DX w base A n ss av ∧ n ≤ c := by
  have hl := h.row.len
  obtain ⟨A9, c9, hv9, _⟩ := h.row.hat
  have hcap : n ≤ c9 := by subst hv9; exact h.row.cap3
  obtain ⟨ps, rfl, h1, h2, hpw⟩ := h
  obtain ⟨A, c, hv, hf⟩ := own_form h1
  have hcc : c9 = c := by rw [hv9] at hv; injection hv
  refine ⟨A, c, hv, ⟨hl, fun hn => ?_⟩, by omega⟩
  obtain ⟨b, e1, b1, b2, hc⟩ := hf hn
  rw [List.length_map] at hl
  have h3 : ∀ k, k < n → ∀ i u, i < 3 → (ccells (nth ps k))[i]? = some u → Cl w b (0 + k * 3 + i) u := fun k hk i u hi hu => by
    have e2 := flat_at (α := Case × Value) (f := ccells) ccells_len ps k i (by omega) hi
    have := hc (k * 3 + i) u (by rw [e2]; exact hu)
    rwa [Nat.zero_add]
  have each : ∀ k, ∃ β γ : Nat, k < n → ∃ A m c, (nth ps k).2 = .slice A m c ∧ RH strE w β γ A m (nth ps k).1.done ∧ m ≤ c ∧ γ ≤ w.heap.size ∧ (γ = β ∨ (γ = β + 1 ∧ base ≤ β ∧ 0 < m ∧ A = some ⟨β, 0, none⟩ ∧ ∃ cs, w.heap[β]? = some (.cells cs 9 (0, 0)))) ∧ (γ = β → β = 0) ∧ (∀ q, av = some q → q < β ∨ γ ≤ q) := by
    intro k
    by_cases hk : k < n
    · obtain ⟨A', m, c', e2, h4, h5, hav⟩ := h2 (nth ps k) (mem_nth (by omega))
      rcases Nat.eq_zero_or_pos m with h0 | h0
      · subst h0
        exact ⟨0, 0, fun _ => ⟨A', 0, c', e2, ⟨h4.1, fun h => absurd h (by omega)⟩, h5, Nat.zero_le _, .inl rfl, fun _ => rfl, fun q _ => .inr (Nat.zero_le _)⟩⟩
      · obtain ⟨b', cs, e3, h6, h7, h8⟩ := h4.2 h0
        refine ⟨b', b' + 1, fun _ => ⟨A', m, c', e2, ⟨h4.1, fun _ => ?_⟩, h5, heap_lt h7, .inr ⟨rfl, h6, h0, e3, cs, h7⟩, (fun h => absurd h (by omega)), fun q hq => by
          have h9 := (hav b' e3 h0).1
          have : q ≠ b' := fun e => h9 (by rw [hq, e])
          omega⟩⟩
        refine ⟨b', 0, e3, Nat.le_refl _, by omega, fun j hj => ?_⟩
        have := blk_cl h7 (h8 j hj)
        simpa [strE] using this
    · exact ⟨0, 0, fun h => absurd h hk⟩
  obtain ⟨β, γ, hβ⟩ : ∃ β γ : Nat → Nat, ∀ k, k < n → ∃ A m c, (nth ps k).2 = .slice A m c ∧ RH strE w (β k) (γ k) A m (nth ps k).1.done ∧ m ≤ c ∧ γ k ≤ w.heap.size ∧ (γ k = β k ∨ (γ k = β k + 1 ∧ base ≤ β k ∧ 0 < m ∧ A = some ⟨β k, 0, none⟩ ∧ ∃ cs, w.heap[β k]? = some (.cells cs 9 (0, 0)))) ∧ (γ k = β k → β k = 0) ∧ (∀ q, av = some q → q < β k ∨ γ k ≤ q) :=
    ⟨fun k => Classical.choose (each k), fun k => Classical.choose (Classical.choose_spec (each k)), fun k => Classical.choose_spec (Classical.choose_spec (each k))⟩
  have e3 : ∀ k, k < n → nth (ps.map (·.1)) k = (nth ps k).1 := fun k hk => by rw [nth_eq (by rw [List.length_map]; omega), nth_eq (by omega)]; simp
  have hbt : ∃ cur, w.heap[b]? = some (.cells cur 52 (0, 0)) := row_blk h1 (by rw [hv, e1]; simp [Value.ownBlock])
  obtain ⟨cur, hcur⟩ := hbt
  refine ⟨b, 0, β, γ, e1, b1, fun j hj => ?_, ⟨b2, fun j hj => ?_, fun j hj => ?_, fun j hj => ?_, fun i j hi hj hij => ?_⟩, ?_, ?_⟩
  · obtain ⟨_, _, _, _, _, _, _, h6, _⟩ := hβ j hj
    rcases h6 with h6 | ⟨_, h7, _⟩
    · exact .inr (by omega)
    · exact .inl h7
  · obtain ⟨_, _, _, _, _, _, h6, _⟩ := hβ j hj
    exact h6
  · obtain ⟨A', m, c', e2, h4, h5, _⟩ := hβ j hj
    rw [e3 j hj]
    refine ⟨A', m, c', h3 j hj 0 _ (by omega) rfl, h3 j hj 1 _ (by omega) rfl, ?_, h4, h5⟩
    have := h3 j hj 2 _ (by omega) rfl
    rwa [e2] at this
  · obtain ⟨_, _, _, _, _, _, _, h6, h8, _⟩ := hβ j hj
    rcases h6 with h6 | ⟨h6, _, _, _, cs, h7⟩
    · have := h8 h6; right; omega
    · have hne : b ≠ β j := fun e => by
        rw [← e, hcur] at h7
        have := Option.some.inj h7
        injection this with _ e4
        exact absurd e4 (by decide)
      omega
  · obtain ⟨Ai, mi, ci, ei, _, _, _, h6, h8, _⟩ := hβ i hi
    obtain ⟨Aj, mj, cj, ej, _, _, _, g6, g8, _⟩ := hβ j hj
    rcases h6 with h6 | ⟨h6, _, hm1, ha1, _⟩
    · have := h8 h6; left; omega
    · rcases g6 with g6 | ⟨g6, _, gm1, ga1, _⟩
      · have := g8 g6; right; omega
      · have hne : β i ≠ β j := fun e => by
          have hp := List.pairwise_iff_getElem.1 hpw
          rcases Nat.lt_or_ge i j with hl' | hl'
          · have := hp i j (by omega) (by omega) hl' (β i) Ai mi ci Aj mj cj (by rw [← nth_eq]; exact ei) (by rw [← nth_eq]; exact ej) hm1 gm1 ha1
            rw [e] at this
            exact this ga1
          · have := hp j i (by omega) (by omega) (by omega) (β j) Aj mj cj Ai mi ci (by rw [← nth_eq]; exact ej) (by rw [← nth_eq]; exact ei) gm1 hm1 ga1
            rw [← e] at this
            exact this ha1
        omega
  · intro q hq j hj
    obtain ⟨_, _, _, _, _, _, _, _, _, h9⟩ := hβ j hj
    exact h9 q hq
  · exact ⟨_, hcur⟩
end Go.Proofs.Ytakeijgoonagcaa

/- Pools: clearing, the program's side, each list apart. -/
namespace Go.Proofs.Ytakeijgoonagcaa
open Go.RowKit

structure SplD (w wr : World) (k : Nat) (v1 v2 : Value) (n1 n2 : Nat) (cs : List Case) : Prop where
  row : KRowD wr w.heap.size v2.ownBlock w.heap.size wr.heap.size v1 n1 (stayL (cs.take k))
  nms : wr.ownsRow w.heap.size 9 1 v2 n2 ((goneL (cs.take k)).map Value.string)
  below : Below w.heap.size w wr

end Go.Proofs.Ytakeijgoonagcaa

/- Marks on arguments: what they leave. -/
namespace Go.Proofs.Ytakeijgoonagcaa
open Go.RowKit

/-- The same kind of value; slices are the same. -/
def kin : Value → Value → Prop
  | .string _, v => ∃ s, v = .string s
  | .bool _, v => ∃ b, v = .bool b
  | .int k _, v => ∃ i, v = .int k i
  | v, u => u = v
theorem kin_refl (v : Value) : kin v v := by
  cases v <;> simp [kin]
theorem kin_trans {a b c : Value} (h : kin a b) (k : kin b c) : kin a c := by
  cases a <;> simp only [kin] at h
  all_goals first
    | (obtain ⟨s, rfl⟩ := h; simp only [kin] at k ⊢; exact k)
    | (subst h; exact k)
/-- Each cell keeps its kind. -/
def KeepK (w w' : World) : Prop := ∀ b o v, Cl w b o v → ∃ u, Cl w' b o u ∧ kin v u
theorem KeepK.refl (w : World) : KeepK w w := fun _ _ v h => ⟨v, h, kin_refl v⟩
theorem KeepK.trans {w w1 w2 : World} (h : KeepK w w1) (k : KeepK w1 w2) : KeepK w w2 := fun b o v hv => by
  obtain ⟨u, h1, h2⟩ := h b o v hv
  obtain ⟨x, h3, h4⟩ := k b o u h1
  exact ⟨x, h3, kin_trans h2 h4⟩
theorem KeepK.of_below {w w' : World} (h : Below w.heap.size w w') : KeepK w w' := fun _ _ v hv =>
  ⟨v, hv.same (Same.of_below (lo := 0) h) (Nat.zero_le _) (World.block_lt_of_cell? w _ hv.1), kin_refl v⟩
theorem KeepK.set {w : World} {b o : Nat} {v u : Value} (h : Cl w b o v) (hk : kin v u) : KeepK w (w.setCell ⟨b, o, none⟩ u) := fun b' o' v' hv => by
  by_cases e : b' = b ∧ o' = o
  · obtain ⟨rfl, rfl⟩ := e
    have : v' = v := Option.some.inj (hv.1.symm.trans h.1)
    subst this
    exact ⟨u, h.set_same, hk⟩
  · refine ⟨v', hv.set_other ?_, kin_refl _⟩
    by_cases eb : b' = b
    · right; intro eo; exact e ⟨eb, eo⟩
    · exact .inl eb
theorem KeepK.set_ {w0 w : World} {b o : Nat} {v u : Value} (hw : KeepK w0 w) (h : Cl w b o v) (hk : kin v u) : KeepK w0 (w.setCell ⟨b, o, none⟩ u) := hw.trans (KeepK.set h hk)

theorem list_of {α : Type} [Inhabited α] {n : Nat} {P : Nat → α → Prop} (h : ∀ j, j < n → ∃ x, P j x) : ∃ ys : List α, ys.length = n ∧ ∀ j, j < n → P j (nth ys j) := by
  have each : ∀ j, ∃ x, j < n → P j x := fun j => by
    by_cases hj : j < n
    · obtain ⟨x, hx⟩ := h j hj
      exact ⟨x, fun _ => hx⟩
    · exact ⟨default, fun h => absurd h hj⟩
  refine ⟨(List.range n).map fun j => Classical.choose (each j), by simp, fun j hj => ?_⟩
  rw [nth_eq (by simpa using hj)]
  simp only [List.getElem_map, List.getElem_range]
  exact Classical.choose_spec (each j) hj

theorem RStr.kin_ {w w' : World} {lo hi n : Nat} {A : Option Addr} {xs : List Str} (h : RH strE w lo hi A n xs) (hk : KeepK w w') : ∃ ys, RH strE w' lo hi A n ys := by
  rcases Nat.eq_zero_or_pos n with rfl | hn
  · exact ⟨[], rfl, fun h => absurd h (by omega)⟩
  obtain ⟨b, off, e, h1, h2, hc⟩ := h.2 hn
  obtain ⟨ys, hl, hy⟩ := list_of (n := n) (P := fun j (s : Str) => Cl w' b (off + j * 1) (.string s)) (fun j hj => by
    obtain ⟨u, g1, g2⟩ := hk _ _ _ (hc j hj)
    obtain ⟨s, rfl⟩ := g2
    exact ⟨s, g1⟩)
  exact ⟨ys, hl, fun _ => ⟨b, off, e, h1, h2, hy⟩⟩
theorem RStep.kin_ {w w' : World} {lo hi n : Nat} {A : Option Addr} {ss : List Step} (h : RH stepE w lo hi A n ss) (hk : KeepK w w') : ∃ ts, RH stepE w' lo hi A n ts ∧ ∀ j, j < n → (nth ts j).after.length = (nth ss j).after.length := by
  rcases Nat.eq_zero_or_pos n with rfl | hn
  · exact ⟨[], ⟨rfl, fun h => absurd h (by omega)⟩, fun j hj => absurd hj (by omega)⟩
  obtain ⟨b, off, e, h1, h2, hc⟩ := h.2 hn
  obtain ⟨ts, hl, hy⟩ := list_of (n := n) (P := fun j (s : Step) => stepE.rep w' lo hi b (off + j * 3) s ∧ s.after.length = (nth ss j).after.length) (fun j hj => by
    obtain ⟨c1, ⟨A', n', c', c2, c3⟩, c4⟩ := hc j hj
    obtain ⟨u1, g1, k1⟩ := hk _ _ _ c1
    obtain ⟨s, rfl⟩ := k1
    obtain ⟨u2, g2, k2⟩ := hk _ _ _ c2
    simp only [kin] at k2
    subst k2
    obtain ⟨u3, g3, k3⟩ := hk _ _ _ c4
    obtain ⟨b3, rfl⟩ := k3
    obtain ⟨ys, hys⟩ := RStr.kin_ c3 hk
    exact ⟨⟨s, ys, b3⟩, ⟨g1, ⟨A', n', c', g2, hys⟩, g3⟩, by show ys.length = _; rw [hys.1, c3.1]⟩)
  exact ⟨ts, ⟨hl, fun _ => ⟨b, off, e, h1, h2, fun j hj => (hy j hj).1⟩⟩, fun j hj => (hy j hj).2⟩
theorem RCase.kin_ {w w' : World} {lo hi n : Nat} {A : Option Addr} {ss : List Case} (h : RH caseE w lo hi A n ss) (hk : KeepK w w') : ∃ ts, RH caseE w' lo hi A n ts ∧ ∀ j, j < n → (nth ts j).done.length = (nth ss j).done.length := by
  rcases Nat.eq_zero_or_pos n with rfl | hn
  · exact ⟨[], ⟨rfl, fun h => absurd h (by omega)⟩, fun j hj => absurd hj (by omega)⟩
  obtain ⟨b, off, e, h1, h2, hc⟩ := h.2 hn
  obtain ⟨ts, hl, hy⟩ := list_of (n := n) (P := fun j (s : Case) => caseE.rep w' lo hi b (off + j * 3) s ∧ s.done.length = (nth ss j).done.length) (fun j hj => by
    obtain ⟨c1, c4, ⟨A', n', c', c2, c3, c5⟩⟩ := hc j hj
    obtain ⟨u1, g1, k1⟩ := hk _ _ _ c1
    obtain ⟨s, rfl⟩ := k1
    obtain ⟨u2, g2, k2⟩ := hk _ _ _ c2
    simp only [kin] at k2
    subst k2
    obtain ⟨u3, g3, k3⟩ := hk _ _ _ c4
    obtain ⟨i3, rfl⟩ := k3
    obtain ⟨ys, hys⟩ := RStr.kin_ c3 hk
    exact ⟨⟨s, i3, ys⟩, ⟨g1, g3, ⟨A', n', c', g2, hys, c5⟩⟩, by show ys.length = _; rw [hys.1, c3.1]⟩)
  exact ⟨ts, ⟨hl, fun _ => ⟨b, off, e, h1, h2, fun j hj => (hy j hj).1⟩⟩, fun j hj => (hy j hj).2⟩

set_option maxRecDepth 100000 in
theorem markText2_any (k : Nat) (w : World) (h1 : 1 ≤ k) (h2 : k ≤ 2305843009213693952) :
    Calls Try.prog 69 #[.int .i64 (k : Int)] w fun e w' => e = .returned (.string (markS k)) ∧ Below w.heap.size w w' := by
  go_enter Try.func69, Try.ntmps69
  go_wp2_with fail
  go_loopw [0, 3] (fun j o wr => ∃ jn f : Nat, ∃ acc : List UInt8, jn ≤ f ∧ acc.length + jn ≤ 2305843009213693952 ∧ j = .int .i64 (jn : Int) ∧ o = .string ⟨acc.toArray⟩ ∧ decL f jn acc = decL k k [] ∧ Below w.heap.size w wr) (fun j _ _ => (intOf j).toNat)
  case atStart => exact ⟨k, k, [], Nat.le_refl _, by simpa using h2, rfl, rfl, rfl, Below.refl _ _⟩
  case round =>
    obtain ⟨jn, f, acc, hf, hj, rfl, rfl, hd, hb⟩ := hrel
    have HD := Lib.hid hd; clear hd
    have HB := Lib.hid hb; clear hb
    by_cases h0 : 0 < jn
    · have hcv := conv1 (wr.alloc (.cells #[.int .u8 (48 + (jn : Int) % 10)] 5)) wr.heap.size (48 + (jn : Int) % 10) (heap_new rfl)
      go_wp2_with fail
      go_roundw
      case rel =>
        obtain ⟨f', rfl⟩ : ∃ f', f = f' + 1 := ⟨f - 1, by omega⟩
        refine ⟨jn / 10, f', (48 + UInt8.ofNat (jn % 10)) :: acc, by omega, by simp; omega, by go_num, str_congr (bcat [_] acc), ?_, HB.out.alloc HB.out.size _⟩
        rw [← HD.out, decL, if_neg (by omega)]
      case measure => simp [intOf]; omega
    · have h0' : (jn : Int) < 1 := by omega
      go_wp2_with fail
      go_ret
      refine ⟨ret_s ?_, HB.out⟩
      have hz : jn = 0 := by omega
      have hd := HD.out
      subst hz
      unfold markS
      have e : decL f 0 acc = acc := by cases f <;> simp [decL]
      rw [← hd, e]
      exact bcat [109] acc

set_option maxRecDepth 100000 in
theorem markStr2_any (A : Option Addr) (n c k : Nat) (xs : List Str) (lo hi : Nat) (w : World) (hr : RH strE w lo hi A n xs) (hn : n ≤ 1048576) (h1 : 1 ≤ k) (h2 : k ≤ 1152921504606846976) (hhi : hi ≤ w.heap.size) :
    Calls Try.prog 25 #[.slice A n c, .int .i64 (k : Int)] w fun e w' => e = .returned (.int .i64 ((k + n : Nat) : Int)) ∧ KeepK w w' ∧ Out lo hi w w' := by
  have HR := Lib.hid hr; clear hr
  go_enter Try.func25, Try.ntmps25
  go_wp2_with fail
  go_loopw [1, 5] (fun q i wr => ∃ j m : Nat, j ≤ n ∧ i = .int .i64 (j : Int) ∧ q = .int .i64 (m : Int) ∧ m = k + j ∧ KeepK w wr ∧ Out lo hi w wr) (fun _ i _ => n - (intOf i).toNat)
  case atStart => exact ⟨0, k, Nat.zero_le _, rfl, rfl, rfl, KeepK.refl _, Out.refl⟩
  case round =>
    obtain ⟨j, m, hj, rfl, rfl, hm, hkk, hb⟩ := hrel
    have HM := Lib.hid hm
    have HK := Lib.hid hkk; clear hkk
    have HB := Lib.hid hb; clear hb
    have hm1 : 1 ≤ m := by omega
    have hm2 : m ≤ 2305843009213693952 := by omega
    have hm3 : (m : Int) ≤ 2305843009213693952 := by omega
    clear hm
    by_cases hlt : j < n
    · obtain ⟨ys, hys⟩ := RStr.kin_ HR.out HK.out
      obtain ⟨b, off, rfl, ⟨hb1, hb3⟩, hc⟩ := RStr.hat hys hlt
      have hwr : hi ≤ wr.heap.size := Nat.le_trans hhi HB.out.size
      have hb2 : b < wr.heap.size := by omega
      obtain ⟨c1, c2⟩ := hc j hlt
      clear hc hys
      go_wp2_with fail
      refine (markText2_any m _ hm1 hm2).mono ?_
      rintro e w1 ⟨rfl, hbw⟩
      have d1 := (hbw.cell (p := ⟨b, off + j, none⟩) hb2).trans c1
      have d2 := (hbw.frozen (p := ⟨b, off + j, none⟩) hb2).trans c2
      clear c1 c2
      have HBW := Lib.hid hbw; clear hbw
      have HK2 := Lib.hid ((HK.out.trans (KeepK.of_below HBW.out)).set_ (u := .string (markS m)) ⟨d1, d2⟩ ⟨_, rfl⟩)
      go_wp2_with fail
      go_roundw
      case rel => exact ⟨j + 1, m + 1, by omega, by go_num, by go_num, by rw [HM.out, Nat.add_assoc], HK2.out, (HB.out.trans (Out.of_below HBW.out)).set_ hb1 hb3 _ _⟩
      case measure => simp [intOf]; omega
    · go_wp2_with fail
      go_ret
      exact ⟨ret_i (by rw [HM.out, show j = n by omega]), HK.out, HB.out⟩

set_option maxRecDepth 100000 in
theorem markStepS_any (A : Option Addr) (n c k : Nat) (ss : List Step) (lo hi : Nat) (w : World) (hr : RH stepE w lo hi A n ss) (hok : okSteps ss) (h1 : 1 ≤ k) (h2 : k ≤ 4000000000000) (hhi : hi ≤ w.heap.size) :
    Calls Try.prog 68 #[.slice A n c, .int .i64 (k : Int)] w fun e w' => (∃ k' : Nat, e = .returned (.int .i64 (k' : Int)) ∧ k ≤ k' ∧ k' ≤ k + n * 1048578) ∧ Out lo hi w w' := by
  have HL := Lib.hid hr.1
  have hn : n ≤ 1048576 := by have := hok.1; rw [hr.1] at this; exact this
  have hnn : n * 1048578 ≤ 1048576 * 1048578 := Nat.mul_le_mul_right _ hn
  have HR := Lib.hid hr; clear hr
  go_enter Try.func68, Try.ntmps68
  go_wp2_with fail
  go_loopw [1, 5] (fun q i wr => ∃ j m : Nat, j ≤ n ∧ i = .int .i64 (j : Int) ∧ q = .int .i64 (m : Int) ∧ k ≤ m ∧ m ≤ k + j * 1048578 ∧ KeepK w wr ∧ Out lo hi w wr) (fun _ i _ => n - (intOf i).toNat)
  case atStart => exact ⟨0, k, Nat.zero_le _, rfl, rfl, Nat.le_refl _, by omega, KeepK.refl _, Out.refl⟩
  case round =>
    obtain ⟨j, m, hj, rfl, rfl, hkm, hmk, hkk, hb⟩ := hrel
    have HK := Lib.hid hkk; clear hkk
    have HB := Lib.hid hb; clear hb
    have hjn : j * 1048578 ≤ n * 1048578 := Nat.mul_le_mul_right _ hj
    have hm1 : 1 ≤ m := by omega
    have hm2 : m ≤ 5099513724928 := by omega
    have hwr : hi ≤ wr.heap.size := Nat.le_trans hhi HB.out.size
    by_cases hlt : j < n
    · obtain ⟨ts, hts, hlen⟩ := RStep.kin_ HR.out HK.out
      have HTS := Lib.hid hts
      obtain ⟨b, off, rfl, ⟨hb1, hb3⟩, hc⟩ := RStep.hat hts hlt
      clear hc hts
      have hb2 : b < wr.heap.size := by omega
      have hal := hlen j hlt
      have hao := (hok.2 j (by rw [HL.out]; exact hlt)).2.1
      go_wp2_with fail
      refine (markText2_any m _ hm1 (by omega)).mono ?_
      rintro e w1 ⟨rfl, hbw⟩
      have HT1 := Lib.hid (HTS.out.below hbw hwr)
      have HB1 := Lib.hid (HB.out.trans (Out.of_below hbw))
      have HK1 := Lib.hid (HK.out.trans (KeepK.of_below hbw))
      have hs1 := hbw.size
      clear hbw
      obtain ⟨b', off', e', _, hc⟩ := RStep.hat HT1.out hlt
      injection e' with e'; injection e' with e1 e2
      subst e1; subst e2
      obtain ⟨A', n', c', ⟨d1, d2, d3⟩, ha, f1, f2, f3⟩ := hc j hlt
      clear hc
      have hn' : n' ≤ 1048576 := by rw [← ha.1, hal]; exact hao
      have HK2 := Lib.hid (KeepK.set (u := .string (markS m)) ⟨d1, f1⟩ ⟨_, rfl⟩)
      have HKK2 := Lib.hid (HK1.out.trans HK2.out)
      have HB2 := Lib.hid (HB1.out.set_ hb1 hb3 (off + j * 3) (.string (markS m)))
      obtain ⟨u2, ⟨g2, _⟩, k2⟩ := HK2.out _ _ _ ⟨d2, f2⟩
      simp only [kin] at k2
      subst k2
      obtain ⟨ys, hys⟩ := RStr.kin_ ha HK2.out
      have HYS := Lib.hid hys; clear hys
      obtain ⟨u3, ⟨g3, g3'⟩, k3⟩ := HK2.out _ _ _ ⟨d3, f3⟩
      obtain ⟨b3, rfl⟩ := k3
      clear ha
      go_wp2_with fail
      refine (markStr2_any A' n' c' (m + 1) ys lo hi _ HYS.out hn' (by omega) (by omega) (by simp; omega)).mono ?_
      rintro e w3 ⟨rfl, hk3, ho3⟩
      obtain ⟨u4, ⟨g4, g4'⟩, k4⟩ := hk3 _ _ _ ⟨g3, g3'⟩
      obtain ⟨b4, rfl⟩ := k4
      have HK3 := Lib.hid (HKK2.out.trans hk3)
      have HB3 := Lib.hid (HB2.out.trans ho3)
      clear hk3 ho3 d1 d2 d3 f1 f2 f3 g2 g3 g3'
      obtain ⟨m3, hm3⟩ : ∃ m3 : Nat, m3 = m + 1 + n' := ⟨_, rfl⟩
      rw [← hm3]
      have hm4 : m3 ≤ 6199513630720 := by omega
      have hm5 : m + 1 ≤ m3 := by omega
      have hm6 : m3 + 1 ≤ m + 1048578 := by omega
      clear hm3
      have HK4 := Lib.hid (fun x : Bool => HK3.out.set_ (u := .bool x) ⟨g4, g4'⟩ ⟨_, rfl⟩)
      go_wp2_with fail
      go_roundw
      case rel => exact ⟨j + 1, m3 + 1, by omega, by go_num, by go_num, by omega, by omega, HK4.out _, HB3.out.set_ hb1 hb3 _ _⟩
      case measure => simp [intOf]; omega
    · go_wp2_with fail
      have hmn : m ≤ k + n * 1048578 := Nat.le_trans hmk (Nat.add_le_add_left hjn _)
      go_ret
      exact ⟨⟨m, rfl, hkm, hmn⟩, HB.out⟩

set_option maxRecDepth 100000 in
theorem markFlow_any (A : Option Addr) (n c k : Nat) (f : Flow) (lo hi : Nat) (w : World) (hr : RH stepE w lo hi A n f.steps) (hok : okSteps f.steps) (h1 : 1 ≤ k) (h2 : k ≤ 4000000000000) (hhi : hi ≤ w.heap.size) :
    Calls Try.prog 23 #[.agg #[.int .i64 f.ver, .slice A n c], .int .i64 (k : Int)] w fun e w' => (∃ k' : Nat, e = .returned (.int .i64 (k' : Int)) ∧ k ≤ k' ∧ k' ≤ k + n * 1048578) ∧ Out lo hi w w' := by
  have hb0 := (Below.refl w.heap.size w).alloc (Nat.le_refl _) (.cells #[.int .i64 f.ver, .slice A n c] 34)
  have HR := Lib.hid (hr.below hb0 hhi); clear hr
  have HB0 := Lib.hid hb0; clear hb0
  go_enter Try.func23, Try.ntmps23
  go_wp2_with fail
  refine (markStepS_any A n c k f.steps lo hi _ HR.out hok h1 h2 (by simp; omega)).mono ?_
  rintro e w1 ⟨⟨k', rfl, hk1, hk2⟩, ho⟩
  have HO := Lib.hid ((Out.of_below HB0.out).trans ho); clear ho
  go_wp2_with fail
  go_ret
  exact ⟨⟨k', rfl, hk1, hk2⟩, HO.out⟩

set_option maxRecDepth 100000 in
theorem markCaseS_any (A : Option Addr) (n c k : Nat) (ss : List Case) (lo hi : Nat) (w : World) (hr : RH caseE w lo hi A n ss) (hok : okCases ss) (h1 : 1 ≤ k) (h2 : k ≤ 4000000000000) (hhi : hi ≤ w.heap.size) :
    Calls Try.prog 24 #[.slice A n c, .int .i64 (k : Int)] w fun e w' => (∃ k' : Nat, e = .returned (.int .i64 (k' : Int)) ∧ k ≤ k') ∧ Out lo hi w w' := by
  have HL := Lib.hid hr.1
  have hn : n ≤ 1048576 := by have := hok.1; rw [hr.1] at this; exact this
  have hnn : n * 1048578 ≤ 1048576 * 1048578 := Nat.mul_le_mul_right _ hn
  have HR := Lib.hid hr; clear hr
  go_enter Try.func24, Try.ntmps24
  go_wp2_with fail
  go_loopw [1, 5] (fun q i wr => ∃ j m : Nat, j ≤ n ∧ i = .int .i64 (j : Int) ∧ q = .int .i64 (m : Int) ∧ k ≤ m ∧ m ≤ k + j * 1048578 ∧ KeepK w wr ∧ Out lo hi w wr) (fun _ i _ => n - (intOf i).toNat)
  case atStart => exact ⟨0, k, Nat.zero_le _, rfl, rfl, Nat.le_refl _, by omega, KeepK.refl _, Out.refl⟩
  case round =>
    obtain ⟨j, m, hj, rfl, rfl, hkm, hmk, hkk, hb⟩ := hrel
    have HK := Lib.hid hkk; clear hkk
    have HB := Lib.hid hb; clear hb
    have hjn : j * 1048578 ≤ n * 1048578 := Nat.mul_le_mul_right _ hj
    have hm1 : 1 ≤ m := by omega
    have hm2 : m ≤ 5099999905792 := by omega
    have hwr : hi ≤ wr.heap.size := Nat.le_trans hhi HB.out.size
    by_cases hlt : j < n
    · obtain ⟨ts, hts, hlen⟩ := RCase.kin_ HR.out HK.out
      have HTS := Lib.hid hts
      obtain ⟨b, off, e, hb1, hb3, hc⟩ := hts.2 (by omega)
      subst e
      clear hc hts
      have hb2 : b < wr.heap.size := by omega
      have hal := hlen j hlt
      have hao := (hok.2 j (by rw [HL.out]; exact hlt)).2
      go_wp2_with fail
      refine (markText2_any m _ hm1 (by omega)).mono ?_
      rintro e w1 ⟨rfl, hbw⟩
      have HT1 := Lib.hid (HTS.out.below hbw hwr)
      have HB1 := Lib.hid (HB.out.trans (Out.of_below hbw))
      have HK1 := Lib.hid (HK.out.trans (KeepK.of_below hbw))
      have hs1 := hbw.size
      clear hbw
      obtain ⟨b', off', e', _, _, hc⟩ := HT1.out.2 (by omega)
      injection e' with e'; injection e' with e1 e2
      subst e1; subst e2
      obtain ⟨⟨d1, f1⟩, ⟨d2, f2⟩, ⟨A', n', c', ⟨d3, f3⟩, ha, _⟩⟩ := hc j hlt
      clear hc
      have e3 : off + j * caseE.size = off + j * 3 := rfl
      rw [e3] at d1 f1 d2 f2 d3 f3
      clear e3
      have hn' : n' ≤ 1048576 := by rw [← ha.1, hal]; exact hao
      have HK2 := Lib.hid (KeepK.set (u := .string (markS m)) ⟨d1, f1⟩ ⟨_, rfl⟩)
      have HKK2 := Lib.hid (HK1.out.trans HK2.out)
      have HB2 := Lib.hid (HB1.out.set_ hb1 hb3 (off + j * 3) (.string (markS m)))
      obtain ⟨u2, ⟨g2, g2'⟩, k2⟩ := HK2.out _ _ _ ⟨d2, f2⟩
      obtain ⟨i2, rfl⟩ := k2
      have HK3 := Lib.hid (KeepK.set (u := .int .i64 ((m : Int) + 1)) ⟨g2, g2'⟩ ⟨_, rfl⟩)
      have HK23 := Lib.hid (HK2.out.trans HK3.out)
      have HKK3 := Lib.hid (HKK2.out.trans HK3.out)
      have HB3 := Lib.hid (HB2.out.set_ hb1 hb3 (off + j * 3 + 1) (.int .i64 ((m : Int) + 1)))
      obtain ⟨u3, ⟨g3, g3'⟩, k3⟩ := HK23.out _ _ _ ⟨d3, f3⟩
      simp only [kin] at k3
      subst k3
      obtain ⟨ys, hys⟩ := RStr.kin_ ha HK23.out
      have HYS := Lib.hid hys; clear hys
      clear ha
      go_wp2_with fail
      refine (markStr2_any A' n' c' (m + 2) ys lo hi _ HYS.out hn' (by omega) (by omega) (by simp; omega)).mono ?_
      rintro e w3 ⟨rfl, hk3, ho3⟩
      have HK4 := Lib.hid (HKK3.out.trans hk3)
      have HB4 := Lib.hid (HB3.out.trans ho3)
      clear hk3 ho3
      go_wp2_with fail
      go_roundw
      case rel => exact ⟨j + 1, m + 2 + n', by omega, by go_num, rfl, by omega, by omega, HK4.out, HB4.out⟩
      case measure => simp [intOf]; omega
    · go_wp2_with fail
      go_ret
      exact ⟨⟨m, rfl, hkm⟩, HB.out⟩

end Go.Proofs.Ytakeijgoonagcaa

/- Marks on cases of the call's own. -/
namespace Go.Proofs.Ytakeijgoonagcaa
open Go.RowKit

/-- Where the marks of a case begin. -/
def mkC (F : Nat → Case) (k : Nat) : Nat → Nat
  | 0 => k
  | j + 1 => mkC F k j + 2 + (F j).done.length
def mkF (F : Nat → Case) (k : Nat) (j : Nat) : Case := ⟨markS (mkC F k j), ((mkC F k j : Nat) : Int) + 1, marksS (mkC F k j + 2) (F j).done.length⟩
theorem mkC_lo (F : Nat → Case) (k : Nat) : ∀ j, k ≤ mkC F k j
  | 0 => Nat.le_refl _
  | j + 1 => by have := mkC_lo F k j; show k ≤ mkC F k j + 2 + _; omega
theorem mkC_hi {F : Nat → Case} {k n : Nat} (h : ∀ j, j < n → (F j).done.length ≤ 1000) : ∀ j, j ≤ n → mkC F k j ≤ k + j * 1002
  | 0, _ => by show k ≤ _; omega
  | j + 1, hj => by have h2 := mkC_hi (k := k) h j (by omega); have := h j (by omega); show mkC F k j + 2 + _ ≤ _; omega
theorem DC.congr {w : World} {b off n : Nat} {F G : Nat → Case} {β γ : Nat → Nat} (h : DC w b off n F β γ) (e : ∀ j, j < n → F j = G j) : DC w b off n G β γ :=
  ⟨h.lt, h.hi, fun j hj => by rw [← e j hj]; exact h.at_ j hj, h.ne, h.dis⟩
theorem DC.mark {w w1 w3 : World} {b off n j n' c' : Nat} {A' : Option Addr} {F : Nat → Case} {β γ : Nat → Nat} {s : Str} {z : Int} {ys : List Str} (h : DC w b off n F β γ) (hj : j < n) (hb1 : Below w.heap.size w w1)
    (hc : Cl w b (off + j * 3 + 2) (.slice A' n' c')) (hnc : n' ≤ c') (ho : Out (β j) (γ j) ((w1.setCell ⟨b, off + j * 3, none⟩ (.string s)).setCell ⟨b, off + j * 3 + 1, none⟩ (.int .i64 z)) w3) (hr : RH strE w3 (β j) (γ j) A' n' ys) :
    DC w3 b off n (fun i => if i = j then ⟨s, z, ys⟩ else F i) β γ := by
  have h1 := h.below hb1
  have hsz : ((w1.setCell ⟨b, off + j * 3, none⟩ (.string s)).setCell ⟨b, off + j * 3 + 1, none⟩ (.int .i64 z)).heap.size = w1.heap.size := by simp
  have hs3 : w1.heap.size ≤ w3.heap.size := by have := ho.size; omega
  have hkeep : ∀ i, i ≠ b → ((w1.setCell ⟨b, off + j * 3, none⟩ (.string s)).setCell ⟨b, off + j * 3 + 1, none⟩ (.int .i64 z)).heap[i]? = w1.heap[i]? := fun i hi =>
    (Below.heap_setCell _ _ _ i (by intro e; exact hi e)).trans (Below.heap_setCell _ _ _ i (by intro e; exact hi e))
  have hsb : Same b (b + 1) ((w1.setCell ⟨b, off + j * 3, none⟩ (.string s)).setCell ⟨b, off + j * 3 + 1, none⟩ (.int .i64 z)) w3 := ⟨fun i g1 g2 => by
    rw [show i = b by omega]
    refine ho.block b (by rw [hsz]; exact h1.lt) ?_
    rcases h.ne j hj with g | g
    · exact .inl g
    · exact .inr g⟩
  have hsw : Same b (b + 1) w w1 := ⟨fun i g1 g2 => by rw [show i = b by omega]; exact hb1.block b h.lt⟩
  refine ⟨Nat.lt_of_lt_of_le h1.lt hs3, fun i hi => Nat.le_trans (h1.hi i hi) hs3, fun i hi => ?_, h.ne, h.dis⟩
  by_cases hij : i = j
  · subst hij
    simp only [if_true]
    obtain ⟨_, _, _, d1, d2, _⟩ := h1.at_ i hi
    have d3 := hc.same hsw (Nat.le_refl _) (Nat.lt_succ_self _)
    refine ⟨A', n', c', ?_, ?_, ?_, hr, hnc⟩
    · exact (d1.set_same.set_other (.inr (by omega))).same hsb (Nat.le_refl _) (Nat.lt_succ_self _)
    · exact ((d2.set_other (.inr (by omega))).set_same).same hsb (Nat.le_refl _) (Nat.lt_succ_self _)
    · exact ((d3.set_other (.inr (by omega))).set_other (.inr (by omega))).same hsb (Nat.le_refl _) (Nat.lt_succ_self _)
  · simp only [hij, if_false]
    obtain ⟨A1, n1, c1, d1, d2, d3, d4, d5⟩ := h1.at_ i hi
    refine ⟨A1, n1, c1, ?_, ?_, ?_, ?_, d5⟩
    · exact ((d1.set_other (.inr (by omega))).set_other (.inr (by omega))).same hsb (Nat.le_refl _) (Nat.lt_succ_self _)
    · exact ((d2.set_other (.inr (by omega))).set_other (.inr (by omega))).same hsb (Nat.le_refl _) (Nat.lt_succ_self _)
    · exact ((d3.set_other (.inr (by omega))).set_other (.inr (by omega))).same hsb (Nat.le_refl _) (Nat.lt_succ_self _)
    · have d6 : RH strE ((w1.setCell ⟨b, off + j * 3, none⟩ (.string s)).setCell ⟨b, off + j * 3 + 1, none⟩ (.int .i64 z)) (β i) (γ i) A1 n1 (F i).done := d4.same ⟨fun q g1 g2 => hkeep q (by rcases h.ne i hi with g | g <;> omega)⟩
      exact d6.out ho (by rw [hsz]; exact h1.hi i hi) (h.dis i j hi hj hij)

set_option maxRecDepth 100000 in
set_option maxHeartbeats 1000000 in
theorem markOwn_any (b off n c k lo : Nat) (F : Nat → Case) (β γ : Nat → Nat) (w : World) (h : DC w b off n F β γ) (hn : n ≤ 1000) (hl : ∀ j, j < n → (F j).done.length ≤ 1000) (h1 : 1 ≤ k) (h2 : k ≤ 1000000000) (hlo : lo ≤ b) (hlo2 : ∀ j, j < n → lo ≤ β j ∨ γ j ≤ β j) :
    Calls Try.prog 24 #[.slice (some ⟨b, off, none⟩) n c, .int .i64 (k : Int)] w fun e w' => e = .returned (.int .i64 ((mkC F k n : Nat) : Int)) ∧ DC w' b off n (mkF F k) β γ ∧ Out lo w.heap.size w w' := by
  have HLT := Lib.hid h.lt
  have HHI := Lib.hid h.hi
  have HH := Lib.hid h; clear h
  have HLD := Lib.hid hl; clear hl
  have HL2 := Lib.hid hlo2; clear hlo2
  go_enter Try.func24, Try.ntmps24
  go_wp2_with fail
  go_loopw [1, 5] (fun q i wr => ∃ j : Nat, j ≤ n ∧ i = .int .i64 (j : Int) ∧ q = .int .i64 ((mkC F k j : Nat) : Int) ∧ DC wr b off n (fun i => if i < j then mkF F k i else F i) β γ ∧ Out lo w.heap.size w wr) (fun _ i _ => n - (intOf i).toNat)
  case atStart => exact ⟨0, Nat.zero_le _, rfl, rfl, HH.out.congr (fun j _ => by simp), Out.refl⟩
  case round =>
    obtain ⟨j, hj, rfl, rfl, hdc, hb⟩ := hrel
    have HDC := Lib.hid hdc; clear hdc
    have HB := Lib.hid hb; clear hb
    have hm := mkC_hi (k := k) HLD.out j hj
    have hm0 := mkC_lo F k j
    by_cases hlt : j < n
    · obtain ⟨A', n', c', ⟨d1, f1⟩, ⟨d2, f2⟩, ⟨d3, f3⟩, d4, d5⟩ := HDC.out.at_ j hlt
      have e1 : (if j < j then mkF F k j else F j) = F j := if_neg (by omega)
      simp only [e1] at d1 d2 d4
      have hn' : n' = (F j).done.length := d4.1.symm
      have hdl := HLD.out j hlt
      have HT := Lib.hid (show mkC F k (j + 1) = mkC F k j + 2 + n' by rw [hn']; rfl)
      have HFJ := Lib.hid (show mkF F k j = ⟨markS (mkC F k j), ((mkC F k j : Nat) : Int) + 1, marksS (mkC F k j + 2) n'⟩ by rw [hn']; rfl)
      have HN' := Lib.hid hn'; clear hn'
      have hdl' : n' ≤ 1000 := by rw [HN'.out]; exact hdl
      generalize mkC F k j = m at *
      have hm3 : (m : Int) ≤ 2305843009213693952 := by omega
      have hbl := HDC.out.lt
      go_wp2_with fail
      refine (markText2_any m _ (by omega) (by omega)).mono ?_
      rintro e w1 ⟨rfl, hbw⟩
      have HBW := Lib.hid hbw
      have p1 := (hbw.cell (p := ⟨b, off + j * 3, none⟩) hbl).trans d1
      have p1' := (hbw.frozen (p := ⟨b, off + j * 3, none⟩) hbl).trans f1
      have c2 : Cl w1 b (off + j * 3 + 1) (.int .i64 (F j).st) := ⟨(hbw.cell (p := ⟨b, off + j * 3 + 1, none⟩) hbl).trans d2, (hbw.frozen (p := ⟨b, off + j * 3 + 1, none⟩) hbl).trans f2⟩
      have c3 : Cl w1 b (off + j * 3 + 2) (.slice A' n' c') := ⟨(hbw.cell (p := ⟨b, off + j * 3 + 2, none⟩) hbl).trans d3, (hbw.frozen (p := ⟨b, off + j * 3 + 2, none⟩) hbl).trans f3⟩
      obtain ⟨p2, p2'⟩ := c2.set_other (b' := b) (o' := off + j * 3) (v := .string (markS m)) (.inr (by omega))
      obtain ⟨p3, _⟩ := (c3.set_other (b' := b) (o' := off + j * 3) (v := .string (markS m)) (.inr (by omega))).set_other (b' := b) (o' := off + j * 3 + 1) (v := .int .i64 ((m : Int) + 1)) (.inr (by omega))
      have HRS : Hid (RH strE ((w1.setCell ⟨b, off + j * 3, none⟩ (.string (markS m))).setCell ⟨b, off + j * 3 + 1, none⟩ (.int .i64 ((m : Int) + 1))) (β j) (γ j) A' n' (F j).done) := (d4.below hbw (HDC.out.hi j hlt)).same ⟨fun q g1 g2 => by
        have hq : q ≠ b := by rcases HDC.out.ne j hlt with g | g <;> omega
        exact (Below.heap_setCell _ _ _ q (by intro e; exact hq e)).trans (Below.heap_setCell _ _ _ q (by intro e; exact hq e))⟩
      have HC3 := Lib.hid (show Cl wr b (off + j * 3 + 2) (.slice A' n' c') from ⟨d3, f3⟩)
      have hhi := HDC.out.hi j hlt
      have hs1 := hbw.size
      clear hbw d1 f1 d2 f2 d3 f3 d4 c2 c3 hdl e1 HH
      go_wp2_with fail
      refine (markStringS_any A' n' c' (m + 2) (F j).done (β j) (γ j) _ HRS.out (by omega) (by omega) (by omega) (by simp; omega)).mono ?_
      rintro e w3 ⟨rfl, hr3, ho3⟩
      have HD3 := Lib.hid (HDC.out.mark hlt HBW.out HC3.out d5 ho3 hr3)
      have HO3 := Lib.hid (show Out lo w.heap.size w w3 from by
        have hsw := HB.out.size
        have g0 : Out lo w.heap.size w ((w1.setCell ⟨b, off + j * 3, none⟩ (.string (markS m))).setCell ⟨b, off + j * 3 + 1, none⟩ (.int .i64 ((m : Int) + 1))) := by
          have hbw0 : b < w.heap.size := HLT.out
          exact ((HB.out.trans (Out.of_below HBW.out)).set_ hlo hbw0 _ _).set_ hlo hbw0 _ _
        refine g0.trans ⟨ho3.os, ho3.tape, ho3.output, ho3.size, fun i g1 g2 => ?_⟩
        have g3 := HHI.out j hlt
        refine ho3.block i g1 ?_
        rcases HL2.out j hlt with g4 | g4
        · rcases g2 with g2 | g2
          · exact .inl (by omega)
          · exact .inr (by omega)
        · rcases Nat.lt_or_ge i (β j) with g5 | g5
          · exact .inl g5
          · exact .inr (by omega))
      clear ho3 hr3
      go_wp2_with fail
      go_roundw
      case rel =>
        refine ⟨j + 1, by omega, by go_num, by rw [HT.out]; go_num, HD3.out.congr (fun i hi => ?_), HO3.out⟩
        by_cases hij : i = j
        · subst hij
          rw [if_pos rfl, if_pos (by omega), HFJ.out]
        · rw [if_neg hij]
          by_cases hil : i < j
          · rw [if_pos hil, if_pos (by omega)]
          · rw [if_neg hil, if_neg (by omega)]
      case measure => simp [intOf]; omega
    · obtain rfl : j = n := by omega
      go_wp2_with fail
      go_ret
      exact ⟨rfl, HDC.out.congr (fun i hi => by rw [if_pos hi]), HB.out⟩

set_option maxRecDepth 100000 in
set_option maxHeartbeats 1000000 in
theorem heldOwn_any (b off n c k : Nat) (F : Nat → Case) (β γ : Nat → Nat) (w : World) (h : DC w b off n (mkF F k) β γ) (hn : n ≤ 1000) (hl : ∀ j, j < n → (F j).done.length ≤ 1000) (h1 : 1 ≤ k) (h2 : k ≤ 1000000000) :
    Calls Try.prog 26 #[.slice (some ⟨b, off, none⟩) n c, .int .i64 (k : Int)] w fun e w' => e = .returned (.int .i64 ((mkC F k n : Nat) : Int)) ∧ Below w.heap.size w w' := by
  have HH := Lib.hid h; clear h
  have HLD := Lib.hid hl; clear hl
  go_enter Try.func26, Try.ntmps26
  go_wp2_with fail
  go_loopw [1, 5] (fun q i wr => ∃ j : Nat, j ≤ n ∧ i = .int .i64 (j : Int) ∧ q = .int .i64 ((mkC F k j : Nat) : Int) ∧ Below w.heap.size w wr) (fun _ i _ => n - (intOf i).toNat)
  case atStart => exact ⟨0, Nat.zero_le _, rfl, rfl, Below.refl _ _⟩
  case round =>
    obtain ⟨j, hj, rfl, rfl, hb⟩ := hrel
    have HB := Lib.hid hb; clear hb
    have HDC := Lib.hid (HH.out.below HB.out)
    have hm := mkC_hi (k := k) HLD.out j hj
    have hm0 := mkC_lo F k j
    by_cases hlt : j < n
    · obtain ⟨A', n', c', ⟨d1, f1⟩, ⟨d2, f2⟩, ⟨d3, f3⟩, d4, d5⟩ := HDC.out.at_ j hlt
      have hdl := HLD.out j hlt
      have hn' : n' = (F j).done.length := by rw [← d4.1]; exact marksS_len _ _
      have HT := Lib.hid (show mkC F k (j + 1) = mkC F k j + 2 + n' by rw [hn']; rfl)
      have hfj : mkF F k j = ⟨markS (mkC F k j), ((mkC F k j : Nat) : Int) + 1, marksS (mkC F k j + 2) n'⟩ := by rw [hn']; rfl
      rw [hfj] at d1 d2 d4
      have hdl' : n' ≤ 1000 := by rw [hn']; exact hdl
      clear hn' hfj hdl
      generalize mkC F k j = m at *
      have hm3 : (m : Int) ≤ 2305843009213693952 := by omega
      have hm1 : 1 ≤ m := by omega
      have hm2 : m ≤ 2305843009213693952 := by omega
      have hbl := HDC.out.lt
      have hq : ((markS m).toList != (markS m).toList) = false := by simp
      have hq2 : (((m : Int) + 1) != ((m : Int) + 1)) = false := by simp
      have hss : Hid (RStr wr (β j) A' n' (marksS (m + 2) n')) := d4.up (HDC.out.hi j hlt)
      clear d4
      go_wp2_with fail
      go_region_held3 (fun w' => w'.cell? ⟨b, off + j * 3, none⟩ = some (.string (markS m)))
        (first | go_keep | (rw [hbw.cell (p := ⟨b, off + j * 3, none⟩) (by simpa using hbl)]; assumption))
        (first | (go_at_call 69; refine (markText2_any m _ hm1 hm2).mono ?_; rintro e w1 ⟨rfl, hbw⟩))
      have hbw' : Below wr.heap.size wr w1 := (Below.refl wr.heap.size wr).drew.trans hbw
      have p2 := (hbw'.cell (p := ⟨b, off + j * 3 + 1, none⟩) hbl).trans d2
      have p3 := (hbw'.cell (p := ⟨b, off + j * 3 + 2, none⟩) hbl).trans d3
      have HB1 := Lib.hid (HB.out.trans (hbw'.mono HB.out.size))
      have HS1 := Lib.hid (hss.out.below hbw')
      clear hbw hbw' d1 d2 d3 f1 f2 f3 hss
      go_wp2_with fail
      refine (heldStringS_any A' n' c' (m + 2) _ _ HS1.out (by omega) (by omega) (by omega)).mono ?_
      rintro e w3 ⟨rfl, hb3⟩
      have HB3 := Lib.hid (HB1.out.trans (hb3.mono HB1.out.size))
      clear hb3 p2 p3
      have hpos : ¬ (((m + 2 + n' : Nat) : Int) < 0) := by omega
      go_wp2_with fail
      go_roundw
      case rel => exact ⟨j + 1, by omega, by go_num, by rw [HT.out]; go_num, HB3.out⟩
      case measure => simp [intOf]; omega
    · obtain rfl : j = n := by omega
      go_wp2_with fail
      go_ret
      exact ⟨rfl, HB.out⟩

/-- The marked cases, as a list. -/
def mkL (ss : List Case) (k : Nat) : List Case := (List.range ss.length).map (mkF (nth ss) k)
theorem mkL_len (ss : List Case) (k : Nat) : (mkL ss k).length = ss.length := by simp [mkL]
theorem mkL_at {ss : List Case} {k j : Nat} (hj : j < ss.length) : nth (mkL ss k) j = mkF (nth ss) k j := by
  rw [nth_eq (by rw [mkL_len]; exact hj)]; simp [mkL]
theorem markDR_any (A : Option Addr) (n c k lo : Nat) (ss : List Case) (w : World) (h : DR w lo A n ss) (hn : n ≤ 1000) (hl : ∀ j, j < n → (nth ss j).done.length ≤ 1000) (h1 : 1 ≤ k) (h2 : k ≤ 1000000000) :
    Calls Try.prog 24 #[.slice A n c, .int .i64 (k : Int)] w fun e w' => e = .returned (.int .i64 ((mkC (nth ss) k n : Nat) : Int)) ∧ DR w' lo A n (mkL ss k) ∧ Out lo w.heap.size w w' := by
  have hL := h.1
  rcases Nat.eq_zero_or_pos n with h0 | h0
  · subst h0
    have he : ss = [] := List.length_eq_zero_iff.1 hL
    subst he
    go_enter Try.func24, Try.ntmps24
    go_wp2_with fail
    go_loopw [1, 5] (fun q i wr => q = .int .i64 (k : Int) ∧ i = .int .i64 0 ∧ wr = w) (fun _ _ _ => 0)
    case atStart => exact ⟨rfl, rfl, rfl⟩
    case round =>
      obtain ⟨rfl, rfl, rfl⟩ := hrel
      go_wp2_with fail
      go_ret
      exact ⟨rfl, DR.nil, Out.refl⟩
  · obtain ⟨b, off, β, γ, rfl, e1, e2, e3⟩ := h.2 h0
    refine (markOwn_any b off n c k lo (nth ss) β γ w e3 hn hl h1 h2 e1 e2).mono ?_
    rintro e w' ⟨rfl, hd, ho⟩
    exact ⟨rfl, ⟨by rw [mkL_len]; exact hL, fun _ => ⟨b, off, β, γ, rfl, e1, e2, hd.congr (fun j hj => (mkL_at (by omega)).symm)⟩⟩, ho⟩
theorem heldDR_any (A : Option Addr) (n c k lo : Nat) (ss : List Case) (w : World) (h : DR w lo A n (mkL ss k)) (hn : n ≤ 1000) (hl : ∀ j, j < n → (nth ss j).done.length ≤ 1000) (h1 : 1 ≤ k) (h2 : k ≤ 1000000000) :
    Calls Try.prog 26 #[.slice A n c, .int .i64 (k : Int)] w fun e w' => e = .returned (.int .i64 ((mkC (nth ss) k n : Nat) : Int)) ∧ Below w.heap.size w w' := by
  have hL : ss.length = n := by rw [← h.1, mkL_len]
  rcases Nat.eq_zero_or_pos n with h0 | h0
  · subst h0
    go_enter Try.func26, Try.ntmps26
    go_wp2_with fail
    go_loopw [1, 5] (fun q i wr => q = .int .i64 (k : Int) ∧ i = .int .i64 0 ∧ wr = w) (fun _ _ _ => 0)
    case atStart => exact ⟨rfl, rfl, rfl⟩
    case round =>
      obtain ⟨rfl, rfl, rfl⟩ := hrel
      go_wp2_with fail
      go_ret
      exact ⟨rfl, Below.refl _ _⟩
  · obtain ⟨b, off, β, γ, rfl, e1, e2, e3⟩ := h.2 h0
    exact heldOwn_any b off n c k (nth ss) β γ w (e3.congr (fun j hj => mkL_at (by omega))) hn hl h1 h2
end Go.Proofs.Ytakeijgoonagcaa

/- Events in exact laws; cases of the call's own beside marks. -/
namespace Go.Proofs.Ytakeijgoonagcaa
open Go.RowKit

theorem DR.out {w w' : World} {lo lo1 hi1 n : Nat} {A : Option Addr} {ss : List Case} (h : DR w lo A n ss) (ho : Out lo1 hi1 w w') (hd : hi1 ≤ lo) : DR w' lo A n ss :=
  ⟨h.1, fun hn => by
    obtain ⟨b, off, β, γ, e, h1, h2, h3⟩ := h.2 hn
    refine ⟨b, off, β, γ, e, h1, h2, h3.kept ho.size (ho.block b h3.lt (.inr (by omega))) fun j hj i g1 g2 => ho.block i (Nat.lt_of_lt_of_le g2 (h3.hi j hj)) (.inr ?_)⟩
    rcases h2 j hj with g | g <;> omega⟩
theorem DR.low {w : World} {lo n : Nat} {A : Option Addr} {ss : List Case} (h : DR w lo A n ss) : RH caseE w lo w.heap.size A n ss := h.hat
theorem peL_small {f : Flow} {cs : List Case} {nm x : Str} {k : Int} : (peL f cs nm k x).length ≤ 8 ∧ ∀ j, j < (peL f cs nm k x).length → (nth (peL f cs nm k x) j).done.length ≤ 8 := by
  cases h : peB f cs nm k x
  · rw [peL_no h]
    exact ⟨Nat.zero_le _, fun j hj => absurd hj (by simp)⟩
  · have hp := pool_ev h
    exact ⟨pool_len hp, fun j hj => (run_sizes (pool_run hp hj)).1⟩
end Go.Proofs.Ytakeijgoonagcaa

/- Marks on cases of the call's own, and what they leave. -/
namespace Go.Proofs.Ytakeijgoonagcaa
open Go.RowKit

set_option maxRecDepth 100000 in
set_option maxHeartbeats 1000000 in
theorem markOwnQ_any (b off n c k lo : Nat) (F : Nat → Case) (β γ : Nat → Nat) (w : World) (h : DC w b off n F β γ) (hn : n ≤ 1000) (hl : ∀ j, j < n → (F j).done.length ≤ 1000) (h1 : 1 ≤ k) (h2 : k ≤ 1000000000) (hlo : lo ≤ b) (hlo2 : ∀ j, j < n → lo ≤ β j ∨ γ j ≤ β j) :
    Calls Try.prog 24 #[.slice (some ⟨b, off, none⟩) n c, .int .i64 (k : Int)] w fun e w' => e = .returned (.int .i64 ((mkC F k n : Nat) : Int)) ∧ DC w' b off n (mkF F k) β γ ∧ Out lo w.heap.size w w' ∧ (∀ q, q < w.heap.size → q ≠ b → (∀ j, j < n → q < β j ∨ γ j ≤ q) → w'.heap[q]? = w.heap[q]?) := by
  have HLT := Lib.hid h.lt
  have HHI := Lib.hid h.hi
  have HH := Lib.hid h; clear h
  have HLD := Lib.hid hl; clear hl
  have HL2 := Lib.hid hlo2; clear hlo2
  go_enter Try.func24, Try.ntmps24
  go_wp2_with fail
  go_loopw [1, 5] (fun q i wr => ∃ j : Nat, j ≤ n ∧ i = .int .i64 (j : Int) ∧ q = .int .i64 ((mkC F k j : Nat) : Int) ∧ DC wr b off n (fun i => if i < j then mkF F k i else F i) β γ ∧ Out lo w.heap.size w wr ∧ (∀ q, q < w.heap.size → q ≠ b → (∀ j, j < n → q < β j ∨ γ j ≤ q) → wr.heap[q]? = w.heap[q]?)) (fun _ i _ => n - (intOf i).toNat)
  case atStart => exact ⟨0, Nat.zero_le _, rfl, rfl, HH.out.congr (fun j _ => by simp), Out.refl, fun _ _ _ _ => rfl⟩
  case round =>
    obtain ⟨j, hj, rfl, rfl, hdc, hb, hqq⟩ := hrel
    have HQQ := Lib.hid hqq; clear hqq
    have HDC := Lib.hid hdc; clear hdc
    have HB := Lib.hid hb; clear hb
    have hm := mkC_hi (k := k) HLD.out j hj
    have hm0 := mkC_lo F k j
    by_cases hlt : j < n
    · obtain ⟨A', n', c', ⟨d1, f1⟩, ⟨d2, f2⟩, ⟨d3, f3⟩, d4, d5⟩ := HDC.out.at_ j hlt
      have e1 : (if j < j then mkF F k j else F j) = F j := if_neg (by omega)
      simp only [e1] at d1 d2 d4
      have hn' : n' = (F j).done.length := d4.1.symm
      have hdl := HLD.out j hlt
      have HT := Lib.hid (show mkC F k (j + 1) = mkC F k j + 2 + n' by rw [hn']; rfl)
      have HFJ := Lib.hid (show mkF F k j = ⟨markS (mkC F k j), ((mkC F k j : Nat) : Int) + 1, marksS (mkC F k j + 2) n'⟩ by rw [hn']; rfl)
      have HN' := Lib.hid hn'; clear hn'
      have hdl' : n' ≤ 1000 := by rw [HN'.out]; exact hdl
      generalize mkC F k j = m at *
      have hm3 : (m : Int) ≤ 2305843009213693952 := by omega
      have hbl := HDC.out.lt
      go_wp2_with fail
      refine (markText2_any m _ (by omega) (by omega)).mono ?_
      rintro e w1 ⟨rfl, hbw⟩
      have HBW := Lib.hid hbw
      have p1 := (hbw.cell (p := ⟨b, off + j * 3, none⟩) hbl).trans d1
      have p1' := (hbw.frozen (p := ⟨b, off + j * 3, none⟩) hbl).trans f1
      have c2 : Cl w1 b (off + j * 3 + 1) (.int .i64 (F j).st) := ⟨(hbw.cell (p := ⟨b, off + j * 3 + 1, none⟩) hbl).trans d2, (hbw.frozen (p := ⟨b, off + j * 3 + 1, none⟩) hbl).trans f2⟩
      have c3 : Cl w1 b (off + j * 3 + 2) (.slice A' n' c') := ⟨(hbw.cell (p := ⟨b, off + j * 3 + 2, none⟩) hbl).trans d3, (hbw.frozen (p := ⟨b, off + j * 3 + 2, none⟩) hbl).trans f3⟩
      obtain ⟨p2, p2'⟩ := c2.set_other (b' := b) (o' := off + j * 3) (v := .string (markS m)) (.inr (by omega))
      obtain ⟨p3, _⟩ := (c3.set_other (b' := b) (o' := off + j * 3) (v := .string (markS m)) (.inr (by omega))).set_other (b' := b) (o' := off + j * 3 + 1) (v := .int .i64 ((m : Int) + 1)) (.inr (by omega))
      have HRS : Hid (RH strE ((w1.setCell ⟨b, off + j * 3, none⟩ (.string (markS m))).setCell ⟨b, off + j * 3 + 1, none⟩ (.int .i64 ((m : Int) + 1))) (β j) (γ j) A' n' (F j).done) := (d4.below hbw (HDC.out.hi j hlt)).same ⟨fun q g1 g2 => by
        have hq : q ≠ b := by rcases HDC.out.ne j hlt with g | g <;> omega
        exact (Below.heap_setCell _ _ _ q (by intro e; exact hq e)).trans (Below.heap_setCell _ _ _ q (by intro e; exact hq e))⟩
      have HC3 := Lib.hid (show Cl wr b (off + j * 3 + 2) (.slice A' n' c') from ⟨d3, f3⟩)
      have hhi := HDC.out.hi j hlt
      have hs1 := hbw.size
      clear hbw d1 f1 d2 f2 d3 f3 d4 c2 c3 hdl e1 HH
      go_wp2_with fail
      refine (markStringS_any A' n' c' (m + 2) (F j).done (β j) (γ j) _ HRS.out (by omega) (by omega) (by omega) (by simp; omega)).mono ?_
      rintro e w3 ⟨rfl, hr3, ho3⟩
      have HD3 := Lib.hid (HDC.out.mark hlt HBW.out HC3.out d5 ho3 hr3)
      have HO3 := Lib.hid (show Out lo w.heap.size w w3 from by
        have hsw := HB.out.size
        have g0 : Out lo w.heap.size w ((w1.setCell ⟨b, off + j * 3, none⟩ (.string (markS m))).setCell ⟨b, off + j * 3 + 1, none⟩ (.int .i64 ((m : Int) + 1))) := by
          have hbw0 : b < w.heap.size := HLT.out
          exact ((HB.out.trans (Out.of_below HBW.out)).set_ hlo hbw0 _ _).set_ hlo hbw0 _ _
        refine g0.trans ⟨ho3.os, ho3.tape, ho3.output, ho3.size, fun i g1 g2 => ?_⟩
        have g3 := HHI.out j hlt
        refine ho3.block i g1 ?_
        rcases HL2.out j hlt with g4 | g4
        · rcases g2 with g2 | g2
          · exact .inl (by omega)
          · exact .inr (by omega)
        · rcases Nat.lt_or_ge i (β j) with g5 | g5
          · exact .inl g5
          · exact .inr (by omega))
      have HQ3 := Lib.hid (fun q (g1 : q < w.heap.size) (g2 : q ≠ b) (g3 : ∀ j, j < n → q < β j ∨ γ j ≤ q) => (by
        have hsw := HB.out.size
        have hsq : ((w1.setCell ⟨b, off + j * 3, none⟩ (.string (markS m))).setCell ⟨b, off + j * 3 + 1, none⟩ (.int .i64 ((m : Int) + 1))).heap.size = w1.heap.size := by simp
        have e1 := ho3.block q (by rw [hsq]; omega) (g3 j hlt)
        have e2 : ((w1.setCell ⟨b, off + j * 3, none⟩ (.string (markS m))).setCell ⟨b, off + j * 3 + 1, none⟩ (.int .i64 ((m : Int) + 1))).heap[q]? = w1.heap[q]? := (Below.heap_setCell _ _ _ q (by intro e; exact g2 e)).trans (Below.heap_setCell _ _ _ q (by intro e; exact g2 e))
        exact e1.trans (e2.trans ((HBW.out.block q (by omega)).trans (HQQ.out q g1 g2 g3))) : w3.heap[q]? = w.heap[q]?))
      clear ho3 hr3
      go_wp2_with fail
      go_roundw
      case rel =>
        refine ⟨j + 1, by omega, by go_num, by rw [HT.out]; go_num, HD3.out.congr (fun i hi => ?_), HO3.out, HQ3.out⟩
        by_cases hij : i = j
        · subst hij
          rw [if_pos rfl, if_pos (by omega), HFJ.out]
        · rw [if_neg hij]
          by_cases hil : i < j
          · rw [if_pos hil, if_pos (by omega)]
          · rw [if_neg hil, if_neg (by omega)]
      case measure => simp [intOf]; omega
    · obtain rfl : j = n := by omega
      go_wp2_with fail
      go_ret
      exact ⟨rfl, HDC.out.congr (fun i hi => by rw [if_pos hi]), HB.out, HQQ.out⟩

end Go.Proofs.Ytakeijgoonagcaa

/- Marks on cases beside a row of names. -/
namespace Go.Proofs.Ytakeijgoonagcaa
open Go.RowKit

/-- Cases of the call's own outside a stretch of blocks. -/
def DRM (w : World) (lo : Nat) (A : Option Addr) (n : Nat) (ss : List Case) (q1 q2 : Nat) : Prop :=
  ss.length = n ∧ (0 < n → ∃ b off β γ, A = some ⟨b, off, none⟩ ∧ lo ≤ b ∧ (∀ j, j < n → lo ≤ β j ∨ γ j ≤ β j) ∧ DC w b off n (nth ss) β γ ∧ (b < q1 ∨ q2 ≤ b) ∧ ∀ j, j < n → γ j ≤ q1 ∨ q2 ≤ β j ∨ γ j ≤ β j)
theorem DRM.outQ {w w' : World} {lo n q1 q2 : Nat} {A : Option Addr} {ss : List Case} (h : DRM w lo A n ss q1 q2) (ho : Out q1 q2 w w') : DR w' lo A n ss :=
  ⟨h.1, fun hn => by
    obtain ⟨b, off, β, γ, e, h1, h2, h3, h4, h5⟩ := h.2 hn
    refine ⟨b, off, β, γ, e, h1, h2, h3.kept ho.size (ho.block b h3.lt h4) fun j hj i g1 g2 => ho.block i (Nat.lt_of_lt_of_le g2 (h3.hi j hj)) ?_⟩
    rcases h5 j hj with g | g | g <;> omega⟩
set_option maxRecDepth 100000 in
theorem markDX_any (A C : Option Addr) (n c k kn e base : Nat) (ss : List Case) (xs : List Str) (w : World) (h : DX w base A n ss (Value.slice C kn e).ownBlock) (hnm : w.ownsRow base 9 1 (.slice C kn e) kn (xs.map Value.string)) (hb : base ≤ w.heap.size) (hn : n ≤ 1000) (hl : ∀ j, j < n → (nth ss j).done.length ≤ 1000) (h1 : 1 ≤ k) (h2 : k ≤ 1000000000) :
    Calls Try.prog 24 #[.slice A n c, .int .i64 (k : Int)] w fun e' w' => e' = .returned (.int .i64 ((mkC (nth ss) k n : Nat) : Int)) ∧ Out base w.heap.size w w' ∧ ∃ q1 q2, RH strE w' q1 q2 C kn xs ∧ base ≤ q1 ∧ q1 ≤ q2 ∧ q2 ≤ w.heap.size ∧ DRM w' base A n (mkL ss k) q1 q2 := by
  have hL := h.1
  obtain ⟨A9, c9, e9, hss⟩ := own_sstr hnm
  injection e9 with i1 i2 i3
  subst i1; subst i3
  obtain ⟨q1, q2, r1, r2, r3, r4, r5⟩ : ∃ q1 q2, RH strE w q1 q2 C kn xs ∧ base ≤ q1 ∧ q1 ≤ q2 ∧ q2 ≤ w.heap.size ∧ ((q2 = q1 ∧ q1 = base) ∨ (q2 = q1 + 1 ∧ (Value.slice C kn e).ownBlock = some q1 ∧ ∃ cs, w.heap[q1]? = some (.cells cs 9 (0, 0)))) := by
    rcases Nat.eq_zero_or_pos kn with h0 | h0
    · subst h0
      exact ⟨base, base, ⟨hss.1, fun h => absurd h (by omega)⟩, Nat.le_refl _, Nat.le_refl _, hb, .inl ⟨rfl, rfl⟩⟩
    · obtain ⟨b', cs, e3, h6, h7, h8⟩ := hss.2 h0
      refine ⟨b', b' + 1, ⟨hss.1, fun _ => ?_⟩, h6, Nat.le_succ _, heap_lt h7, .inr ⟨rfl, by rw [e3]; simp [Value.ownBlock], cs, h7⟩⟩
      refine ⟨b', 0, e3, Nat.le_refl _, by omega, fun j hj => ?_⟩
      have := blk_cl h7 (h8 j hj)
      simpa [strE] using this
  rcases Nat.eq_zero_or_pos n with h0 | h0
  · subst h0
    have he : ss = [] := List.length_eq_zero_iff.1 hL
    subst he
    go_enter Try.func24, Try.ntmps24
    go_wp2_with fail
    go_loopw [1, 5] (fun q i wr => q = .int .i64 (k : Int) ∧ i = .int .i64 0 ∧ wr = w) (fun _ _ _ => 0)
    case atStart => exact ⟨rfl, rfl, rfl⟩
    case round =>
      obtain ⟨rfl, rfl, rfl⟩ := hrel
      go_wp2_with fail
      go_ret
      exact ⟨rfl, Out.refl, q1, q2, r1, r2, r3, r4, rfl, fun h => absurd h (by omega)⟩
  · obtain ⟨b, off, β, γ, rfl, e1, e2, e3, e4, cur, e5⟩ := h.2 h0
    have hbq : b < q1 ∨ q2 ≤ b := by
      rcases r5 with r5 | ⟨r5, _, cs, r7⟩
      · omega
      · have hne : b ≠ q1 := fun e => by
          rw [e, r7] at e5
          have := Option.some.inj e5
          injection this with _ e6
          exact absurd e6 (by decide)
        omega
    have hjq : ∀ j, j < n → γ j ≤ q1 ∨ q2 ≤ β j ∨ γ j ≤ β j := fun j hj => by
      rcases r5 with r5 | ⟨r5, r6, _⟩
      · rcases e2 j hj with g | g
        · exact .inr (.inl (by omega))
        · exact .inr (.inr g)
      · rcases e4 q1 r6 j hj with g | g <;> omega
    refine (markOwnQ_any b off n c k base (nth ss) β γ w e3 hn hl h1 h2 e1 e2).mono ?_
    rintro e' w' ⟨rfl, hd, ho, hq⟩
    refine ⟨rfl, ho, q1, q2, ?_, r2, r3, r4, by rw [mkL_len]; exact hL, fun _ => ⟨b, off, β, γ, rfl, e1, e2, hd.congr (fun j hj => (mkL_at (by omega)).symm), hbq, hjq⟩⟩
    refine r1.same ⟨fun i g1 g2 => hq i (by omega) (by omega) fun j hj => ?_⟩
    rcases hjq j hj with g | g | g <;> omega
end Go.Proofs.Ytakeijgoonagcaa
