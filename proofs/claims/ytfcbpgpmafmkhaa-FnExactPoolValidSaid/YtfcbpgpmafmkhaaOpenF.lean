/- Arguments opened: names, steps, flows. -/
import Derived.Test.YtfcbpgpmafmkhaaOpenG
import Derived.Test.YtfcbpgpmafmkhaaPure1
import Derived.SliceStrings
namespace Go.Proofs.Ytfcbpgpmafmkhaa
open Go.ChangeShapes Go.WideShapes Go.ChangeAt Go.RowKit Go.Deep

theorem Try.cellsStr : Try.prog.cellsOf 9 = 1 := by kernel_rfl
theorem Try.cellsLStep : Try.prog.cellsOf 96 = 3 := by kernel_rfl

section
variable {H : Type} {enc : TypeId × Value → H} {P : Program} {w : World} {base : Nat} {spare : Nat → Bool} {held : Bool}
theorem open_struct_fields {t : TypeId} {fs : Array Field} {fuel : Nat} {cs : List Value} {x : DataW H × List MemPlace} (ht : P.underlying t = some (.struct fs)) (hone : oneCellFields P fs = true)
    (h : DataW.trod enc P w base spare held fuel t cs = some x) :
    ∃ (ys : List (DataW H × List MemPlace)) (n : Nat), x = (.agg (ys.map (·.1)), ys.flatMap (·.2)) ∧
      ∀ (j : Nat) (f : Field) (v : Value), fs[j]? = some f → cs[j]? = some v → ∃ y, ys[j]? = some y ∧ DataW.trod enc P w base spare held n f.type [v] = some y := by
  obtain ⟨ys, n, _, hx, _, hyl, hf⟩ := DataW.trod_struct ht h
  refine ⟨ys, n, hx, fun j f v hj hv => ?_⟩
  obtain ⟨ho, hk⟩ := hone_of hone j f hj
  have h1 := hf j f hj
  rw [ho, hk] at h1
  obtain ⟨hjl, hv'⟩ := List.getElem?_eq_some_iff.1 hv
  have h2 : (cs.drop j).take 1 = [v] := by
    rw [List.drop_eq_getElem_cons hjl, hv']
    rfl
  rw [h2] at h1
  have hjy : j < ys.length := by rw [hyl]; exact (Array.getElem?_eq_some_iff.1 hj).1
  exact ⟨ys[j], List.getElem?_eq_getElem hjy, h1.trans (List.getElem?_eq_getElem hjy)⟩
end

/-- A field's list of names. -/
theorem open_strS {H : Type} {enc : TypeId × Value → H} {W : World} {v : Value} {d : DataW H} {p : List MemPlace} {fuel : Nat}
    (h : DataW.trod enc Try.prog W 0 (fun _ => true) true fuel 42 [v] = some (d, p)) (hz : W.noneFrozen p) :
    ∃ A n c xs, v = .slice A n c ∧ RStr W 0 A n xs ∧ n ≤ maxLen ∧ ∀ j, j < n → (nth xs j).size ≤ maxLen := by
  rcases open_strings Try.underlying42 Try.underlying9 Try.cellsStr h with ⟨hcs, _⟩ | ⟨a, len, cap, ss, hcs, _, hl, hm, hsl, hx, hcell, hsz⟩
  · have hv : v = .slice none 0 0 := by simpa using hcs
    exact ⟨none, 0, 0, [], hv, RL.nil, by unfold maxLen; omega, fun j hj => absurd hj (by omega)⟩
  · have hv : v = .slice (some a) len cap := by simpa using hcs
    simp only [Prod.mk.injEq] at hx
    obtain ⟨_, rfl⟩ := hx
    have hlz : len ≤ ss.length := by rw [hsl]; split <;> omega
    have hnth : ∀ k, k < len → nth (ss.take len) k = ss.getD k ByteArray.empty := fun k hk => by
      rw [nth_eq (by rw [List.length_take]; omega), List.getElem_take, List.getD_eq_getElem?_getD, List.getElem?_eq_getElem (by omega)]; rfl
    refine ⟨some a, len, cap, ss.take len, hv, ⟨by rw [List.length_take]; omega, fun h0 => ?_⟩, Nat.le_trans hl hm, fun j hj => ?_⟩
    · obtain ⟨b, off, spot⟩ := a
      have hspot : spot = none := by simpa [Addr.add] using World.cell?_spot (hcell 0 (by omega))
      subst hspot
      refine ⟨b, off, rfl, Nat.zero_le _, World.block_lt_of_cell? W _ (hcell 0 (by omega)), fun k hk => ?_⟩
      have hc := hcell k (by omega)
      rw [add_plain] at hc
      have hf := hz b (off + k) (MemPlace.mem_row.2 ⟨k, by omega, rfl⟩)
      rw [hnth k hk]
      have : Cl W b (off + k) (.string (ss.getD k ByteArray.empty)) := ⟨hc, hf⟩
      simpa [strE] using this
    · rw [hnth j hj, List.getD_eq_getElem?_getD, List.getElem?_eq_getElem (by omega)]
      exact hsz _ (List.getElem_mem _)

def stepSz (s : Step) : Prop := s.name.size ≤ maxLen ∧ s.after.length ≤ maxLen ∧ ∀ j, j < s.after.length → (nth s.after j).size ≤ maxLen
def stepW (W : World) (a : Addr) (i : Nat) (s : Step) : Prop := W.cell? (a.add (i * 3 + 0)) = some (.string s.name) ∧ (∃ A n c, W.cell? (a.add (i * 3 + 1)) = some (.slice A n c) ∧ RStr W 0 A n s.after) ∧ W.cell? (a.add (i * 3 + 2)) = some (.bool s.undo)

/-- A list of steps that came in. -/
theorem open_stepS {H : Type} {enc : TypeId × Value → H} {W : World} {v : Value} {d : DataW H} {p : List MemPlace} {fuel : Nat}
    (h : DataW.trod enc Try.prog W 0 (fun _ => true) true fuel 22 [v] = some (d, p)) (hz : W.noneFrozen p) :
    ∃ A n c ss, v = .slice A n c ∧ RStep W 0 A n ss ∧ n ≤ maxLen ∧ ∀ j, j < n → stepSz (nth ss j) := by
  rcases open_slice_fields Try.underlying22 Try.underlying96 (by kernel_rfl) Try.cellsLStep h with ⟨hcs, hx⟩ | ⟨a, len, cap, m, D, Pl, hcs, _, hl, hm, hmm, hx, hi⟩
  · have hv : v = .slice none 0 0 := by simpa using hcs
    exact ⟨none, 0, 0, [], hv, RL.nil, by unfold maxLen; omega, fun j hj => absurd hj (by omega)⟩
  · have hv : v = .slice (some a) len cap := by simpa using hcs
    simp only [Prod.mk.injEq] at hx
    obtain ⟨_, rfl⟩ := hx
    have hlm : len ≤ m := by rw [hmm]; split <;> omega
    have each : ∀ i, ∃ s : Step, i < m → (stepW W a i s ∧ stepSz s) := fun i => by
      by_cases him : i < m
      · obtain ⟨ys, n, _, hpl, hyl, hf⟩ := hi i him
        obtain ⟨v0, y0, c0, e0, t0⟩ := hf 0 _ rfl
        obtain ⟨v1, y1, c1, e1, t1⟩ := hf 1 _ rfl
        obtain ⟨v2, y2, c2, e2, t2⟩ := hf 2 _ rfl
        obtain ⟨s, hs1, _, hs3⟩ := DataW.trod_string Try.underlying9 t0
        obtain ⟨u, hu1, _⟩ := DataW.trod_bool Try.underlying4 t2
        have hz1 : W.noneFrozen y1.2 := fun b off hb => hz b off (List.mem_append_right _ (List.mem_flatMap.2 ⟨i, List.mem_range.2 him, by rw [hpl]; exact List.mem_flatMap.2 ⟨y1, List.mem_of_getElem? e1, hb⟩⟩))
        obtain ⟨A, n1, k1, xs, hv1, hrs, hn1, hsz⟩ := open_strS (d := y1.1) (p := y1.2) t1 hz1
        have g0 : v0 = .string s := by simpa using hs1
        have g2 : v2 = .bool u := by simpa using hu1
        subst g0; subst g2; subst hv1
        exact ⟨⟨s, xs, u⟩, fun _ => ⟨⟨c0, ⟨A, n1, k1, c1, hrs⟩, c2⟩, hs3, by show xs.length ≤ _; rw [hrs.1]; exact hn1, fun j hj => hsz j (by rw [← hrs.1]; exact hj)⟩⟩
      · exact ⟨default, fun h => absurd h him⟩
    obtain ⟨G, hG⟩ : ∃ G : Nat → Step, ∀ i, i < m → (stepW W a i (G i) ∧ stepSz (G i)) := ⟨fun i => Classical.choose (each i), fun i => Classical.choose_spec (each i)⟩
    have hnth : ∀ k, k < len → nth ((List.range len).map G) k = G k := fun k hk => by rw [nth_eq (by simpa using hk)]; simp
    refine ⟨some a, len, cap, (List.range len).map G, hv, ⟨by simp, fun h0 => ?_⟩, Nat.le_trans hl hm, fun j hj => by rw [hnth j hj]; exact (hG j (by omega)).2⟩
    obtain ⟨b, off, spot⟩ := a
    have hspot : spot = none := by simpa [Addr.add] using World.cell?_spot (hG 0 (by omega)).1.1
    subst hspot
    refine ⟨b, off, rfl, Nat.zero_le _, World.block_lt_of_cell? W _ (hG 0 (by omega)).1.1, fun k hk => ?_⟩
    rw [hnth k hk]
    obtain ⟨⟨c0, ⟨A, n1, k1, c1, hrs⟩, c2⟩, _⟩ := hG k (by omega)
    rw [add_plain] at c0 c1 c2
    have hfr : ∀ j, j < 3 → W.frozen? ⟨b, off + (k * 3 + j), none⟩ = false := fun j hj => hz b (off + (k * 3 + j)) (List.mem_append_left _ (MemPlace.mem_row.2 ⟨k * 3 + j, (by
      show k * 3 + j < m * 3
      omega), rfl⟩))
    exact ⟨⟨c0, hfr 0 (by omega)⟩, ⟨A, n1, k1, ⟨c1, hfr 1 (by omega)⟩, hrs⟩, ⟨c2, hfr 2 (by omega)⟩⟩

set_option maxRecDepth 100000 in
/-- A flow that came in. -/
theorem open_flow {H : Type} {enc : TypeId × Value → H} {W : World} {base : Nat} {v : Value} {d : DataW H} {p : List MemPlace} {fuel : Nat} (hw : Value.okWide Try.prog W .any base 24 v)
    (h : DataW.trod enc Try.prog W 0 (fun _ => true) true fuel 24 (Value.cells v).toList = some (d, p)) (hz : W.noneFrozen p) :
    ∃ ver A n c ss, v = .agg #[.int .i64 ver, .slice A n c] ∧ RStep W 0 A n ss ∧ n ≤ maxLen ∧ ∀ j, j < n → stepSz (nth ss j) := by
  obtain ⟨cs, rfl, hcs⟩ := okWide_struct Try.underlying24 hw
  have h2 : cs.size = 2 := hcs.trans (by kernel_rfl)
  obtain ⟨x, y, rfl⟩ : ∃ x y, cs = #[x, y] := by
    obtain ⟨l⟩ := cs
    match l, h2 with
    | [x, y], _ => exact ⟨x, y, rfl⟩
  obtain ⟨ys, n, hx, hf⟩ := open_struct_fields Try.underlying24 (by kernel_rfl) h
  simp only [Prod.mk.injEq] at hx
  obtain ⟨_, rfl⟩ := hx
  obtain ⟨y0, e0, t0⟩ := hf 0 _ x rfl rfl
  obtain ⟨y1, e1, t1⟩ := hf 1 _ y rfl rfl
  obtain ⟨ver, hv1, _⟩ := DataW.trod_int Try.underlying3 t0
  have g0 : x = .int .i64 ver := by simpa using hv1
  subst g0
  obtain ⟨A, m, c, ss, hv, hr, hn, hsz⟩ := open_stepS (d := y1.1) (p := y1.2) t1 (fun b off hb => hz b off (List.mem_flatMap.2 ⟨y1, List.mem_of_getElem? e1, hb⟩))
  subst hv
  exact ⟨ver, A, m, c, ss, rfl, hr, hn, hsz⟩
end Go.Proofs.Ytfcbpgpmafmkhaa
