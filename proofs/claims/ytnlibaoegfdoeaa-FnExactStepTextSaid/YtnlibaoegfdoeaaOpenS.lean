/- Arguments opened: names, a step. -/
import Derived.Test.YtnlibaoegfdoeaaOpenG
import Derived.Test.YtnlibaoegfdoeaaPure1
import Derived.SliceStrings
namespace Go.Proofs.Ytnlibaoegfdoeaa
open Go.ChangeShapes Go.WideShapes Go.ChangeAt Go.RowKit Go.Deep

theorem Try.cellsStr : Try.prog.cellsOf 9 = 1 := by kernel_rfl

section
variable {H : Type} {enc : TypeId × Value → H} {P : Program} {w : World} {base : Nat} {spare : Nat → Bool} {held : Bool}
theorem open_struct_fields {t : TypeId} {fs : Array Field} {fuel : Nat} {cs : List Value} {x : DataW H × List MemPlace} (ht : P.underlying t = some (.struct fs)) (hone : oneCellFields P fs = true)
    (h : DataW.trod enc P w base spare held fuel t cs = some x) :
    ∃ (ys : List (DataW H × List MemPlace)) (n : Nat), x = (.agg (ys.map (·.1)), ys.flatMap (·.2)) ∧
      ∀ (j : Nat) (f : Field) (v : Value), fs[j]? = some f → cs[j]? = some v → ∃ y, ys[j]? = some y ∧ DataW.trod enc P w base spare held n f.type [v] = some y := by
  obtain ⟨ys, n, _, hx, _, hyl, hf⟩ := DataW.trod_struct ht h
  refine ⟨ys, n, hx, fun j f v hj hv => ?_⟩
  obtain ⟨ho, hk⟩ := hone_of hone j f hj
  have h1 := hf j f hj
  rw [ho, hk] at h1
  obtain ⟨hjl, hv'⟩ := List.getElem?_eq_some_iff.1 hv
  have h2 : (cs.drop j).take 1 = [v] := by
    rw [List.drop_eq_getElem_cons hjl, hv']
    rfl
  rw [h2] at h1
  have hjy : j < ys.length := by rw [hyl]; exact (Array.getElem?_eq_some_iff.1 hj).1
  exact ⟨ys[j], List.getElem?_eq_getElem hjy, h1.trans (List.getElem?_eq_getElem hjy)⟩
end

/-- A field's list of names. -/
theorem open_strS {H : Type} {enc : TypeId × Value → H} {W : World} {v : Value} {d : DataW H} {p : List MemPlace} {fuel : Nat}
    (h : DataW.trod enc Try.prog W 0 (fun _ => true) true fuel 27 [v] = some (d, p)) (hz : W.noneFrozen p) :
    ∃ A n c xs, v = .slice A n c ∧ RStr W 0 A n xs ∧ n ≤ maxLen ∧ ∀ j, j < n → (nth xs j).size ≤ maxLen := by
  rcases open_strings Try.underlying27 Try.underlying9 Try.cellsStr h with ⟨hcs, _⟩ | ⟨a, len, cap, ss, hcs, _, hl, hm, hsl, hx, hcell, hsz⟩
  · have hv : v = .slice none 0 0 := by simpa using hcs
    exact ⟨none, 0, 0, [], hv, RL.nil, by unfold maxLen; omega, fun j hj => absurd hj (by omega)⟩
  · have hv : v = .slice (some a) len cap := by simpa using hcs
    simp only [Prod.mk.injEq] at hx
    obtain ⟨_, rfl⟩ := hx
    have hlz : len ≤ ss.length := by rw [hsl]; split <;> omega
    have hnth : ∀ k, k < len → nth (ss.take len) k = ss.getD k ByteArray.empty := fun k hk => by
      rw [nth_eq (by rw [List.length_take]; omega), List.getElem_take, List.getD_eq_getElem?_getD, List.getElem?_eq_getElem (by omega)]; rfl
    refine ⟨some a, len, cap, ss.take len, hv, ⟨by rw [List.length_take]; omega, fun h0 => ?_⟩, Nat.le_trans hl hm, fun j hj => ?_⟩
    · obtain ⟨b, off, spot⟩ := a
      have hspot : spot = none := by simpa [Addr.add] using World.cell?_spot (hcell 0 (by omega))
      subst hspot
      refine ⟨b, off, rfl, Nat.zero_le _, World.block_lt_of_cell? W _ (hcell 0 (by omega)), fun k hk => ?_⟩
      have hc := hcell k (by omega)
      rw [add_plain] at hc
      have hf := hz b (off + k) (MemPlace.mem_row.2 ⟨k, by omega, rfl⟩)
      rw [hnth k hk]
      have : Cl W b (off + k) (.string (ss.getD k ByteArray.empty)) := ⟨hc, hf⟩
      simpa [strE] using this
    · rw [hnth j hj, List.getD_eq_getElem?_getD, List.getElem?_eq_getElem (by omega)]
      exact hsz _ (List.getElem_mem _)

set_option maxRecDepth 100000 in
/-- A step that came in. -/
theorem open_step {H : Type} {enc : TypeId × Value → H} {W : World} {base : Nat} {v : Value} {d : DataW H} {p : List MemPlace} {fuel : Nat} (hw : Value.okWide Try.prog W .any base 50 v)
    (h : DataW.trod enc Try.prog W 0 (fun _ => true) true fuel 50 (Value.cells v).toList = some (d, p)) (hz : W.noneFrozen p) :
    ∃ nm A n c xs u, v = .agg #[.string nm, .slice A n c, .bool u] ∧ RStr W 0 A n xs ∧ nm.size ≤ maxLen ∧ n ≤ maxLen ∧ ∀ j, j < n → (nth xs j).size ≤ maxLen := by
  obtain ⟨cs, rfl, hcs⟩ := okWide_struct Try.underlying50 hw
  have h2 : cs.size = 3 := hcs.trans (by kernel_rfl)
  obtain ⟨x, y, z, rfl⟩ : ∃ x y z, cs = #[x, y, z] := by
    obtain ⟨l⟩ := cs
    match l, h2 with
    | [x, y, z], _ => exact ⟨x, y, z, rfl⟩
  obtain ⟨ys, n, hx, hf⟩ := open_struct_fields Try.underlying50 (by kernel_rfl) h
  simp only [Prod.mk.injEq] at hx
  obtain ⟨_, rfl⟩ := hx
  obtain ⟨y0, e0, t0⟩ := hf 0 _ x rfl rfl
  obtain ⟨y1, e1, t1⟩ := hf 1 _ y rfl rfl
  obtain ⟨y2, e2, t2⟩ := hf 2 _ z rfl rfl
  obtain ⟨s, hs1, _, hs3⟩ := DataW.trod_string Try.underlying9 t0
  obtain ⟨u, hu1, _⟩ := DataW.trod_bool Try.underlying4 t2
  have g0 : x = .string s := by simpa using hs1
  have g2 : z = .bool u := by simpa using hu1
  subst g0; subst g2
  obtain ⟨A, m, c, xs, hv, hr, hn, hsz⟩ := open_strS (d := y1.1) (p := y1.2) t1 (fun b off hb => hz b off (List.mem_flatMap.2 ⟨y1, List.mem_of_getElem? e1, hb⟩))
  subst hv
  exact ⟨s, A, m, c, xs, u, rfl, hr, hs3, hn, hsz⟩
end Go.Proofs.Ytnlibaoegfdoeaa
