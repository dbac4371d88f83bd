/- Arguments opened: runs, lists of cases. -/
import Derived.Test.YtfcbpgpmafmkhaaOpenF
import Derived.Test.YtfcbpgpmafmkhaaC3
namespace Go.Proofs.Ytfcbpgpmafmkhaa
open Go.ChangeShapes Go.WideShapes Go.ChangeAt Go.RowKit Go.Deep

theorem Try.cellsLCase : Try.prog.cellsOf 88 = 3 := by kernel_rfl
theorem Try.cellsLRun : Try.prog.cellsOf 86 = 2 := by kernel_rfl
theorem Try.cellsStrS : Try.prog.cellsOf 42 = 1 := by kernel_rfl
theorem Try.cellsInt1 : Try.prog.cellsOf 3 = 1 := by kernel_rfl

/-- A field's list of names, with its capacity. -/
theorem open_strC {H : Type} {enc : TypeId × Value → H} {W : World} {v : Value} {d : DataW H} {p : List MemPlace} {fuel : Nat}
    (h : DataW.trod enc Try.prog W 0 (fun _ => true) true fuel 42 [v] = some (d, p)) (hz : W.noneFrozen p) :
    ∃ A n c xs, v = .slice A n c ∧ RStr W 0 A n xs ∧ n ≤ c ∧ n ≤ maxLen ∧ ∀ j, j < n → (nth xs j).size ≤ maxLen := by
  obtain ⟨A, n, c, xs, hv, hr, hn, hs⟩ := open_strS h hz
  refine ⟨A, n, c, xs, hv, hr, ?_, hn, hs⟩
  subst hv
  rcases open_strings Try.underlying42 Try.underlying9 Try.cellsStr h with ⟨hcs, _⟩ | ⟨a, len, cap, ss, hcs, _, hl, _⟩
  · simp at hcs
    obtain ⟨_, rfl, rfl⟩ := hcs
    exact Nat.le_refl _
  · simp at hcs
    obtain ⟨_, rfl, rfl⟩ := hcs
    exact hl

def caseW (W : World) (a : Addr) (i : Nat) (s : Case) : Prop := W.cell? (a.add (i * 3 + 0)) = some (.string s.name) ∧ W.cell? (a.add (i * 3 + 1)) = some (.int .i64 s.st) ∧ (∃ A n c, W.cell? (a.add (i * 3 + 2)) = some (.slice A n c) ∧ RStr W 0 A n s.done ∧ n ≤ c)

set_option maxRecDepth 100000 in
/-- A list of cases that came in. -/
theorem open_caseS {H : Type} {enc : TypeId × Value → H} {W : World} {v : Value} {d : DataW H} {p : List MemPlace} {fuel : Nat}
    (h : DataW.trod enc Try.prog W 0 (fun _ => true) true fuel 53 [v] = some (d, p)) (hz : W.noneFrozen p) :
    ∃ A n c ss, v = .slice A n c ∧ RCase W 0 A n ss ∧ n ≤ maxLen ∧ ∀ j, j < n → caseSz (nth ss j) := by
  rcases open_slice Try.underlying53 h with ⟨hcs, hx⟩ | ⟨a, len, cap, m, nn, D, Pl, hcs, _, hl, hm, hmm, hx, hi⟩
  · have hv : v = .slice none 0 0 := by simpa using hcs
    exact ⟨none, 0, 0, [], hv, RL.nil, by unfold maxLen; omega, fun j hj => absurd hj (by omega)⟩
  · have hv : v = .slice (some a) len cap := by simpa using hcs
    simp only [Prod.mk.injEq] at hx
    obtain ⟨_, rfl⟩ := hx
    have hlm : len ≤ m := by rw [hmm]; split <;> omega
    rw [Try.cellsLCase] at hi hz
    have each : ∀ i, ∃ s : Case, i < m → (caseW W a i s ∧ caseSz s) := fun i => by
      by_cases him : i < m
      · obtain ⟨cs', hc, ht⟩ := hi i him
        obtain ⟨_, hcl, hat⟩ := World.cells?_some hc
        obtain ⟨v0, v1, v2, rfl⟩ : ∃ v0 v1 v2, cs' = [v0, v1, v2] := by
          match cs', hcl with
          | [x, y, z], _ => exact ⟨x, y, z, rfl⟩
        obtain ⟨y0, y1, n1, hy, _, t0, t1⟩ := trod_struct2 Try.underlying88 ht
        simp only [Try.cellsStr, Try.cellsLRun, List.drop, List.take] at t0 t1
        obtain ⟨y2, y3, n2, hy2, _, t2, t3⟩ := trod_struct2 Try.underlying86 t1
        simp only [Try.cellsInt1, Try.cellsStrS, List.drop, List.take] at t2 t3
        simp only [Prod.mk.injEq] at hy
        obtain ⟨s, hs1, _, hs3⟩ := DataW.trod_string Try.underlying9 t0
        obtain ⟨st, hst, _⟩ := DataW.trod_int Try.underlying3 t2
        have hz1 : W.noneFrozen y3.2 := fun b off hb => hz b off (List.mem_append_right _ (List.mem_flatMap.2 ⟨i, List.mem_range.2 him, by rw [hy.2, hy2]; exact List.mem_append_right _ (List.mem_append_right _ hb)⟩))
        obtain ⟨A, n1, k1, xs, hv1, hrs, hcap, hn1, hsz⟩ := open_strC (d := y3.1) (p := y3.2) t3 hz1
        have g0 : v0 = .string s := by simpa using hs1
        have g1 : v1 = .int .i64 st := by simpa using hst
        subst g0; subst g1; subst hv1
        have c0 := hat 0 (by omega)
        have c1 := hat 1 (by omega)
        have c2 := hat 2 (by omega)
        rw [Go.Deep.add_add] at c0 c1 c2
        exact ⟨⟨s, st, xs⟩, fun _ => ⟨⟨c0, c1, ⟨A, n1, k1, c2, hrs, hcap⟩⟩, hs3, by show xs.length ≤ _; rw [hrs.1]; exact hn1, fun j hj => hsz j (by rw [← hrs.1]; exact hj)⟩⟩
      · exact ⟨default, fun h => absurd h him⟩
    obtain ⟨G, hG⟩ : ∃ G : Nat → Case, ∀ i, i < m → (caseW W a i (G i) ∧ caseSz (G i)) := ⟨fun i => Classical.choose (each i), fun i => Classical.choose_spec (each i)⟩
    have hnth : ∀ k, k < len → nth ((List.range len).map G) k = G k := fun k hk => by rw [nth_eq (by simpa using hk)]; simp
    refine ⟨some a, len, cap, (List.range len).map G, hv, ⟨by simp, fun h0 => ?_⟩, Nat.le_trans hl hm, fun j hj => by rw [hnth j hj]; exact (hG j (by omega)).2⟩
    obtain ⟨b, off, spot⟩ := a
    have hspot : spot = none := by simpa [Addr.add] using World.cell?_spot (hG 0 (by omega)).1.1
    subst hspot
    refine ⟨b, off, rfl, Nat.zero_le _, World.block_lt_of_cell? W _ (hG 0 (by omega)).1.1, fun k hk => ?_⟩
    rw [hnth k hk]
    obtain ⟨⟨c0, c1, ⟨A, n1, k1, c2, hrs, hcap⟩⟩, _⟩ := hG k (by omega)
    rw [add_plain] at c0 c1 c2
    have hfr : ∀ j, j < 3 → W.frozen? ⟨b, off + (k * 3 + j), none⟩ = false := fun j hj => hz b (off + (k * 3 + j)) (List.mem_append_left _ (MemPlace.mem_row.2 ⟨k * 3 + j, (by
      show k * 3 + j < m * 3
      omega), rfl⟩))
    exact ⟨⟨c0, hfr 0 (by omega)⟩, ⟨c1, hfr 1 (by omega)⟩, ⟨A, n1, k1, ⟨c2, hfr 2 (by omega)⟩, hrs, hcap⟩⟩

set_option maxRecDepth 100000 in
/-- A run that came in. -/
theorem open_run {H : Type} {enc : TypeId × Value → H} {W : World} {base : Nat} {v : Value} {d : DataW H} {p : List MemPlace} {fuel : Nat} (hw : Value.okWide Try.prog W .any base 86 v)
    (h : DataW.trod enc Try.prog W 0 (fun _ => true) true fuel 86 (Value.cells v).toList = some (d, p)) (hz : W.noneFrozen p) :
    ∃ st A n c xs, v = .agg #[.int .i64 st, .slice A n c] ∧ RStr W 0 A n xs ∧ n ≤ c ∧ n ≤ maxLen ∧ ∀ j, j < n → (nth xs j).size ≤ maxLen := by
  obtain ⟨cs, rfl, hcs⟩ := okWide_struct Try.underlying86 hw
  have h2 : cs.size = 2 := hcs.trans (by kernel_rfl)
  obtain ⟨x, y, rfl⟩ : ∃ x y, cs = #[x, y] := by
    obtain ⟨l⟩ := cs
    match l, h2 with
    | [x, y], _ => exact ⟨x, y, rfl⟩
  obtain ⟨ys, n, hx, hf⟩ := open_struct_fields Try.underlying86 (by kernel_rfl) h
  simp only [Prod.mk.injEq] at hx
  obtain ⟨_, rfl⟩ := hx
  obtain ⟨y0, e0, t0⟩ := hf 0 _ x rfl rfl
  obtain ⟨y1, e1, t1⟩ := hf 1 _ y rfl rfl
  obtain ⟨st, hv1, _⟩ := DataW.trod_int Try.underlying3 t0
  have g0 : x = .int .i64 st := by simpa using hv1
  subst g0
  obtain ⟨A, m, c, xs, hv, hr, hc, hn, hsz⟩ := open_strC (d := y1.1) (p := y1.2) t1 (fun b off hb => hz b off (List.mem_flatMap.2 ⟨y1, List.mem_of_getElem? e1, hb⟩))
  subst hv
  exact ⟨st, A, m, c, xs, rfl, hr, hc, hn, hsz⟩
end Go.Proofs.Ytfcbpgpmafmkhaa
