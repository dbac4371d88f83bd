/- FnFlowTextSame's card: it returns true at every input that its row takes, and leaves its arguments as they were. No condition but the row's. -/
import Derived.Deep.DeepCutAuto
import Derived.Test.YthdfefgianokgaaDoorCards
import Derived.Test.YthdfefgianokgaaDoorTie
import Derived.Test.YthdfefgianokgaaDoorZH
import Derived.Test.YthdfefgianokgaaDoorZA
import Derived.Test.YthdfefgianokgaaDoorZB
import Derived.Test.YthdfefgianokgaaDoorZC

/- FnFlowText: the walk. -/
namespace Go.Proofs.YthdfefgianokgaaDoor
open Go.RowKit

theorem lines_pos (v : Nat) (ss : List Step) : ∀ k, 0 < (linesS v ss k).size
  | 0 => by
    show 0 < (headS v).size
    unfold headS
    rw [bsz_app]; show 0 < _ + 1; omega
  | k + 1 => by
    have := lines_pos v ss k
    show 0 < (linesS v ss k ++ lineS (nth ss k)).size
    rw [bsz_app]; omega
theorem cnt_take {l : Bytes} {k : Nat} {b : UInt8} (hk : k < l.length) : (l.take (k + 1)).count b = (l.take k).count b + (if l[k] = b then 1 else 0) := by
  rw [List.take_add_one, List.count_append, List.getElem?_eq_getElem hk]
  congr 1
  simp [List.count_cons, beq_iff_eq]

set_option maxRecDepth 100000 in
set_option maxHeartbeats 1000000 in
theorem fnFlowText_any (A : Option Addr) (n c : Nat) (w : World) (hr : RByte w A n) (hc : n ≤ c) :
    Calls Tryd.prog 7 #[.slice A n c] w fun e w' => e = .returned (.bool true) ∧ Below w.heap.size w w' := by
  have HR := Lib.hid hr; clear hr
  by_cases hn : 1048576 < n
  · go_enter Tryd.func7, Tryd.ntmps7
    go_wp2_with fail
    go_ret
    exact ⟨rfl, Below.refl _ _⟩
  go_enter Tryd.func7, Tryd.ntmps7
  go_wp2_with fail
  refine (drawFlowText_any _ _ _ _ HR.out hc (by omega)).mono ?_
  rintro e w1 ⟨v, A1, n1, c1, ss, rfl, hs, hok, h1, h6, hb1, hcp⟩
  have HLn := Lib.hid (show ss.length = n1 from hs.1)
  have HS := Lib.hid (hs.alloc (.cells #[.int .i64 v, .slice A1 n1 c1] 38)); clear hs
  have HCP := Lib.hid (hcp.alloc (.cells #[.int .i64 v, .slice A1 n1 c1] 38)); clear hcp
  have HOK := Lib.hid hok; clear hok
  have HB1 := Lib.hid (hb1.alloc hb1.size (.cells #[.int .i64 v, .slice A1 n1 c1] 38)); clear hb1
  have HX := Lib.hid (heap_new (w := w1) (o := .cells #[.int .i64 v, .slice A1 n1 c1] 38) rfl)
  go_wp2_with fail
  refine (flowTextI_any _ _ _ ⟨v, ss⟩ _ _ HS.out HOK.out HCP.out).mono ?_
  rintro e w2 ⟨rfl, hb2⟩
  have HX2 := Lib.hid ((hb2.block w1.heap.size (by simp)).trans HX.out)
  have HB2 := Lib.hid (HB1.out.trans (hb2.mono HB1.out.size))
  have HS2 := Lib.hid (HS.out.below hb2)
  have HC2 := Lib.hid (HCP.out.below hb2)
  clear hb2
  have b1 := (blk_cl (k := 0) HX2.out rfl).1
  have b2 := (blk_cl (k := 1) HX2.out rfl).1
  go_wp2_with fail
  refine (flowTextS_any _ _ _ ⟨v, ss⟩ _ _ HS2.out HOK.out).mono ?_
  rintro e w3 ⟨rfl, hb3⟩
  have HX3 := Lib.hid ((hb3.block w1.heap.size (heap_lt HX2.out)).trans HX2.out)
  have HB3 := Lib.hid (HB2.out.trans (hb3.mono HB2.out.size))
  have HS3 := Lib.hid (HS2.out.below hb3)
  have HC3 := Lib.hid (HC2.out.below hb3)
  clear hb3 b1 b2 HX HS HCP HX2 HS2 HC2
  cases hf : flowB ⟨v, ss⟩
  · have hy : flowTextS ⟨v, ss⟩ = ⟨#[]⟩ := by unfold flowTextS; rw [if_neg (by rw [hf]; simp)]
    rw [hy]
    clear hy hf
    go_wp2_with fail
    go_ret
    exact ⟨rfl, HB3.out⟩
  obtain ⟨u, hu, hu2⟩ := flow_ver hf
  have HST := Lib.hid (flow_step_ok hf)
  have HL1 := Lib.hid (show linesS u ss n1 = linesS u ss (n1 - 1) ++ lineS (nth ss (n1 - 1)) by
    obtain ⟨k, rfl⟩ : ∃ k, n1 = k + 1 := ⟨n1 - 1, by omega⟩
    rfl)
  have HY := Lib.hid (show flowTextS ⟨v, ss⟩ = linesS u ss n1 by unfold flowTextS; rw [if_pos hf]; show linesS v.toNat ss ss.length = _; rw [HLn.out]; have : v = (u : Int) := hu; rw [this]; rfl)
  have HCN := Lib.hid (lines_cnt hu2 n1 (fun j hj => HST.out j (by show j < ss.length; rw [HLn.out]; exact hj)))
  have hsz := lines_size hu2 n1 (fun j hj => HST.out j (by show j < ss.length; rw [HLn.out]; exact hj))
  have hps := lines_pos u ss n1
  have HLAST := Lib.hid (HST.out (n1 - 1) (by show n1 - 1 < ss.length; rw [HLn.out]; omega))
  have hls := stepS_small HLAST.out
  rw [HY.out]
  have HTL := Lib.hid (ext_tail (linesS u ss (n1 - 1)) (lineS (nth ss (n1 - 1))))
  rw [← HL1.out] at HTL
  have hle : (lineS (nth ss (n1 - 1))).size ≤ (linesS u ss n1).size := by rw [HL1.out, bsz_app]; omega
  have hln : (lineS (nth ss (n1 - 1))).size = (stepS (nth ss (n1 - 1))).size + 1 := by unfold lineS; rw [bsz_app]; rfl
  clear hu hu2 hf HL1 HY
  obtain ⟨ln, hlnE⟩ : ∃ ln, ln = lineS (nth ss (n1 - 1)) := ⟨_, rfl⟩
  rw [← hlnE] at HTL hle hln
  have HLNE := Lib.hid hlnE; clear hlnE
  generalize linesS u ss n1 = z at *
  have q0 : (z.toList != z.toList) = false := by simp
  have q1 := ne_empty hps
  have hbz : (bs z).length = z.size := bs_len z
  go_wp2_with fail
  go_loop [6, 7] (fun m i => ∃ k : Nat, k ≤ z.size ∧ i = .int .i64 (k : Int) ∧ m = .int .i64 (((bs z).take k).count 10 : Nat)) (fun _ i => z.size - (intOf i).toNat)
  case atStart => exact ⟨0, Nat.zero_le _, rfl, rfl⟩
  case round =>
    obtain ⟨k, hk, rfl, rfl⟩ := hrel
    by_cases hlt : k < z.size
    · have hkb : k < (bs z).length := by omega
      have hcl : ((bs z).take k).count 10 ≤ k := Nat.le_trans List.count_le_length (List.length_take_le _ _)
      have HCT := Lib.hid (cnt_take (b := 10) hkb)
      obtain ⟨x, hx⟩ : ∃ x, z[k]'hlt = x := ⟨_, rfl⟩
      have hxb : (bs z)[k]'hkb = x := hx
      rw [hxb] at HCT
      clear hxb
      generalize ((bs z).take k).count 10 = m at *
      by_cases he : x = 10
      · have hq : ((x.toNat : Int) == 10) = true := by rw [he]; rfl
        have HC' := Lib.hid (HCT.out.trans (by rw [if_pos he]))
        clear he HCT
        go_wp2_with fail
        go_round
        case rel => exact ⟨k + 1, by omega, by go_num, by rw [HC'.out]; go_num⟩
        case measure => simp [intOf]; omega
      · have hq : ((x.toNat : Int) == 10) = false := by
          rw [beq_eq_false_iff_ne]
          intro e
          exact he (UInt8.toNat_inj.1 (by show x.toNat = 10; omega))
        have HC' := Lib.hid (HCT.out.trans (by rw [if_neg he]))
        clear he HCT
        go_wp2_with fail
        go_round
        case rel => exact ⟨k + 1, by omega, by go_num, by rw [HC'.out]; go_num⟩
        case measure => simp [intOf]; omega
    · obtain rfl : k = z.size := by omega
      rw [List.take_of_length_le (by omega), HCN.out]
      obtain ⟨b, off, rfl, ⟨_, hbr⟩, hcs⟩ := RStep.at_ HS3.out (k := n1 - 1) (by omega)
      obtain ⟨A', n', c', ⟨c1', c2', c3'⟩, ha, _⟩ := hcs (n1 - 1) (by omega)
      clear hcs
      have HLE := Lib.hid (HC3.out.le (by omega) c2')
      have HA := Lib.hid ha; clear ha
      have b2 := (blk_cl (k := 1) HX3.out rfl).1
      have hw1 : IntKind.i64.wrap ((n1 : Int) - 1) = ((n1 - 1 : Nat) : Int) := by rw [IntWalk.i64_in _ (by omega)]; omega
      have hn1 : ((n1 - 1 : Nat) : Int) < (n1 : Int) := by omega
      have hn0 : (0 : Int) ≤ ((n1 - 1 : Nat) : Int) := by omega
      have hn2 : ((n1 - 1 : Nat) : Int).toNat = n1 - 1 := by omega
      have HT := Lib.hid (show textS (nth ss (n1 - 1)) ++ (⟨#[10]⟩ : Str) = ln by unfold textS; rw [if_pos HLAST.out, HLNE.out]; rfl)
      go_wp2_with fail
      refine (stepTextI_any _ _ _ (nth ss (n1 - 1)) _ _ HA.out (HOK.out.2 (n1 - 1) (by rw [HLn.out]; omega)) HLE.out).mono ?_
      rintro e w4 ⟨rfl, hb4⟩
      have HX4 := Lib.hid ((hb4.block w1.heap.size (heap_lt HX3.out)).trans HX3.out)
      have HB4 := Lib.hid (HB3.out.trans (hb4.mono HB3.out.size)); clear hb4 c1' c2' c3' b2 hw1 hn1 hn0 hn2
      have b2 := (blk_cl (k := 1) HX4.out rfl).1
      have hq3 : (((n1 + 1 : Nat) : Int) == (n1 : Int) + 1) = true := by rw [beq_iff_eq]; omega
      have hlnn : textS (nth ss (n1 - 1)) ++ (⟨#[10]⟩ : Str) = ln := HT.out
      have hts : (textS (nth ss (n1 - 1))).size ≤ 100 := by unfold textS; rw [if_pos HLAST.out]; exact hls.1
      go_wp2_with fail
      have hfin : (z.extract (z.size - ((stepS (nth ss (n1 - 1))).size + 1)) z.size).toList == ln.toList := by rw [← hln, HTL.out]; simp
      rw [hfin]
      go_ret
      exact ⟨rfl, HB4.out⟩
end Go.Proofs.YthdfefgianokgaaDoor

/- A list of steps appended to an empty one. -/
namespace Go.Proofs.YthdfefgianokgaaDoor
open Go.RowKit

theorem sz_le (w : World) (o : Obj) : w.heap.size ≤ (w.alloc o).heap.size := by simp
theorem news_step {w : World} {lo hi m : Nat} {A : Option Addr} {ss : List Step} (hr : RH stepE w lo hi A m ss) :
    ∃ ps : List (Step × Value), ps.map (·.1) = ss ∧ (0 < m → ∃ ad, A = some ad ∧ ∀ j u, (ps.flatMap pcells)[j]? = some u → w.cell? (ad.add j) = some u) ∧
      ∀ p ∈ ps, ∃ A' n' c', p.2 = .slice A' n' c' ∧ RH strE w lo hi A' n' p.1.after := by
  have each : ∀ j : Nat, ∃ v : Value, j < m → ∀ b off, A = some ⟨b, off, none⟩ → (∃ A' n' c', v = .slice A' n' c' ∧ RH strE w lo hi A' n' (nth ss j).after) ∧
      w.cell? ⟨b, off + j * 3, none⟩ = some (.string (nth ss j).name) ∧ w.cell? ⟨b, off + j * 3 + 1, none⟩ = some v ∧ w.cell? ⟨b, off + j * 3 + 2, none⟩ = some (.bool (nth ss j).undo) := by
    intro j
    by_cases hj : j < m
    · obtain ⟨b, off, e, _, hc⟩ := RStep.hat hr hj
      obtain ⟨A', n', c', ⟨c1, c2, c3⟩, h5, _⟩ := hc j hj
      refine ⟨.slice A' n' c', fun _ b' off' e' => ?_⟩
      rw [e] at e'
      injection e' with e'; injection e' with e1 e2
      subst e1; subst e2
      exact ⟨⟨A', n', c', rfl, h5⟩, c1, c2, c3⟩
    · exact ⟨undef, fun h => absurd h hj⟩
  obtain ⟨V, hV⟩ : ∃ V : Nat → Value, ∀ j, j < m → ∀ b off, A = some ⟨b, off, none⟩ → (∃ A' n' c', V j = .slice A' n' c' ∧ RH strE w lo hi A' n' (nth ss j).after) ∧
      w.cell? ⟨b, off + j * 3, none⟩ = some (.string (nth ss j).name) ∧ w.cell? ⟨b, off + j * 3 + 1, none⟩ = some (V j) ∧ w.cell? ⟨b, off + j * 3 + 2, none⟩ = some (.bool (nth ss j).undo) :=
    ⟨fun j => Classical.choose (each j), fun j => Classical.choose_spec (each j)⟩
  have hl := hr.1
  refine ⟨(List.range m).map fun j => (nth ss j, V j), ?_, fun hm => ?_, fun p hp => ?_⟩
  · refine list_ext (by simp [hl]) fun j hj => ?_
    have hj' : j < m := by simpa using hj
    rw [nth_eq hj]; simp
  · obtain ⟨b, off, e, _, _, _⟩ := hr.2 hm
    refine ⟨_, e, fun j u hu => ?_⟩
    have hlen : ((List.range m).map fun j => (nth ss j, V j)).length = m := by simp
    have hj : j < m * 3 := by
      rcases Nat.lt_or_ge j (m * 3) with h | h
      · exact h
      · rw [List.getElem?_eq_none (by rw [flat_len pcells_len, hlen]; exact h)] at hu; cases hu
    obtain ⟨_, h1, h2, h3⟩ := hV (j / 3) (by omega) b off e
    have e2 := flat_at (α := Step × Value) (f := pcells) pcells_len ((List.range m).map fun j => (nth ss j, V j)) (j / 3) (j % 3) (by rw [hlen]; omega) (Nat.mod_lt _ (by omega))
    have e3 : j / 3 * 3 + j % 3 = j := by omega
    rw [e3] at e2
    have e4 : nth ((List.range m).map fun j => (nth ss j, V j)) (j / 3) = (nth ss (j / 3), V (j / 3)) := by rw [nth_eq (by rw [hlen]; omega)]; simp
    rw [e4] at e2
    rw [e2] at hu
    have e5 : (⟨b, off, none⟩ : Addr).add j = ⟨b, off + j, none⟩ := by unfold Addr.add; split <;> simp_all
    rw [e5]
    have h4 : j % 3 = 0 ∨ j % 3 = 1 ∨ j % 3 = 2 := by omega
    rcases h4 with h4 | h4 | h4
    · rw [h4] at hu
      have : u = .string (nth ss (j / 3)).name := by simpa [pcells] using hu.symm
      rw [this, ← h1]; congr 2; omega
    · rw [h4] at hu
      have : u = V (j / 3) := by simpa [pcells] using hu.symm
      rw [this, ← h2]; congr 2; omega
    · rw [h4] at hu
      have : u = .bool (nth ss (j / 3)).undo := by simpa [pcells] using hu.symm
      rw [this, ← h3]; congr 2; omega
  · obtain ⟨j, hj, rfl⟩ := List.mem_map.1 hp
    have hj' : j < m := List.mem_range.1 hj
    obtain ⟨b, off, e, _, _, _⟩ := hr.2 (by omega)
    exact (hV j hj' b off e).1

theorem ps_hat {w : World} {base lo : Nat} {v : Value} {n : Nat} {ps : List (Step × Value)} (h1 : w.ownsRow base 25 3 v n (ps.flatMap pcells)) (h2 : ∀ p ∈ ps, ∃ A m c, p.2 = .slice A m c ∧ RH strE w lo base A m p.1.after) (hlo : lo ≤ base) (hn : 0 < n) (hbase : base ≤ w.heap.size) :
    ∃ b c, v = .slice (some ⟨b, 0, none⟩) n c ∧ base ≤ b ∧ RStep w lo (some ⟨b, 0, none⟩) n (ps.map (·.1)) := by
  have hl : ps.length = n := by have := h1.1; rw [flat_len pcells_len] at this; omega
  obtain ⟨A, c, hv, hf⟩ := own_form h1
  obtain ⟨b, e1, b1, b2, hc⟩ := hf hn
  subst e1
  refine ⟨b, c, hv, b1, by rw [List.length_map]; exact hl, fun _ => ⟨b, 0, rfl, by omega, b2, fun k hk => ?_⟩⟩
  have h3 : ∀ i u, i < 3 → (pcells (ps[k]'(by omega)))[i]? = some u → Cl w b (0 + k * 3 + i) u := fun i u hi hu => by
    have e2 := flat_at (α := Step × Value) (f := pcells) pcells_len ps k i (by omega) hi
    rw [nth_eq (by omega)] at e2
    have := hc (k * 3 + i) u (by rw [e2]; exact hu)
    rwa [Nat.zero_add]
  obtain ⟨A', m, c', e2, h4⟩ := h2 (ps[k]'(by omega)) (List.getElem_mem _)
  have e3 : nth (ps.map (·.1)) k = (ps[k]'(by omega)).1 := by rw [nth_eq (by rw [List.length_map]; omega)]; simp
  rw [e3]
  exact ⟨h3 0 _ (by omega) rfl, ⟨A', m, c', by have := h3 1 _ (by omega) rfl; rw [e2] at this; exact this, h4.up hbase⟩, h3 2 _ (by omega) rfl⟩

/-- A row of steps of the call's own whose lists lie below. -/
def HRow (w : World) (base lo : Nat) (v : Value) (n : Nat) (ss : List Step) : Prop :=
  ∃ ps : List (Step × Value), ps.map (·.1) = ss ∧ w.ownsRow base 25 3 v n (ps.flatMap pcells) ∧ ∀ p ∈ ps, ∃ A m c, p.2 = .slice A m c ∧ RH strE w lo base A m p.1.after
theorem HRow.alloc {w : World} {base lo n : Nat} {v : Value} {ss : List Step} (h : HRow w base lo v n ss) (hb : base ≤ w.heap.size) (o : Obj) : HRow (w.alloc o) base lo v n ss := by
  obtain ⟨ps, e, h1, h2⟩ := h
  refine ⟨ps, e, h1.alloc o, fun p hp => ?_⟩
  obtain ⟨A, m, c, e2, h3⟩ := h2 p hp
  exact ⟨A, m, c, e2, h3.below ((Below.refl base w).alloc hb o) (Nat.le_refl _)⟩
theorem HRow.set {w : World} {base lo n b o : Nat} {v u : Value} {ss : List Step} {cs : Array Value} {t : TypeId} (h : HRow w base lo v n ss) (hb : w.heap[b]? = some (.cells cs t (0, 0))) (ht : 25 ≠ t) (hle : base ≤ b) : HRow (w.setCell ⟨b, o, none⟩ u) base lo v n ss := by
  obtain ⟨ps, e, h1, h2⟩ := h
  refine ⟨ps, e, row_set h1 hb ht, fun p hp => ?_⟩
  obtain ⟨A, m, c, e2, h3⟩ := h2 p hp
  exact ⟨A, m, c, e2, h3.below ((Below.refl base w).setCell (p := ⟨b, o, none⟩) hle u) (Nat.le_refl _)⟩
theorem HRow.hat {w : World} {base lo n : Nat} {b c : Nat} {ss : List Step} (h : HRow w base lo (.slice (some ⟨b, 0, none⟩) n c) n ss) (hlo : lo ≤ base) (hn : 0 < n) (hbase : base ≤ w.heap.size) : RStep w lo (some ⟨b, 0, none⟩) n ss := by
  obtain ⟨ps, rfl, h1, h2⟩ := h
  obtain ⟨b', c', e, _, h3⟩ := ps_hat h1 h2 hlo hn hbase
  injection e with e1
  injection e1 with e2; injection e2 with e3
  subst e3
  exact h3
theorem step_new {w : World} {base b : Nat} (hb : base ≤ w.heap.size) (e : b = w.heap.size) : (w.alloc (.cells #[] 25)).ownsRow base 25 3 (.slice (some ⟨b, 0, none⟩) 0 0) 0 [] := by
  subst e
  exact World.ownsRow_made w #[] 0 hb (Nat.zero_le _) rfl

/-- 'append([]Step{}, steps...)', one step of a region. -/
theorem steps_step {w : World} {ops : Array Oper} {o : Oper} {a : Act} {K : Act → World → Prop} {Q : Exit → Act → World → Prop} {E : Prop} (base lo : Nat) (v : Value) (A : Option Addr) (m c : Nat) (ss : List Step) (hown : w.ownsRow base 25 3 v 0 [])
    (hr : RH stepE w lo base A m ss) (hgd : o.guard = none) (l x : Operand) (ho : o.op = .call { callee := .builtin .append, args := #[l, x], argTypes := #[36, 36] })
    (hs : a.eval l = v) (hx : a.eval x = .slice A m c) (hm : 0 < m) (hn : m ≤ 1048576) (hlo : lo ≤ base) (hbase : base ≤ w.heap.size)
    (h : ∀ b c' w', HRow w' base lo (.slice (some ⟨b, 0, none⟩) m c') m ss → base ≤ b → w.grownBy w' v.ownBlock → Below base w w' → K (a.put o.dst (.slice (some ⟨b, 0, none⟩) m c')) w') :
    if Region.wanted o (yielded ops a.tmps) = true then Oper.wp Tryd.prog o a w K Q else E := by
  have hw : Region.wanted o (yielded ops a.tmps) = true := by simp [Region.wanted, hgd]
  rw [if_pos hw]
  obtain ⟨ps, e, h1, h2⟩ := news_step hr
  have hpl : ps.length = m := by rw [← hr.1, ← e, List.length_map]
  refine wappl 36 25 3 48 _ Tryd.underlying36 info_step rfl (by omega) (by omega) base v 0 [] (ps.flatMap pcells) A m c hown l x ho hs hx (by rw [flat_len pcells_len, hpl]) h1 ?_ (by omega) hbase fun v' w' h3 h4 _ => ?_
  · intro u hu
    obtain ⟨p, hp, hu⟩ := List.mem_flatMap.1 hu
    obtain ⟨A', n', c', e2, _⟩ := h2 p hp
    simp [pcells, e2] at hu
    rcases hu with rfl | rfl | rfl <;> rfl
  · rw [Nat.zero_add, List.nil_append] at h3
    have hbel : Below base w w' := (Below.refl base w).grown h4 hbase (fun k hk => (hown.lt k hk).1)
    have h6 : ∀ p ∈ ps, ∃ A m c, p.2 = .slice A m c ∧ RH strE w' lo base A m p.1.after := fun p hp => by
      obtain ⟨A', n', c', e2, h5⟩ := h2 p hp
      exact ⟨A', n', c', e2, h5.below hbel (Nat.le_refl _)⟩
    obtain ⟨b, c', ev, hb, _⟩ := ps_hat h3 h6 hlo hm (Nat.le_trans hbase h4.size)
    subst ev
    exact h b c' w' ⟨ps, e, h3, h6⟩ hb h4 hbel
end Go.Proofs.YthdfefgianokgaaDoor

/- A list of steps, their lists with room, appended to an empty one. -/
namespace Go.Proofs.YthdfefgianokgaaDoor
open Go.RowKit

theorem news_stepC {w : World} {lo hi m : Nat} {A : Option Addr} {ss : List Step} (hr : RH stepE w lo hi A m ss) (hcap : CapS w A m) :
    ∃ ps : List (Step × Value), ps.map (·.1) = ss ∧ (0 < m → ∃ ad, A = some ad ∧ ∀ j u, (ps.flatMap pcells)[j]? = some u → w.cell? (ad.add j) = some u) ∧
      ∀ p ∈ ps, ∃ A' n' c', p.2 = .slice A' n' c' ∧ RH strE w lo hi A' n' p.1.after ∧ n' ≤ c' := by
  have each : ∀ j : Nat, ∃ v : Value, j < m → ∀ b off, A = some ⟨b, off, none⟩ → (∃ A' n' c', v = .slice A' n' c' ∧ RH strE w lo hi A' n' (nth ss j).after ∧ n' ≤ c') ∧
      w.cell? ⟨b, off + j * 3, none⟩ = some (.string (nth ss j).name) ∧ w.cell? ⟨b, off + j * 3 + 1, none⟩ = some v ∧ w.cell? ⟨b, off + j * 3 + 2, none⟩ = some (.bool (nth ss j).undo) := by
    intro j
    by_cases hj : j < m
    · obtain ⟨b, off, e, _, hc⟩ := RStep.hat hr hj
      obtain ⟨A', n', c', ⟨c1, c2, c3⟩, h5, _⟩ := hc j hj
      refine ⟨.slice A' n' c', fun _ b' off' e' => ?_⟩
      rw [e] at e'
      injection e' with e'; injection e' with e1 e2
      subst e1; subst e2
      exact ⟨⟨A', n', c', rfl, h5, by subst e; exact hcap.le hj c2⟩, c1, c2, c3⟩
    · exact ⟨undef, fun h => absurd h hj⟩
  obtain ⟨V, hV⟩ : ∃ V : Nat → Value, ∀ j, j < m → ∀ b off, A = some ⟨b, off, none⟩ → (∃ A' n' c', V j = .slice A' n' c' ∧ RH strE w lo hi A' n' (nth ss j).after ∧ n' ≤ c') ∧
      w.cell? ⟨b, off + j * 3, none⟩ = some (.string (nth ss j).name) ∧ w.cell? ⟨b, off + j * 3 + 1, none⟩ = some (V j) ∧ w.cell? ⟨b, off + j * 3 + 2, none⟩ = some (.bool (nth ss j).undo) :=
    ⟨fun j => Classical.choose (each j), fun j => Classical.choose_spec (each j)⟩
  have hl := hr.1
  refine ⟨(List.range m).map fun j => (nth ss j, V j), ?_, fun hm => ?_, fun p hp => ?_⟩
  · refine list_ext (by simp [hl]) fun j hj => ?_
    have hj' : j < m := by simpa using hj
    rw [nth_eq hj]; simp
  · obtain ⟨b, off, e, _, _, _⟩ := hr.2 hm
    refine ⟨_, e, fun j u hu => ?_⟩
    have hlen : ((List.range m).map fun j => (nth ss j, V j)).length = m := by simp
    have hj : j < m * 3 := by
      rcases Nat.lt_or_ge j (m * 3) with h | h
      · exact h
      · rw [List.getElem?_eq_none (by rw [flat_len pcells_len, hlen]; exact h)] at hu; cases hu
    obtain ⟨_, h1, h2, h3⟩ := hV (j / 3) (by omega) b off e
    have e2 := flat_at (α := Step × Value) (f := pcells) pcells_len ((List.range m).map fun j => (nth ss j, V j)) (j / 3) (j % 3) (by rw [hlen]; omega) (Nat.mod_lt _ (by omega))
    have e3 : j / 3 * 3 + j % 3 = j := by omega
    rw [e3] at e2
    have e4 : nth ((List.range m).map fun j => (nth ss j, V j)) (j / 3) = (nth ss (j / 3), V (j / 3)) := by rw [nth_eq (by rw [hlen]; omega)]; simp
    rw [e4] at e2
    rw [e2] at hu
    have e5 : (⟨b, off, none⟩ : Addr).add j = ⟨b, off + j, none⟩ := by unfold Addr.add; split <;> simp_all
    rw [e5]
    have h4 : j % 3 = 0 ∨ j % 3 = 1 ∨ j % 3 = 2 := by omega
    rcases h4 with h4 | h4 | h4
    · rw [h4] at hu
      have : u = .string (nth ss (j / 3)).name := by simpa [pcells] using hu.symm
      rw [this, ← h1]; congr 2; omega
    · rw [h4] at hu
      have : u = V (j / 3) := by simpa [pcells] using hu.symm
      rw [this, ← h2]; congr 2; omega
    · rw [h4] at hu
      have : u = .bool (nth ss (j / 3)).undo := by simpa [pcells] using hu.symm
      rw [this, ← h3]; congr 2; omega
  · obtain ⟨j, hj, rfl⟩ := List.mem_map.1 hp
    have hj' : j < m := List.mem_range.1 hj
    obtain ⟨b, off, e, _, _, _⟩ := hr.2 (by omega)
    exact (hV j hj' b off e).1

/-- A row of steps of the call's own whose lists lie below. -/
def HRowC (w : World) (base lo : Nat) (v : Value) (n : Nat) (ss : List Step) : Prop :=
  ∃ ps : List (Step × Value), ps.map (·.1) = ss ∧ w.ownsRow base 25 3 v n (ps.flatMap pcells) ∧ ∀ p ∈ ps, ∃ A m c, p.2 = .slice A m c ∧ RH strE w lo base A m p.1.after ∧ m ≤ c
theorem HRowC.alloc {w : World} {base lo n : Nat} {v : Value} {ss : List Step} (h : HRowC w base lo v n ss) (hb : base ≤ w.heap.size) (o : Obj) : HRowC (w.alloc o) base lo v n ss := by
  obtain ⟨ps, e, h1, h2⟩ := h
  refine ⟨ps, e, h1.alloc o, fun p hp => ?_⟩
  obtain ⟨A, m, c, e2, h3, h4⟩ := h2 p hp
  exact ⟨A, m, c, e2, h3.below ((Below.refl base w).alloc hb o) (Nat.le_refl _), h4⟩
theorem HRowC.set {w : World} {base lo n b o : Nat} {v u : Value} {ss : List Step} {cs : Array Value} {t : TypeId} (h : HRowC w base lo v n ss) (hb : w.heap[b]? = some (.cells cs t (0, 0))) (ht : 25 ≠ t) (hle : base ≤ b) : HRowC (w.setCell ⟨b, o, none⟩ u) base lo v n ss := by
  obtain ⟨ps, e, h1, h2⟩ := h
  refine ⟨ps, e, row_set h1 hb ht, fun p hp => ?_⟩
  obtain ⟨A, m, c, e2, h3, h4⟩ := h2 p hp
  exact ⟨A, m, c, e2, h3.below ((Below.refl base w).setCell (p := ⟨b, o, none⟩) hle u) (Nat.le_refl _), h4⟩
theorem HRowC.row {w : World} {base lo n : Nat} {v : Value} {ss : List Step} (h : HRowC w base lo v n ss) : HRow w base lo v n ss := by
  obtain ⟨ps, e, h1, h2⟩ := h
  refine ⟨ps, e, h1, fun p hp => ?_⟩
  obtain ⟨A, m, c, e2, h3, _⟩ := h2 p hp
  exact ⟨A, m, c, e2, h3⟩
theorem HRowC.caps {w : World} {base lo n c : Nat} {A : Option Addr} {ss : List Step} (h : HRowC w base lo (.slice A n c) n ss) : CapS w A n := by
  obtain ⟨ps, rfl, h1, h2⟩ := h
  have hl : ps.length = n := by have := h1.1; rw [flat_len pcells_len] at this; omega
  obtain ⟨A0, c0, hv, hf⟩ := own_form h1
  injection hv with hv1 _ _
  subst hv1
  intro b off e k hk
  obtain ⟨b1, e1, _, _, hc⟩ := hf (by omega)
  rw [e] at e1
  injection e1 with e1; injection e1 with e1 e2
  subst e1; subst e2
  have e2 := flat_at (α := Step × Value) (f := pcells) pcells_len ps k 1 (by omega) (by omega)
  rw [nth_eq (by omega)] at e2
  have h3 := (hc (k * 3 + 1) _ (by rw [e2]; rfl)).1
  obtain ⟨A', m, c', e4, _, h5⟩ := h2 (ps[k]'(by omega)) (List.getElem_mem _)
  rw [e4] at h3
  exact ⟨A', m, c', by rw [Nat.zero_add]; exact h3, h5⟩
/-- 'append([]Step{}, steps...)', one step of a region. -/
theorem steps_stepC {w : World} {ops : Array Oper} {o : Oper} {a : Act} {K : Act → World → Prop} {Q : Exit → Act → World → Prop} {E : Prop} (base lo : Nat) (v : Value) (A : Option Addr) (m c : Nat) (ss : List Step) (hown : w.ownsRow base 25 3 v 0 [])
    (hr : RH stepE w lo base A m ss) (hcap : CapS w A m) (hgd : o.guard = none) (l x : Operand) (ho : o.op = .call { callee := .builtin .append, args := #[l, x], argTypes := #[36, 36] })
    (hs : a.eval l = v) (hx : a.eval x = .slice A m c) (hm : 0 < m) (hn : m ≤ 1048576) (hlo : lo ≤ base) (hbase : base ≤ w.heap.size)
    (h : ∀ b c' w', HRowC w' base lo (.slice (some ⟨b, 0, none⟩) m c') m ss → base ≤ b → w.grownBy w' v.ownBlock → Below base w w' → K (a.put o.dst (.slice (some ⟨b, 0, none⟩) m c')) w') :
    if Region.wanted o (yielded ops a.tmps) = true then Oper.wp Tryd.prog o a w K Q else E := by
  have hw : Region.wanted o (yielded ops a.tmps) = true := by simp [Region.wanted, hgd]
  rw [if_pos hw]
  obtain ⟨ps, e, h1, h2⟩ := news_stepC hr hcap
  have hpl : ps.length = m := by rw [← hr.1, ← e, List.length_map]
  refine wappl 36 25 3 48 _ Tryd.underlying36 info_step rfl (by omega) (by omega) base v 0 [] (ps.flatMap pcells) A m c hown l x ho hs hx (by rw [flat_len pcells_len, hpl]) h1 ?_ (by omega) hbase fun v' w' h3 h4 _ => ?_
  · intro u hu
    obtain ⟨p, hp, hu⟩ := List.mem_flatMap.1 hu
    obtain ⟨A', n', c', e2, _⟩ := h2 p hp
    simp [pcells, e2] at hu
    rcases hu with rfl | rfl | rfl <;> rfl
  · rw [Nat.zero_add, List.nil_append] at h3
    have hbel : Below base w w' := (Below.refl base w).grown h4 hbase (fun k hk => (hown.lt k hk).1)
    have h6 : ∀ p ∈ ps, ∃ A m c, p.2 = .slice A m c ∧ RH strE w' lo base A m p.1.after ∧ m ≤ c := fun p hp => by
      obtain ⟨A', n', c', e2, h5, h8⟩ := h2 p hp
      exact ⟨A', n', c', e2, h5.below hbel (Nat.le_refl _), h8⟩
    obtain ⟨b, c', ev, hb, _⟩ := ps_hat h3 (fun p hp => (h6 p hp).imp fun _ ⟨m, c, e1, e2, _⟩ => ⟨m, c, e1, e2⟩) hlo hm (Nat.le_trans hbase h4.size)
    subst ev
    exact h b c' w' ⟨ps, e, h3, h6⟩ hb h4 hbel
end Go.Proofs.YthdfefgianokgaaDoor

/- FnFlowTextSame: the walk. -/
namespace Go.Proofs.YthdfefgianokgaaDoor
open Go.RowKit

theorem flip0_cons {ss : List Step} (h : 0 < ss.length) : flip0 ss = ss.set 0 { nth ss 0 with undo := !(nth ss 0).undo } := by
  cases ss with
  | nil => simp at h
  | cons s r => rfl
theorem flip0_ok {ss : List Step} (h : okSteps ss) : okSteps (flip0 ss) := by
  refine ⟨by rw [flip0_len]; exact h.1, fun j hj => ?_⟩
  rw [flip0_len] at hj
  obtain ⟨h1, h2, _⟩ := flip0_at ss j
  have h3 := h.2 j hj
  unfold okStep at h3 ⊢
  rw [h1, h2]
  exact h3
theorem flow_other {v : Int} {ss : List Step} (hf : flowB ⟨v, ss⟩ = true) : flowTextS ⟨v, flip0 ss⟩ ≠ flowTextS ⟨v, ss⟩ ∧ 0 < (flowTextS ⟨v, flip0 ss⟩).size := by
  have h2 : flowB ⟨v, flip0 ss⟩ = true := by rw [flip0_flowB]; exact hf
  have hl := (flowB_iff.1 hf).2.2.1.1
  have hl2 : 1 ≤ ss.length := hl
  unfold flowTextS
  rw [if_pos hf, if_pos h2]
  show linesS v.toNat (flip0 ss) (flip0 ss).length ≠ linesS v.toNat ss ss.length ∧ 0 < (linesS v.toNat (flip0 ss) (flip0 ss).length).size
  rw [flip0_len]
  refine ⟨?_, lines_pos _ _ _⟩
  obtain ⟨k, hk⟩ : ∃ k, ss.length = k + 1 := ⟨ss.length - 1, by omega⟩
  rw [hk]
  refine fun e => lines_ne (v := v.toNat) (k := k) (k' := k) (ss := ss) (ss' := flip0 ss) ?_ e.symm
  cases ss with
  | nil => simp at hl2
  | cons s r => rfl

set_option maxRecDepth 100000 in
set_option maxHeartbeats 1000000 in
theorem fnFlowTextSame_any (A : Option Addr) (n c : Nat) (w : World) (hr : RByte w A n) (hc : n ≤ c) :
    Calls Tryd.prog 8 #[.slice A n c] w fun e w' => e = .returned (.bool true) ∧ Below w.heap.size w w' := by
  have HR := Lib.hid hr; clear hr
  by_cases hn : 1048576 < n
  · go_enter Tryd.func8, Tryd.ntmps8
    go_wp2_with fail
    go_ret
    exact ⟨rfl, Below.refl _ _⟩
  go_enter Tryd.func8, Tryd.ntmps8
  go_wp2_with fail
  refine (drawFlowText_any _ _ _ _ HR.out hc (by omega)).mono ?_
  rintro e w1 ⟨v, A1, n1, c1, ss, rfl, hs, hok, h1, h6, hb1, hcp⟩
  have HLn := Lib.hid (show ss.length = n1 from hs.1)
  have HS := Lib.hid (hs.alloc (.cells #[.int .i64 v, .slice A1 n1 c1] 38)); clear hs
  have HCP := Lib.hid (hcp.alloc (.cells #[.int .i64 v, .slice A1 n1 c1] 38)); clear hcp
  have HOK := Lib.hid hok; clear hok
  have HB1 := Lib.hid (hb1.alloc hb1.size (.cells #[.int .i64 v, .slice A1 n1 c1] 38)); clear hb1
  have HX := Lib.hid (heap_new (w := w1) (o := .cells #[.int .i64 v, .slice A1 n1 c1] 38) rfl)
  go_wp2_with fail
  refine (flowTextI_any _ _ _ ⟨v, ss⟩ _ _ HS.out HOK.out HCP.out).mono ?_
  rintro e w2 ⟨rfl, hb2⟩
  have HX2 := Lib.hid ((hb2.block w1.heap.size (by simp)).trans HX.out)
  have HB2 := Lib.hid (HB1.out.trans (hb2.mono HB1.out.size))
  have HS2 := Lib.hid (HS.out.below hb2)
  have HC2 := Lib.hid (HCP.out.below hb2)
  clear hb2
  have b1 := (blk_cl (k := 0) HX2.out rfl).1
  have b2 := (blk_cl (k := 1) HX2.out rfl).1
  go_wp2_with fail
  refine (flowTextS_any _ _ _ ⟨v, ss⟩ _ _ HS2.out HOK.out).mono ?_
  rintro e w3 ⟨rfl, hb3⟩
  have HX3 := Lib.hid ((hb3.block w1.heap.size (heap_lt HX2.out)).trans HX2.out)
  have HB3 := Lib.hid (HB2.out.trans (hb3.mono HB2.out.size))
  have HS3 := Lib.hid (HS2.out.below hb3)
  have HC3 := Lib.hid (HC2.out.below hb3)
  clear hb3 b1 b2 HX HS HCP HX2 HS2 HC2
  cases hf : flowB ⟨v, ss⟩
  · have hy : flowTextS ⟨v, ss⟩ = ⟨#[]⟩ := by unfold flowTextS; rw [if_neg (by rw [hf]; simp)]
    rw [hy]
    clear hy hf
    go_wp2_with fail
    go_ret
    exact ⟨rfl, HB3.out⟩
  have HNE := Lib.hid (flow_other hf).1
  have hps2 := (flow_other hf).2
  have hps : 0 < (flowTextS ⟨v, ss⟩).size := by
    have := lines_pos v.toNat ss ss.length
    unfold flowTextS
    rw [if_pos hf]
    exact this
  clear hf
  obtain ⟨z, hz⟩ : ∃ z, z = flowTextS ⟨v, ss⟩ := ⟨_, rfl⟩
  rw [← hz] at HNE hps ⊢
  clear hz
  have q0 : (z.toList != z.toList) = false := by simp
  have q1 := ne_empty hps
  have HQ2 := Lib.hid (ne_empty hps2)
  have HQ3 := Lib.hid (show ((flowTextS ⟨v, flip0 ss⟩).toList != z.toList) = true by
    rw [str_ne]; simp; exact HNE.out)
  clear hps hps2
  have HX8 := Lib.hid HX3.out
  have HSR8 := Lib.hid HS3.out
  have HCA8 := Lib.hid HC3.out
  have HLO8 := Lib.hid HB3.out.size
  have hneA : (Value.slice (some ⟨w3.heap.size, 0, none⟩) 0 0).ownBlock ≠ some (w3.heap.size + 1) := by simp [Value.ownBlock]
  have hneB : (Value.slice (some ⟨w3.heap.size + 1, 0, none⟩) 0 0).ownBlock ≠ some w3.heap.size := by simp [Value.ownBlock]
  have HSB8 : Hid (∀ w', Below w3.heap.size w3 w' → (w'.cell? ⟨w1.heap.size, 0, none⟩ = some (.int .i64 v) ∧ w'.cell? ⟨w1.heap.size, 1, none⟩ = some (.slice A1 n1 c1)) ∧ Below w3.heap.size w3 w') :=
    fun w' h => ⟨⟨(blk_cl (k := 0) ((h.block _ (heap_lt HX8.out)).trans HX8.out) rfl).1, (blk_cl (k := 1) ((h.block _ (heap_lt HX8.out)).trans HX8.out) rfl).1⟩, h⟩
  go_upto_region 8 with fail
  go_cut [6] (fun sx wx => ∃ (b bs c' : Nat), sx = .pointer (some ⟨b, 0, none⟩) ∧ wx.heap[b]? = some (.cells #[.int .i64 v, .slice (some ⟨bs, 0, none⟩) n1 c'] 38 (0, 0)) ∧ HRowC wx w3.heap.size w.heap.size (.slice (some ⟨bs, 0, none⟩) n1 c') n1 ss ∧ w3.heap.size ≤ b ∧ w3.heap.size ≤ bs ∧ Below w3.heap.size w3 wx)
  case first =>
    go_region_held3 (fun w' => (w'.cell? ⟨w1.heap.size, 0, none⟩ = some (.int .i64 v) ∧ w'.cell? ⟨w1.heap.size, 1, none⟩ = some (.slice A1 n1 c1)) ∧ Below w3.heap.size w3 w')
      (first | exact HSB8.out _ (Below.refl _ _).drew | exact HSB8.out _ ((Below.refl _ _).alloc (Nat.le_refl _) _).drew | exact HSB8.out _ (((Below.refl w3.heap.size w3).alloc (Nat.le_refl _) _).alloc (sz_le _ _) _).drew | exact HSB8.out _ hbw | exact HSB8.out _ (hbw.alloc hbw.size _) | exact HSB8.out _ ((hbw.setCell (p := ⟨_, 0, none⟩) hle1 _).setCell (p := ⟨_, 1, none⟩) hle1 _) | fail "keep")
      (first
        | (refine steps_stepC (o := ⟨some 32, _, _, _, _, _⟩) w3.heap.size w.heap.size _ A1 n1 c1 ss (by first | exact step_new (b := w3.heap.size) (Nat.le_refl _) rfl | exact (step_new (b := w3.heap.size) (Nat.le_refl _) rfl).alloc _ | exact step_new (b := w3.heap.size + 1) (Nat.le_trans (Nat.le_succ _) (Nat.le_of_eq (sz_push _ _))) (sz_push _ _)) (by first | exact HSR8.out.low.below ((Below.refl _ _).alloc (Nat.le_refl _) _).drew (Nat.le_refl _) | exact HSR8.out.low.below (show Below w3.heap.size w3 _ by go_split_ands; assumption) (Nat.le_refl _)) (by first | exact HCA8.out.below ((Below.refl _ _).alloc (Nat.le_refl _) _).drew | exact HCA8.out.below (show Below w3.heap.size w3 _ by go_split_ands; assumption)) (by rfl) (.tmp 29) (.tmp 31) (by rfl) (by rfl) (by rfl) (by omega) (by omega) HLO8.out (by first | exact (show Below w3.heap.size w3 _ by go_split_ands; assumption).size) ?_; intro b7 c7 w7 hst7 hle7 hg7 hbel7; have hbw : Below w3.heap.size w3 w7 := (show Below w3.heap.size w3 _ by go_split_ands; assumption).trans hbel7;
            (first
              | (have hb1 := grown_blk hg7 (heap_new (b := w3.heap.size + 1) (o := .cells #[.int .i64 0, .slice none 0 0] 38) (sz_push _ _)) hneA; have hle1 : w3.heap.size ≤ w3.heap.size + 1 := Nat.le_succ _; obtain ⟨x0, y0⟩ := blk_cl (k := 0) hb1 rfl; obtain ⟨x1, y1⟩ := blk_cl (k := 1) hb1 rfl)
              | (have hb1 := grown_blk hg7 (heap_old (heap_new (b := w3.heap.size) (o := .cells #[.int .i64 0, .slice none 0 0] 38) rfl)) hneB; have hle1 : w3.heap.size ≤ w3.heap.size := Nat.le_refl _; obtain ⟨x0, y0⟩ := blk_cl (k := 0) hb1 rfl; obtain ⟨x1, y1⟩ := blk_cl (k := 1) hb1 rfl)
              | skip))
        | fail "no arm")
    all_goals
      go_wp2_with fail
      go_meet
      first
        | with_reducible exact ⟨_, _, _, rfl, heap_new rfl, hst7.alloc hbw.size _, hbw.size, hle7, hbw.alloc hbw.size _⟩
        | exact ⟨_, _, _, rfl, set21 (set20 hb1), (hst7.set hb1 (by decide) hle1).set (set20 hb1) (by decide) hle1, hle1, hle7, (hbw.setCell (p := ⟨_, 0, none⟩) hle1 _).setCell (p := ⟨_, 1, none⟩) hle1 _⟩
  case rest =>
  obtain ⟨bx, bs, cx, rfl, hbx, hrx, hlx, hls, hbw⟩ := hcut
  have hlo3 := HLO8.out
  have HBW := Lib.hid hbw; clear hbw
  have hsw := HBW.out.size
  have HT := Lib.hid (hrx.row.hat hlo3 (by omega) hsw)
  have HCT := Lib.hid hrx.caps; clear hrx
  have HXB := Lib.hid hbx; clear hbx
  have hlt0 : 0 < n1 := by omega
  obtain ⟨b', off', e', ⟨_, hbs2⟩, hcs⟩ := RStep.at_ HT.out hlt0
  injection e' with e'; injection e' with e1 e2
  have HE := Lib.hid e1; clear e1
  subst e2
  obtain ⟨_, _, _, ⟨_, _, f1⟩, _, _, _, f2⟩ := hcs 0 hlt0
  rw [← HE.out, Nat.zero_mul, Nat.zero_add] at f1 f2
  rw [← HE.out] at hbs2
  clear hcs
  obtain ⟨bo, oo, rfl, ⟨_, hbo⟩, hco⟩ := RStep.at_ HS3.out hlt0
  obtain ⟨_, _, _, ⟨_, _, o0⟩, _⟩ := hco 0 hlt0
  rw [Nat.zero_mul, Nat.add_zero] at o0
  clear hco
  have o1 := (HBW.out.cell (p := ⟨bo, oo + 2, none⟩) hbo).trans o0
  clear o0
  have hbb : bo ≠ bs := by omega
  have x1 := (blk_cl (k := 1) HXB.out rfl).1
  have w1c := (HSB8.out _ HBW.out).1.2
  have hbs3 : bx ≠ bs := by
    intro e
    subst e
    obtain ⟨b9, o9, e9, _, hc9⟩ := RStep.at_ HT.out hlt0
    injection e9 with e9; injection e9 with e91 e92
    subst e91; subst e92
    obtain ⟨_, _, _, ⟨g1, _, _⟩, _⟩ := hc9 0 (by omega)
    have g2 := (blk_cl (k := 0) HXB.out rfl).1
    have g3 := g2.symm.trans (by simpa using g1)
    exact absurd (Option.some.inj g3) (by intro e; cases e)
  have HSU := Lib.hid (RStep.setUndo HT.out hlt0 (!(nth ss 0).undo))
  rw [Nat.zero_mul, Nat.zero_add] at HSU
  have HFL := Lib.hid (flip0_cons (ss := ss) (by rw [HLn.out]; exact hlt0))
  rw [← HFL.out] at HSU
  have HCU := Lib.hid (HCT.out.setPlain (u := .bool (!(nth ss 0).undo)) f1 (fun B m d e => by cases e))
  have HXU := Lib.hid (set_ne (o := 2) (u := .bool (!(nth ss 0).undo)) HXB.out hbs3)
  have HBU := Lib.hid (HB3.out.trans ((HBW.out.setCell (p := ⟨bs, 2, none⟩) hls (.bool (!(nth ss 0).undo))).mono HB3.out.size))
  have HOKF := Lib.hid (flip0_ok HOK.out)
  have hne1 : w1.heap.size ≠ bs := by have := heap_lt HX8.out; omega
  have HSB9 : Hid (wc.cell? ⟨bx, 1, none⟩ = some (.slice (some ⟨bs, 0, none⟩) n1 cx) ∧ wc.cell? ⟨w1.heap.size, 1, none⟩ = some (.slice (some ⟨bo, oo, none⟩) n1 c1) ∧ wc.cell? ⟨bo, oo + 2, none⟩ = some (.bool (nth ss 0).undo)) := ⟨x1, w1c, o1⟩
  have HSC9 : Hid ((wc.setCell ⟨bs, 2, none⟩ (.bool (!(nth ss 0).undo))).cell? ⟨bx, 1, none⟩ = some (.slice (some ⟨bs, 0, none⟩) n1 cx) ∧ (wc.setCell ⟨bs, 2, none⟩ (.bool (!(nth ss 0).undo))).cell? ⟨w1.heap.size, 1, none⟩ = some (.slice (some ⟨bo, oo, none⟩) n1 c1) ∧ (wc.setCell ⟨bs, 2, none⟩ (.bool (!(nth ss 0).undo))).cell? ⟨bo, oo + 2, none⟩ = some (.bool (nth ss 0).undo)) :=
    ⟨(World.cell?_setCell_other _ _ _ _ (fun e => by injection e; omega)).trans x1, (World.cell?_setCell_other _ _ _ _ (fun e => by injection e; omega)).trans w1c, (World.cell?_setCell_other _ _ _ _ (fun e => by injection e; omega)).trans o1⟩
  go_wp2_with fail
  go_region_held3 (fun w' => w'.cell? ⟨bx, 1, none⟩ = some (.slice (some ⟨bs, 0, none⟩) n1 cx) ∧ w'.cell? ⟨w1.heap.size, 1, none⟩ = some (.slice (some ⟨bo, oo, none⟩) n1 c1) ∧ w'.cell? ⟨bo, oo + 2, none⟩ = some (.bool (nth ss 0).undo))
    (first | exact HSB9.out | exact HSC9.out | fail "keep")
    (fail)
  have p0 := (blk_cl (k := 0) HXU.out rfl).1
  have p1 := (blk_cl (k := 1) HXU.out rfl).1
  have q4 := HQ3.out
  have q5 := HQ2.out
  go_wp2_with fail
  refine (flowTextI_any _ _ _ ⟨v, flip0 ss⟩ _ _ HSU.out.drew HOKF.out HCU.out).mono ?_
  rintro e w15 ⟨rfl, hb15⟩
  generalize flowTextS ⟨v, flip0 ss⟩ = y at *
  have q6 : (y.toList != ([] : List UInt8)) = true := by simp [bne, q5]
  go_wp2_with fail
  · rename_i hyz
    rw [hyz] at q4
    simp at q4
  · rename_i hyz
    go_ret
    exact ⟨ret_b (by simp [hyz]), HBU.out.trans (Below.trans (Below.refl _ _).drew (hb15.mono HBU.out.size))⟩
end Go.Proofs.YthdfefgianokgaaDoor

/- FnFlowTextSame's card: it returns true at every input that its row takes, and leaves its arguments as they were. No condition but the row's. -/
namespace Go.Proofs.YthdfefgianokgaaDoor
open Go.ChangeShapes Go.WideShapes Go.ChangeAt Go.RowKit

set_option maxRecDepth 100000 in
theorem fnFlowTextSame_lifted (os : Os) (started : os.Started) (H : Type) (enc : TypeId × Value → H) :
    ReturnsInHanded {} Tryd.checked os 8 .any (fun w args => (Rows.fnFlowTextSameSpec.pre enc Tryd.prog Tryd.f8 Rows.fnFlowTextSameRow.domain false w args ∧ laidMetH Tryd.prog Rows.fnFlowTextSameRow.laid w) ∧ sizedMet enc Tryd.prog Tryd.f8 (OpenSpec.ofChange Rows.fnFlowTextSameSpec) false w args)
      (Rows.fnFlowTextSameSpec.post enc Tryd.prog Tryd.f8 false true false false) := by
  refine handed_laid (C := Tryd.checked) (X := fun w _ => laidMetH Tryd.prog Rows.fnFlowTextSameRow.laid w) (fun _ _ _ hh h => h.of_heap hh) Tryd.own started (by kernel_rfl) Tryd.func8
    (ChangeSpec.witness_shaped (enc := enc) (C := Tryd.checked) (os := os) (X := fun w _ => laidMetH Tryd.prog Rows.fnFlowTextSameRow.laid w) false (World.laidAll Tryd.prog os Rows.fnFlowTextSameRow.laid) #[.slice none 0 0] 8 (World.laidAll_os _ _ _)
      (World.shaped_of_ZipB (by kernel_rfl) (by kernel_rfl)) (by kernel_rfl) (by kernel_rfl) (by kernel_rfl)
      (by rw [MakeChecks.laidMetH_plain _ _ _ (by kernel_rfl)]; exact laidMet_laidAll _ (by kernel_rfl) (by kernel_rfl))) ?_
  intro W base args ds gs before hval0 hW hsh hL
  have hval : ∀ (j : Nat) t v, Tryd.f8.params[j]? = some t → args[j]? = some v → Value.okWide Tryd.prog W .any base t v := hval0
  have hW' := hW
  obtain ⟨p, q, hA0, hV, rfl, hfz, hnd⟩ := hW
  have hA : DataW.TrodAll enc Tryd.prog W 0 (fun _ => true) true Tryd.f8.params.toList args.toList ds p := hA0
  rw [Tryd.params8] at hA hval
  obtain ⟨v0, d0, rfl, rfl, h0⟩ := trodAll_one hA
  obtain ⟨rfl, rfl⟩ := trodVars_none hV
  have h0k := h0
  obtain ⟨a0, len, cap, rfl⟩ := okWide_slice Tryd.underlying22 (hval 0 22 v0 rfl rfl)
  obtain ⟨fuel, hf⟩ := h0
  clear hA0 hval0 hA
  simp only [List.append_nil] at hW' hfz
  have hlt : ∀ x ∈ p, x.block < W.heap.size := fun x hx => by simpa using hW'.lt x hx
  obtain ⟨hr, hc, _⟩ := open_code hf
  refine (fnFlowTextSame_any a0 len cap W hr hc).mono fun e W' ⟨he, hb⟩ => ?_
  subst he
  exact ⟨_, rfl, post_law hW' rfl (by kernel_rfl) Tryd.underlying4 rfl rfl rfl (trodAll_mk1 (Below.trod Tryd.laidOut (by kernel_rfl) (of_decide_eq_true (by kernel_rfl)) h0k hb hlt)) hb⟩

theorem fnFlowTextSame_row : Rows.FnFlowTextSameSaid :=
  OpenClaim.holds_of_wide 8 Tryd.f8 rfl rfl rfl rfl rfl rfl rfl ⟨rfl, rfl, rfl, rfl, rfl⟩ rfl rfl rfl rfl rfl (by kernel_rfl) Tryd.func8 (by kernel_rfl)
    (of_decide_eq_true (by kernel_rfl)) (by unfold Func.isWrapper; rw [if_neg (by decide +kernel)]; exact ⟨rfl, rfl⟩)
    (fun os started H enc _ => fnFlowTextSame_lifted os started H enc)

theorem fnFlowTextSame_holds : Rows.FnFlowTextSameCardSaid :=
  Claim7.holds_tied_plain_at .later [] Rows.fnFlowTextSameCard.laidKinds true Rows.fnFlowTextSameCard.stood.harness false fnFlowTextSame_row (fun _ h => by cases h) (by kernel_rfl) (fun _ h => by cases h) fnFlowTextSame_row_tie rfl ⟨rfl, rfl⟩ (by kernel_rfl) rfl
    (fun f fn hf hfn => by
      obtain rfl : f = 8 := Option.some.inj ((show Tryd.prog.funcNamed "loop.example/sagaflows/laws.FnFlowTextSame" = some 8 by kernel_rfl).symm.trans hf) |>.symm
      obtain rfl : fn = Tryd.f8 := (Option.some.inj (Tryd.func8.symm.trans hfn)).symm
      exact ⟨by kernel_rfl, fun j t ht => by
        rw [Tryd.params8] at ht
        have hm : t ∈ [22] := by simpa using Array.mem_of_getElem? ht
        have hall : ([22].all fun u => !Tryd.prog.wantsStandIn u) = true := by kernel_rfl
        exact (show Tryd.prog.wantsStandIn t = false by simpa using List.all_eq_true.1 hall t hm)⟩)
    (by kernel_rfl)
end Go.Proofs.YthdfefgianokgaaDoor
