/- The frame of a law's row: what is common to all of them. -/
import Derived.Test.YtfcbpgpmafmkhaaRows
import Derived.Test.YtfcbpgpmafmkhaaD1
import Derived.ProofKit
namespace Go.Proofs.Ytfcbpgpmafmkhaa
open Go.ChangeShapes Go.WideShapes Go.ChangeAt Go.RowKit

theorem Try.own : ownKnob Try.prog.godebug = none := by kernel_rfl
theorem Try.laidOut : laidOutB Try.prog = true := by kernel_rfl
theorem Try.cellsByte : Try.prog.cellsOf 5 = 1 := by kernel_rfl

section
variable {H : Type} {enc : TypeId × Value → H} {P : Program}
/-- The row's last step for a law: it returned true, its arguments read as they did. -/
theorem post_law {f : Func} {s : ChangeSpec} {W W' : World} {args : Array Value} {ds : List (DataW H)} {before pa : List MemPlace}
    (hW : DataW.Whole enc P f.params.toList s.vars false W args.toList ds [] before) (hv : s.vars = [])
    (hr : f.resultTypes = #[4]) (hbool : P.underlying 4 = some .bool)
    (hres : (s.fn H (ds ++ [])).results = [.lit (.bool true)]) (hargs : (s.fn H (ds ++ [])).args = ds)  (hvars : (s.fn H (ds ++ [])).vars = [])
    (ht : DataW.TrodAll enc P W' 0 (fun b => decide (b < W.heap.size)) true f.params.toList args.toList ds pa) (hb : Below W.heap.size W W') :
    s.post enc P f false true false false W args (.bool true) W' := by
  refine ⟨ds, [], before, [], pa, [], hW, ?_, ?_, ?_, hb.frame _, fun h => by cases h⟩
  · rw [hres, hr]
    exact trodAll_mk1 (shut_bool hbool true)
  · rw [hargs]; exact ht
  · rw [hvars, hv]; rfl
end

/-- A '[]byte' that came in. -/
theorem open_code {H : Type} {enc : TypeId × Value → H} {W : World} {a0 : Option Addr} {len cap : Nat} {d : DataW H} {p : List MemPlace} {fuel : Nat}
    (h : DataW.trod enc Try.prog W 0 (fun _ => true) true fuel 33 (Value.cells (.slice a0 len cap)).toList = some (d, p)) : RByte W a0 len ∧ len ≤ cap ∧ cap ≤ maxLen := by
  rcases open_ints Try.underlying33 Try.underlying5 Try.cellsByte h with ⟨hcs, hx⟩ | ⟨a, len', cap', zs, hcs, _, hl, hm, hz, hx, hcell, hwz⟩
  · simp [Value.cells] at hcs
    obtain ⟨rfl, rfl, rfl⟩ := hcs
    exact ⟨fun h => absurd h (by omega), Nat.le_refl _, by unfold maxLen; omega⟩
  · simp [Value.cells] at hcs
    obtain ⟨rfl, rfl, rfl⟩ := hcs
    refine ⟨fun h0 => ?_, hl, hm⟩
    have hlz : len ≤ zs.length := by rw [hz]; split <;> omega
    obtain ⟨b, off, spot⟩ := a
    have hspot : spot = none := by simpa [Addr.add] using World.cell?_spot (hcell 0 (by omega))
    subst hspot
    refine ⟨b, off, rfl, ?_, fun k hk => ?_⟩
    · exact World.block_lt_of_cell? W _ (hcell 0 (by omega))
    · have hk2 : k < zs.length := by omega
      have hc := hcell k hk2
      rw [add_plain] at hc
      have hw := hwz (zs.getD k 0) (by rw [List.getD_eq_getElem?_getD, List.getElem?_eq_getElem hk2]; exact List.getElem_mem hk2)
      have h2 : 0 ≤ zs.getD k 0 ∧ zs.getD k 0 < 256 := by
        have h3 : IntKind.u8.min ≤ zs.getD k 0 ∧ zs.getD k 0 ≤ IntKind.u8.max := by simpa [Lit.wf] using hw
        have e1 : IntKind.u8.min = 0 := by decide
        have e2 : IntKind.u8.max = 255 := by decide
        rw [e1, e2] at h3
        omega
      refine ⟨(zs.getD k 0).toNat, by omega, ?_⟩
      rw [hc]
      congr 2
      omega
end Go.Proofs.Ytfcbpgpmafmkhaa
