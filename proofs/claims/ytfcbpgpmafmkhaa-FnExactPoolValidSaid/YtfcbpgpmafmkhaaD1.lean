/- Drawing: what is drawn is some value; it is not told which. -/
import Derived.Test.YtfcbpgpmafmkhaaW1
import Derived.Test.YtfcbpgpmafmkhaaApp
namespace Go.Proofs.Ytfcbpgpmafmkhaa
open Go.RowKit

theorem xor_in (x : Nat) (n : Int) (hx : x < 4611686018427387904) (hn : 1 ≤ n) :
    0 ≤ (bits .xor .i64 (x : Int) ((x : Int) / 64)).tmod n ∧ (bits .xor .i64 (x : Int) ((x : Int) / 64)).tmod n < n := by
  have h := i64_xor_pos x (x / 64) (by omega) (by omega)
  have e : (((x / 64 : Nat)) : Int) = (x : Int) / 64 := by omega
  rw [e] at h
  exact ⟨Int.tmod_nonneg _ h.1, Int.tmod_lt_of_pos _ (by omega)⟩

def PickQ (T : TypeId) (g p : Nat) (n : Int) (w : World) (e : Ending) (w' : World) : Prop :=
  ∃ v : Int, e = .returned (.int .i64 v) ∧ 0 ≤ v ∧ (1 ≤ n → v < n) ∧ v ≤ 1099511627776 ∧ Rd T w' g (p + 1) ∧ On g w w' ∧ w'.heap.size = w.heap.size
theorem pick_any (g p : Nat) (n : Int) (w : World) (h : Rd 109 w g p) (hp : p ≤ 1099511627776) (hn : n ≤ 1099511627776) :
    Calls Try.prog 95 #[.pointer (some ⟨g, 0, none⟩), .int .i64 n] w (PickQ 109 g p n w) := by
  have HL := Lib.hid h.lt
  have HN := Lib.hid (Rd.step h)
  have HO := Lib.hid ((On.refl g w).set_ 1 (.int .i64 ((p : Int) + 1)))
  have HS := Lib.hid (show (w.setCell ⟨g, 1, none⟩ (.int .i64 ((p : Int) + 1))).heap.size = w.heap.size by simp [World.setCell])
  obtain ⟨A, len, c, hlen, hg, hr⟩ := h
  have hr1 : w.cell? ⟨g, 1, none⟩ = some (.int .i64 (p : Int)) := by simp [World.cell?, hg]
  have hr2 : w.frozen? ⟨g, 1, none⟩ = false := by simp [World.frozen?, hg]
  have hr3 : (w.setCell ⟨g, 1, none⟩ (.int .i64 ((p : Int) + 1))).cell? ⟨g, 0, none⟩ = some (.slice A len c) := by simp [World.cell?, World.setCell, Array.getElem?_modify, hg]
  have hr4 : (w.setCell ⟨g, 1, none⟩ (.int .i64 ((p : Int) + 1))).cell? ⟨g, 1, none⟩ = some (.int .i64 ((p : Int) + 1)) := by simp [World.cell?, World.setCell, Array.getElem?_modify, hg]
  clear hg
  by_cases h1 : n < 1
  · go_enter Try.func95, Try.ntmps95
    go_wp2_with fail
    go_ret
    exact ⟨0, rfl, by omega, by omega, by omega, HN.out, HO.out, HS.out⟩
  by_cases h2 : len < 1
  · have h3 : ((len : Int) == 0) = true := by rw [beq_iff_eq]; omega
    go_enter Try.func95, Try.ntmps95
    go_wp2_with fail
    go_ret
    exact ⟨0, rfl, by omega, by omega, by omega, HN.out, HO.out, HS.out⟩
  have h3 : ((len : Int) == 0) = false := by rw [beq_eq_false_iff_ne]; omega
  obtain ⟨b, off, rfl, hbg, hc⟩ := hr (by omega)
  have hcs : ∀ k, k < len → ∃ u : Nat, u < 256 ∧ (w.setCell ⟨g, 1, none⟩ (.int .i64 ((p : Int) + 1))).cell? ⟨b, off + k, none⟩ = some (.int .u8 (u : Int)) := fun k hk => by
    obtain ⟨u, hu, hcu⟩ := hc k hk
    exact ⟨u, hu, (World.cell?_setCell_other w _ _ _ (fun e => by injection e; omega)).trans hcu⟩
  clear hc hr
  by_cases h4 : p < len
  · obtain ⟨u, hu, hcu⟩ := hcs p h4
    clear hcs
    have hu2 : (u : Int) < 256 := by omega
    go_enter Try.func95, Try.ntmps95
    go_wp2_with fail
    go_ret
    exact ⟨_, rfl, Int.emod_nonneg _ (by omega), fun _ => Int.emod_lt_of_pos _ (by omega), by have := Int.emod_lt_of_pos (u : Int) (show (0 : Int) < n by omega); omega, HN.out, HO.out, HS.out⟩
  · have hl0 : 0 < len := by omega
    have hT1 : (p : Int).tmod (len : Int) = ((p % len : Nat) : Int) := rfl
    have hT2 : ((p : Int) * 7 + 3).tmod (len : Int) = (((p * 7 + 3) % len : Nat) : Int) := rfl
    have hm1 : p % len < len := Nat.mod_lt _ hl0
    have hm2 : (p * 7 + 3) % len < len := Nat.mod_lt _ hl0
    generalize p % len = i1 at hT1 hm1
    generalize (p * 7 + 3) % len = i2 at hT2 hm2
    obtain ⟨u, hu, hcu⟩ := hcs i1 hm1
    obtain ⟨v, hv, hcv⟩ := hcs i2 hm2
    clear hcs
    have hdl : p / len ≤ p := Nat.div_le_self _ _
    obtain ⟨q, hq⟩ : ∃ q, q = p / len := ⟨_, rfl⟩
    have hz : ¬ len = 0 := by omega
    have hT3 : (p : Int).tdiv (len : Int) = (q : Int) := by rw [hq]; rfl
    rw [← hq] at hdl
    have W1 : IntKind.i64.wrap ((u : Int) * 131) = (u : Int) * 131 := IntWalk.i64_in _ (by omega)
    have W2 : IntKind.i64.wrap ((p : Int) * 7) = (p : Int) * 7 := IntWalk.i64_in _ (by omega)
    have W3 : IntKind.i64.wrap ((p : Int) * 7 + 3) = (p : Int) * 7 + 3 := IntWalk.i64_in _ (by omega)
    have W4 : IntKind.i64.wrap ((v : Int) * 1117) = (v : Int) * 1117 := IntWalk.i64_in _ (by omega)
    have W5 : IntKind.i64.wrap ((u : Int) * 131 + (v : Int) * 1117) = (u : Int) * 131 + (v : Int) * 1117 := IntWalk.i64_in _ (by omega)
    have W6 : IntKind.i64.wrap ((p : Int) * 29) = (p : Int) * 29 := IntWalk.i64_in _ (by omega)
    have W7 : IntKind.i64.wrap ((u : Int) * 131 + (v : Int) * 1117 + (p : Int) * 29) = (u : Int) * 131 + (v : Int) * 1117 + (p : Int) * 29 := IntWalk.i64_in _ (by omega)
    have W8 : IntKind.i64.wrap (q : Int) = (q : Int) := IntWalk.i64_in _ (by omega)
    have W9 : IntKind.i64.wrap ((q : Int) * 53) = (q : Int) * 53 := IntWalk.i64_in _ (by omega)
    have W10 : IntKind.i64.wrap ((u : Int) * 131 + (v : Int) * 1117 + (p : Int) * 29 + (q : Int) * 53) = (u : Int) * 131 + (v : Int) * 1117 + (p : Int) * 29 + (q : Int) * 53 := IntWalk.i64_in _ (by omega)
    clear hq
    go_enter Try.func95, Try.ntmps95
    go_wp2_with fail
    go_quiet (fail)
    clear W1 W2 W3 W4 W5 W6 W7 W8 W9 W10 hT1 hT2 hT3
    obtain ⟨x, hx⟩ : ∃ x : Nat, (x : Int) = (u : Int) * 131 + (v : Int) * 1117 + (p : Int) * 29 + (q : Int) * 53 := ⟨u * 131 + v * 1117 + p * 29 + q * 53, by omega⟩
    go_wp2_with fail
    go_ret
    have hxx := xor_in x n (by omega) (by omega)
    rw [hx] at hxx
    exact ⟨_, rfl, hxx.1, fun _ => hxx.2, by omega, HN.out, HO.out.drewN _, HS.out⟩

/-- pick, as it is used. -/
theorem pick (w0 : World) (g q : Nat) (n : Int) (w : World) (h : Dr 109 w0 g q w) (hq : q ≤ 1099511627776) (hn : n ≤ 1099511627776) :
    Calls Try.prog 95 #[.pointer (some ⟨g, 0, none⟩), .int .i64 n] w fun e w' =>
      ∃ v : Int, e = .returned (.int .i64 v) ∧ 0 ≤ v ∧ (1 ≤ n → v < n) ∧ v ≤ 1099511627776 ∧ Dr 109 w0 g (q + 1) w' ∧ On g w w' := by
  obtain ⟨p, hp, hr⟩ := h.rd
  refine (pick_any g p n w hr (by omega) hn).mono ?_
  rintro e w' ⟨v, h1, h2, h3, h4, h5, h6, _⟩
  exact ⟨v, h1, h2, h3, h4, ⟨h.on.trans h6, p + 1, by omega, h5⟩, h6⟩
/-! ### The reader is made -/
def RByte (w : World) (A : Option Addr) (n : Nat) : Prop :=
  0 < n → ∃ b off, A = some ⟨b, off, none⟩ ∧ b < w.heap.size ∧ ∀ k, k < n → ∃ u : Nat, u < 256 ∧ w.cell? ⟨b, off + k, none⟩ = some (.int .u8 (u : Int))

theorem open_any (A : Option Addr) (n c : Nat) (w : World) (hr : RByte w A n) (hc : n ≤ c) (hn : n ≤ 1048576) :
    Calls Try.prog 61 #[.slice A n c] w fun e w' => e = .returned (.pointer (some ⟨w.heap.size, 0, none⟩)) ∧ Rd 109 w' w.heap.size 0 ∧ Below w.heap.size w w' := by
  have HR := Lib.hid hr; clear hr
  by_cases h : 2000 < n
  · go_enter Try.func61, Try.ntmps61
    go_wp2_with fail
    go_ret
    refine ⟨rfl, ⟨A, 2000, c, Nat.le_refl _, ?_, fun h0 => ?_⟩, (Below.refl _ _).alloc (Nat.le_refl _) _⟩
    · exact heap_new rfl
    · obtain ⟨b, off, e, hb, hk⟩ := HR.out (by omega)
      refine ⟨b, off, e, hb, fun k hk2 => ?_⟩
      obtain ⟨u, hu, hcu⟩ := hk k (by omega)
      exact ⟨u, hu, (((Below.refl w.heap.size w).alloc (Nat.le_refl _) _).cell (p := ⟨b, off + k, none⟩) hb).trans hcu⟩
  · go_enter Try.func61, Try.ntmps61
    go_wp2_with fail
    go_ret
    refine ⟨rfl, ⟨A, n, c, by omega, ?_, fun h0 => ?_⟩, (Below.refl _ _).alloc (Nat.le_refl _) _⟩
    · exact heap_new rfl
    · obtain ⟨b, off, e, hb, hk⟩ := HR.out (by omega)
      refine ⟨b, off, e, hb, fun k hk2 => ?_⟩
      obtain ⟨u, hu, hcu⟩ := hk k (by omega)
      exact ⟨u, hu, (((Below.refl w.heap.size w).alloc (Nat.le_refl _) _).cell (p := ⟨b, off + k, none⟩) hb).trans hcu⟩
end Go.Proofs.Ytfcbpgpmafmkhaa
