/- FnExactStepFrom's card: it returns true at every input that its row takes, and leaves its arguments as they were. No condition but the row's. -/
import Derived.Deep.RegionHeld3
import Derived.ChangeMaps5
import Derived.Test.YthdfefgianokgaaDoorCards
import Derived.Test.YthdfefgianokgaaDoorTie
import Derived.Test.YthdfefgianokgaaDoorZA
import Derived.Test.YthdfefgianokgaaDoorZD
import Derived.Test.YthdfefgianokgaaDoorZC

/- What the exact laws need beside the functions: sizes, copies, equality, marks. -/
namespace Go.Proofs.YthdfefgianokgaaDoor
open Go.RowKit

def decL : Nat → Nat → List UInt8 → List UInt8
  | 0, _, acc => acc
  | f + 1, k, acc => if k = 0 then acc else decL f (k / 10) ((48 + UInt8.ofNat (k % 10)) :: acc)
def markS (k : Nat) : Str := ⟨(109 :: decL k k []).toArray⟩

theorem conv1 (W : World) (b : Nat) (n : Int) (h : W.heap[b]? = some (.cells #[.int .u8 n] 5 (0, 0))) :
    (convert 22 9 (.slice (some ⟨b, 0, none⟩) 1 1)).run Tryd.prog W = .ok (.string ⟨#[UInt8.ofNat n.toNat]⟩) W := by
  rw [run_convert_bytes_string W _ _ _ _ _ _ Tryd.underlying22 Tryd.underlying5 Tryd.underlying9]
  rw [run_bytesToString W ⟨b, 0, none⟩ 1 1 [n]]
  · rfl
  · have hc := (blk_cl (k := 0) h rfl).1
    exact run_loadCells_list (P := Tryd.prog) (w := W) ⟨b, 0, none⟩ [.int .u8 n] (fun j v hv => by
      match j, hv with
      | 0, hv =>
        have : v = .int .u8 n := by simpa using hv.symm
        subst this
        exact hc)

theorem bcat (a b : List UInt8) : (⟨a.toArray⟩ : ByteArray) ++ ⟨b.toArray⟩ = ⟨(a ++ b).toArray⟩ := by
  apply ByteArray.ext; simp
theorem str_congr {a b : Str} (h : a = b) : Value.string a = Value.string b := by rw [h]

set_option maxRecDepth 100000 in
theorem markText_any (k : Nat) (w : World) (h1 : 1 ≤ k) (h2 : k ≤ 1099511627776) :
    Calls Tryd.prog 63 #[.int .i64 (k : Int)] w fun e w' => e = .returned (.string (markS k)) ∧ Below w.heap.size w w' := by
  go_enter Tryd.func63, Tryd.ntmps63
  go_wp2_with fail
  go_loopw [0, 3] (fun j o wr => ∃ jn f : Nat, ∃ acc : List UInt8, jn ≤ f ∧ acc.length + jn ≤ 1099511627776 ∧ j = .int .i64 (jn : Int) ∧ o = .string ⟨acc.toArray⟩ ∧ decL f jn acc = decL k k [] ∧ Below w.heap.size w wr) (fun j _ _ => (intOf j).toNat)
  case atStart => exact ⟨k, k, [], Nat.le_refl _, by simpa using h2, rfl, rfl, rfl, Below.refl _ _⟩
  case round =>
    obtain ⟨jn, f, acc, hf, hj, rfl, rfl, hd, hb⟩ := hrel
    have HD := Lib.hid hd; clear hd
    have HB := Lib.hid hb; clear hb
    by_cases h0 : 0 < jn
    · have hcv := conv1 (wr.alloc (.cells #[.int .u8 (48 + (jn : Int) % 10)] 5)) wr.heap.size (48 + (jn : Int) % 10) (heap_new rfl)
      go_wp2_with fail
      go_roundw
      case rel =>
        obtain ⟨f', rfl⟩ : ∃ f', f = f' + 1 := ⟨f - 1, by omega⟩
        refine ⟨jn / 10, f', (48 + UInt8.ofNat (jn % 10)) :: acc, by omega, by simp; omega, by go_num, str_congr (bcat [_] acc), ?_, HB.out.alloc HB.out.size _⟩
        rw [← HD.out, decL, if_neg (by omega)]
      case measure => simp [intOf]; omega
    · have h0' : (jn : Int) < 1 := by omega
      go_wp2_with fail
      go_ret
      refine ⟨ret_s ?_, HB.out⟩
      have hz : jn = 0 := by omega
      have hd := HD.out
      subst hz
      unfold markS
      have e : decL f 0 acc = acc := by cases f <;> simp [decL]
      rw [← hd, e]
      exact bcat [109] acc

def marksS (k n : Nat) : List Str := (List.range n).map fun j => markS (k + j)
theorem marksS_len (k n : Nat) : (marksS k n).length = n := by simp [marksS]
theorem marksS_at {k n j : Nat} (hj : j < n) : nth (marksS k n) j = markS (k + j) := by
  rw [nth_eq (by rw [marksS_len]; exact hj)]; simp [marksS]

set_option maxRecDepth 100000 in
theorem markStringS_any (A : Option Addr) (n c k : Nat) (xs : List Str) (lo hi : Nat) (w : World) (hr : RH strE w lo hi A n xs) (hn : n ≤ 1048576) (h1 : 1 ≤ k) (h2 : k ≤ 549755813888) (hhi : hi ≤ w.heap.size) :
    Calls Tryd.prog 38 #[.slice A n c, .int .i64 (k : Int)] w fun e w' => e = .returned (.int .i64 ((k + n : Nat) : Int)) ∧ RH strE w' lo hi A n (marksS k n) ∧ Out lo hi w w' := by
  have HR := Lib.hid hr; clear hr
  go_enter Tryd.func38, Tryd.ntmps38
  go_wp2_with fail
  go_loopw [1, 5] (fun q i wr => ∃ j m : Nat, ∃ ys : List Str, j ≤ n ∧ i = .int .i64 (j : Int) ∧ q = .int .i64 (m : Int) ∧ m = k + j ∧ RH strE wr lo hi A n ys ∧ (∀ l, l < j → nth ys l = markS (k + l)) ∧ Out lo hi w wr) (fun _ i _ => n - (intOf i).toNat)
  case atStart => exact ⟨0, k, xs, Nat.zero_le _, rfl, rfl, rfl, HR.out, fa_zero, Out.refl⟩
  case round =>
    obtain ⟨j, m, ys, hj, rfl, rfl, hm, hys, hp, hb⟩ := hrel
    have HM := Lib.hid hm
    have HP := Lib.hid hp; clear hp
    have HB := Lib.hid hb; clear hb
    have HY := Lib.hid hys; clear hys
    have hm1 : 1 ≤ m := by omega
    have hm2 : m ≤ 1099511627776 := by omega
    have hm3 : (m : Int) ≤ 1099511627776 := by omega
    clear hm
    by_cases hlt : j < n
    · obtain ⟨b, off, rfl, ⟨hb1, hb3⟩, hc⟩ := RStr.hat HY.out hlt
      have hwr : hi ≤ wr.heap.size := Nat.le_trans hhi HB.out.size
      have hb2 : b < wr.heap.size := by omega
      obtain ⟨c1, c2⟩ := hc j hlt
      clear hc
      go_wp2_with fail
      refine (markText_any m _ hm1 hm2).mono ?_
      rintro e w1 ⟨rfl, hbw⟩
      have d1 := (hbw.cell (p := ⟨b, off + j, none⟩) hb2).trans c1
      have d2 := (hbw.frozen (p := ⟨b, off + j, none⟩) hb2).trans c2
      clear c1 c2
      have HBW := Lib.hid hbw; clear hbw
      go_wp2_with fail
      go_roundw
      case rel =>
        refine ⟨j + 1, m + 1, ys.set j (markS m), by omega, by go_num, by go_num, by rw [HM.out, Nat.add_assoc], RStr.hset (HY.out.below HBW.out hwr) hlt (markS m), ?_, (HB.out.trans (Out.of_below HBW.out)).set_ hb1 hb3 _ _⟩
        intro l hl
        rw [nth_set (by rw [HY.out.1]; exact hlt)]
        by_cases e : l = j
        · rw [if_pos e, e, HM.out]
        · rw [if_neg e]; exact HP.out l (by omega)
      case measure => simp [intOf]; omega
    · go_wp2_with fail
      go_ret
      refine ⟨ret_i (by rw [HM.out, show j = n by omega]), ?_, HB.out⟩
      have e : ys = marksS k n := list_ext (by rw [HY.out.1, marksS_len]) (fun l hl => by rw [HP.out l (by rw [HY.out.1] at hl; omega), marksS_at (by rw [HY.out.1] at hl; exact hl)])
      rw [← e]; exact HY.out

set_option maxRecDepth 100000 in
theorem heldStringS_any (A : Option Addr) (n c k : Nat) (lo : Nat) (w : World) (hr : RStr w lo A n (marksS k n)) (hn : n ≤ 1048576) (h1 : 1 ≤ k) (h2 : k ≤ 549755813888) :
    Calls Tryd.prog 39 #[.slice A n c, .int .i64 (k : Int)] w fun e w' => e = .returned (.int .i64 ((k + n : Nat) : Int)) ∧ Below w.heap.size w w' := by
  have HR := Lib.hid hr; clear hr
  go_enter Tryd.func39, Tryd.ntmps39
  go_wp2_with fail
  go_loopw [1, 5] (fun q i wr => ∃ j m : Nat, j ≤ n ∧ i = .int .i64 (j : Int) ∧ q = .int .i64 (m : Int) ∧ m = k + j ∧ Below w.heap.size w wr) (fun _ i _ => n - (intOf i).toNat)
  case atStart => exact ⟨0, k, Nat.zero_le _, rfl, rfl, rfl, Below.refl _ _⟩
  case round =>
    obtain ⟨j, m, hj, rfl, rfl, hm, hb⟩ := hrel
    have HM := Lib.hid hm
    have HB := Lib.hid hb; clear hb
    have hm1 : 1 ≤ m := by omega
    have hm2 : m ≤ 1099511627776 := by omega
    have hm3 : (m : Int) ≤ 1099511627776 := by omega
    clear hm
    by_cases hlt : j < n
    · obtain ⟨b, off, rfl, ⟨hb1, hb2⟩, hc⟩ := RStr.at_ (HR.out.below HB.out) hlt
      obtain ⟨c1, c2⟩ := hc j hlt
      clear hc c2
      rw [marksS_at hlt, ← HM.out] at c1
      go_wp2_with fail
      go_region_held3 (fun w' => w'.cell? ⟨b, off + j, none⟩ = some (.string (markS m)))
        (first | go_keep | (rw [hbw.cell (p := ⟨b, off + j, none⟩) (by simpa using hb2)]; assumption))
        (first | (go_at_call 63; refine (markText_any m _ hm1 hm2).mono ?_; rintro e w1 ⟨rfl, hbw⟩))
      go_wp2_with fail
      go_roundw
      case rel => exact ⟨j + 1, m + 1, by omega, by go_num, by go_num, by rw [HM.out, Nat.add_assoc], HB.out.drew.trans (hbw.mono HB.out.size)⟩
      case measure => simp [intOf]; omega
    · go_wp2_with fail
      go_ret
      exact ⟨ret_i (by rw [HM.out, show j = n by omega]), HB.out⟩

/-! ### ints -/
def marksI (k n : Nat) : List Int := (List.range n).map fun j => ((k + j : Nat) : Int)
theorem marksI_len (k n : Nat) : (marksI k n).length = n := by simp [marksI]
theorem marksI_at {k n j : Nat} (hj : j < n) : nth (marksI k n) j = ((k + j : Nat) : Int) := by
  rw [nth_eq (by rw [marksI_len]; exact hj)]; simp [marksI]

def eqIB (xs ys : List Int) : Bool := decide (xs = ys)
/-- A made list, before it is filled. -/
theorem made_at {z : Array Value} {m n k i : Nat} (hz : z.size = m) (hk : k < n) (hi : i < m) : (madeCells z (n * m)).toList[k * m + i]? = z[i]? := by
  have h1 : k * m + i < n * m := by
    have : (k + 1) * m ≤ n * m := Nat.mul_le_mul_right _ hk
    rw [Nat.succ_mul] at this; omega
  have h2 : (k * m + i) % m = i := by rw [Nat.mul_comm, Nat.mul_add_mod]; exact Nat.mod_eq_of_lt hi
  simp [madeCells, hz, h1, h2, hi]
theorem own_made {w : World} {base : Nat} {e : TypeId} {m : Nat} {v : Value} {n : Nat} {z : Array Value} (hz : z.size = m) (h : w.ownsRow base e m v n (madeCells z (n * m)).toList) :
    ∃ A c, v = .slice A n c ∧ (0 < n → ∃ b, A = some ⟨b, 0, none⟩ ∧ base ≤ b ∧ b < w.heap.size ∧ ∀ k, k < n → ∀ i u, i < m → z[i]? = some u → Cl w b (k * m + i) u) := by
  obtain ⟨A, c, hv, hf⟩ := own_form h
  refine ⟨A, c, hv, fun hn => ?_⟩
  obtain ⟨b, e1, h1, h2, hc⟩ := hf hn
  exact ⟨b, e1, h1, h2, fun k hk i u hi hu => hc _ u (by rw [made_at hz hk hi]; exact hu)⟩
theorem nth_rep {α : Type} [Inhabited α] {n k : Nat} {x : α} (hk : k < n) : nth (List.replicate n x) k = x := by
  rw [nth_eq (by simpa using hk)]; simp
theorem own_fresh_int {w : World} {base : Nat} {e : TypeId} {v : Value} {n : Nat} (h : w.ownsRow base e 1 v n (madeCells #[.int .i64 0] n).toList) :
    ∃ A c, v = .slice A n c ∧ RInt w base A n (List.replicate n 0) := by
  obtain ⟨A, c, hv, hf⟩ := own_made (m := 1) (z := #[.int .i64 0]) rfl (by rw [Nat.mul_one]; exact h)
  refine ⟨A, c, hv, by simp, fun hn => ?_⟩
  obtain ⟨b, e1, h1, h2, hc⟩ := hf hn
  refine ⟨b, 0, e1, h1, h2, fun k hk => ?_⟩
  rw [nth_rep hk]
  have := hc k hk 0 _ (by omega) rfl
  simpa [intE] using this
theorem own_fresh_str {w : World} {base : Nat} {e : TypeId} {v : Value} {n : Nat} (h : w.ownsRow base e 1 v n (madeCells #[.string ⟨#[]⟩] n).toList) :
    ∃ A c, v = .slice A n c ∧ RStr w base A n (List.replicate n ⟨#[]⟩) := by
  obtain ⟨A, c, hv, hf⟩ := own_made (m := 1) (z := #[.string ⟨#[]⟩]) rfl (by rw [Nat.mul_one]; exact h)
  refine ⟨A, c, hv, by simp, fun hn => ?_⟩
  obtain ⟨b, e1, h1, h2, hc⟩ := hf hn
  refine ⟨b, 0, e1, h1, h2, fun k hk => ?_⟩
  rw [nth_rep hk]
  have := hc k hk 0 _ (by omega) rfl
  simpa [strE] using this
theorem own_fresh_guard {w : World} {base : Nat} {e : TypeId} {v : Value} {n : Nat} (h : w.ownsRow base e 3 v n (madeCells #[.string ⟨#[]⟩, .int .i64 0, .int .i64 0] (n * 3)).toList) :
    ∃ A c, v = .slice A n c ∧ RGuard w base A n (List.replicate n ⟨⟨#[]⟩, 0, 0⟩) := by
  obtain ⟨A, c, hv, hf⟩ := own_made (m := 3) (z := #[.string ⟨#[]⟩, .int .i64 0, .int .i64 0]) rfl h
  refine ⟨A, c, hv, by simp, fun hn => ?_⟩
  obtain ⟨b, e1, h1, h2, hc⟩ := hf hn
  refine ⟨b, 0, e1, h1, h2, fun k hk => ?_⟩
  rw [nth_rep hk, Nat.zero_add]
  exact ⟨hc k hk 0 _ (by omega) rfl, hc k hk 1 _ (by omega) rfl, hc k hk 2 _ (by omega) rfl⟩

end Go.Proofs.YthdfefgianokgaaDoor

/- What the exact laws need beside the functions: guards. -/
namespace Go.Proofs.YthdfefgianokgaaDoor
open Go.RowKit

def szI (sz left : Int) : Int := if sz ≤ left then left - sz else -1
theorem szI_yes {sz left : Int} (h : sz ≤ left) : szI sz left = left - sz := by unfold szI; rw [if_pos h]
theorem szI_no {sz left : Int} (h : ¬ sz ≤ left) : szI sz left = -1 := by unfold szI; rw [if_neg h]

def SzQ (left : Int) (ok : Prop) (w : World) (e : Ending) (w' : World) : Prop := ∃ r : Int, e = .returned (.int .i64 r) ∧ -1 ≤ r ∧ (0 ≤ r → r ≤ left ∧ ok) ∧ Below w.heap.size w w'

theorem RGuard.hset {w : World} {lo hi b off n j : Nat} {gs : List Guard} (h : RH guardE w lo hi (some ⟨b, off, none⟩) n gs) (hj : j < n) (x : Guard) :
    RH guardE (((w.setCell ⟨b, off + j * 3, none⟩ (.string x.name)).setCell ⟨b, off + j * 3 + 1, none⟩ (.int .i64 x.var)).setCell ⟨b, off + j * 3 + 2, none⟩ (.int .i64 x.least)) lo hi (some ⟨b, off, none⟩) n (gs.set j x) := by
  refine ⟨by rw [List.length_set]; exact h.1, fun hn => ?_⟩
  obtain ⟨b', off', e, h1, h2, hc⟩ := h.2 hn
  injection e with e; injection e with e1 e2
  subst e1; subst e2
  refine ⟨b, off, rfl, h1, h2, fun k hk => ?_⟩
  obtain ⟨c1, c2, c3⟩ := hc k hk
  rw [nth_set (by rw [h.1]; exact hj)]
  by_cases hkj : k = j
  · subst hkj
    rw [if_pos rfl]
    exact ⟨(c1.set_same.set_other (.inr (by show off + k * 3 ≠ _; omega))).set_other (.inr (by show off + k * 3 ≠ _; omega)),
      ((c2.set_other (.inr (by show off + k * 3 + 1 ≠ _; omega))).set_same).set_other (.inr (by show off + k * 3 + 1 ≠ _; omega)),
      ((c3.set_other (.inr (by show off + k * 3 + 2 ≠ _; omega))).set_other (.inr (by show off + k * 3 + 2 ≠ _; omega))).set_same⟩
  · rw [if_neg hkj]
    exact ⟨((c1.set_other (.inr (by show off + k * 3 ≠ _; omega))).set_other (.inr (by show off + k * 3 ≠ _; omega))).set_other (.inr (by show off + k * 3 ≠ _; omega)),
      ((c2.set_other (.inr (by show off + k * 3 + 1 ≠ _; omega))).set_other (.inr (by show off + k * 3 + 1 ≠ _; omega))).set_other (.inr (by show off + k * 3 + 1 ≠ _; omega)),
      ((c3.set_other (.inr (by show off + k * 3 + 2 ≠ _; omega))).set_other (.inr (by show off + k * 3 + 2 ≠ _; omega))).set_other (.inr (by show off + k * 3 + 2 ≠ _; omega))⟩

theorem RGuard.set_ {w : World} {lo b off n j : Nat} {gs : List Guard} (h : RGuard w lo (some ⟨b, off, none⟩) n gs) (hj : j < n) (x : Guard) :
    RGuard (((w.setCell ⟨b, off + j * 3, none⟩ (.string x.name)).setCell ⟨b, off + j * 3 + 1, none⟩ (.int .i64 x.var)).setCell ⟨b, off + j * 3 + 2, none⟩ (.int .i64 x.least)) lo (some ⟨b, off, none⟩) n (gs.set j x) := (RGuard.hset h.low hj x).up (by simp)

end Go.Proofs.YthdfefgianokgaaDoor

/- GuardsClosed. -/
namespace Go.Proofs.YthdfefgianokgaaDoor
open Go.RowKit

def closB (vs : List Int) (g : Guard) : Bool := decide (nth vs g.var.toNat < g.least)
def closTo (gs : List Guard) (vs : List Int) (k : Nat) : List Str := ((gs.take k).filter (closB vs)).map (·.name)
def closL (gs : List Guard) (vs : List Int) : List Str := if guardsB gs && varsB vs then closTo gs vs gs.length else []

theorem closTo_yes {gs : List Guard} {vs : List Int} {k : Nat} (hk : k < gs.length) (h : closB vs (nth gs k) = true) : closTo gs vs (k + 1) = closTo gs vs k ++ [(nth gs k).name] := by
  unfold closTo; rw [take_nth hk, List.filter_append, List.map_append]; simp [h]
theorem closTo_no {gs : List Guard} {vs : List Int} {k : Nat} (hk : k < gs.length) (h : closB vs (nth gs k) = false) : closTo gs vs (k + 1) = closTo gs vs k := by
  unfold closTo; rw [take_nth hk, List.filter_append, List.map_append]; simp [h]
theorem closTo_len (gs : List Guard) (vs : List Int) (k : Nat) : (closTo gs vs k).length ≤ k := by
  unfold closTo; rw [List.length_map]
  exact Nat.le_trans (List.length_filter_le _ _) (List.length_take_le _ _)
theorem closL_yes {gs : List Guard} {vs : List Int} (h : guardsB gs = true) (h' : varsB vs = true) : closL gs vs = closTo gs vs gs.length := by unfold closL; rw [h, h']; rfl
theorem closL_no {gs : List Guard} {vs : List Int} (h : guardsB gs = false ∨ varsB vs = false) : closL gs vs = [] := by
  unfold closL; rcases h with h | h <;> rw [h] <;> simp

/-- What valid arguments say of the guard at k. -/
theorem guard_in {gs : List Guard} {vs : List Int} {k : Nat} (h : guardsB gs = true) (h' : varsB vs = true) (hk : k < gs.length) : 0 ≤ (nth gs k).var ∧ (nth gs k).var ≤ 3 ∧ vs.length = 4 ∧ gs.length ≤ 8 := by
  unfold guardsB at h; unfold varsB at h'
  simp only [Bool.and_eq_true, decide_eq_true_eq] at h h'
  have h1 := allN_iff.1 h.1 k hk
  simp only [guardB, inB, Bool.and_eq_true, decide_eq_true_eq] at h1
  omega

end Go.Proofs.YthdfefgianokgaaDoor

/- FnExactGuardsClosed: the walk. -/
namespace Go.Proofs.YthdfefgianokgaaDoor
open Go.RowKit

theorem eqStringS_same (A B : Option Addr) (n m c d : Nat) (xs : List Str) (lo lo' : Nat) (w : World) (hr : RStr w lo A n xs) (hn : n ≤ 1048576) (hr' : RStr w lo' B m xs) :
    Calls Tryd.prog 37 #[.slice A n c, .slice B m d] w fun e w' => e = .returned (.bool true) ∧ ∃ k, w' = w.drewN k := by
  have HX := Lib.hid hr; clear hr
  have HY := Lib.hid hr'; clear hr'
  have hnm : m = n := by rw [← HX.out.1, ← HY.out.1]
  subst hnm
  go_enter Tryd.func37, Tryd.ntmps37
  go_wp2_with fail
  go_loopw [5] (fun i wr => ∃ k q : Nat, k ≤ m ∧ i = .int .i64 k ∧ wr = w.drewN q) (fun i _ => m - (intOf i).toNat)
  case atStart => exact ⟨0, 0, Nat.zero_le _, rfl, rfl⟩
  case round =>
    obtain ⟨k, q, hk, rfl, rfl⟩ := hrel
    by_cases hlt : k < m
    · obtain ⟨b, off, rfl, _, hc⟩ := RStr.at_ HX.out hlt
      obtain ⟨c1, _⟩ := hc k hlt
      clear hc
      obtain ⟨b', off', rfl, _, hc⟩ := RStr.at_ HY.out hlt
      obtain ⟨c2, _⟩ := hc k hlt
      clear hc
      go_wp2_with fail
      go_quiet (fail)
      go_wp2_with fail
      go_roundw
      case rel => exact ⟨k + 1, _, by omega, by go_num, rfl⟩
      case measure => simp [intOf]; omega
    · go_wp2_with fail
      go_ret
      exact ⟨rfl, _, rfl⟩

theorem closL_len (gs : List Guard) (vs : List Int) : (closL gs vs).length ≤ gs.length := by
  unfold closL
  split
  · exact closTo_len _ _ _
  · simp

end Go.Proofs.YthdfefgianokgaaDoor

/- What the exact laws need beside the functions: lists of names, steps. -/
namespace Go.Proofs.YthdfefgianokgaaDoor
open Go.RowKit

set_option maxRecDepth 100000 in
theorem szStringS_any (A : Option Addr) (n c : Nat) (xs : List Str) (lo : Nat) (left : Int) (w : World) (hr : RStr w lo A n xs) (hn : n ≤ maxLen) (hs : ∀ j, j < n → (nth xs j).size ≤ maxLen) (h0 : 0 ≤ left) (h1 : left ≤ 1048576) :
    Calls Tryd.prog 85 #[.slice A n c, .int .i64 left] w (SzQ left (n ≤ 1048576 ∧ okS xs) w) := by
  have HR := Lib.hid hr; clear hr
  have HS := Lib.hid hs; clear hs
  unfold maxLen at hn
  by_cases hbig : left < (n : Int)
  · go_enter Tryd.func85, Tryd.ntmps85
    go_wp2_with fail
    go_ret
    exact ⟨_, rfl, by omega, fun h => absurd h (by omega), Below.refl _ _⟩
  go_enter Tryd.func85, Tryd.ntmps85
  go_wp2_with fail
  go_loop [1, 5] (fun q i => ∃ j : Nat, ∃ r : Int, j ≤ n ∧ i = .int .i64 (j : Int) ∧ q = .int .i64 r ∧ 0 ≤ r ∧ r ≤ left ∧ (∀ l, l < j → (nth xs l).size ≤ 1048576)) (fun _ i => n - (intOf i).toNat)
  case atStart => exact ⟨0, _, Nat.zero_le _, rfl, rfl, by omega, by omega, fa_zero⟩
  case round =>
    obtain ⟨j, r, hj, rfl, rfl, hr0, hr1, hp⟩ := hrel
    have HP := Lib.hid hp; clear hp
    by_cases hlt : j < n
    · obtain ⟨b, off, rfl, _, hc⟩ := RStr.at_ HR.out hlt
      obtain ⟨c1, _⟩ := hc j hlt
      clear hc
      have hsz := HS.out j hlt
      unfold maxLen at hsz
      by_cases hfit : ((nth xs j).size : Int) ≤ r
      · go_wp2_with fail
        go_round
        case rel => exact ⟨j + 1, _, by omega, by go_num, rfl, by omega, by omega, fa_succ HP.out (by omega)⟩
        case measure => simp [intOf]; omega
      · go_wp2_with fail
        go_ret
        exact ⟨_, rfl, by omega, fun h => absurd h (by omega), Below.refl _ _⟩
    · go_wp2_with fail
      go_ret
      exact ⟨_, rfl, by omega, fun _ => ⟨hr1, by omega, by rw [HR.out.1]; omega, fun l hl => Nat.le_trans (HP.out l (by rw [HR.out.1] at hl; omega)) (by unfold maxLen; omega)⟩, Below.refl _ _⟩

set_option maxRecDepth 100000 in
theorem szStep_any (A : Option Addr) (n c : Nat) (s : Step) (lo : Nat) (left : Int) (w : World) (hr : RStr w lo A n s.after) (hn : n ≤ maxLen) (hs : ∀ j, j < n → (nth s.after j).size ≤ maxLen) (hz : s.name.size ≤ maxLen) (h0 : 0 ≤ left) (h1 : left ≤ 1048576) :
    Calls Tryd.prog 73 #[.agg #[.string s.name, .slice A n c, .bool s.undo], .int .i64 left] w (SzQ left (okStep s) w) := by
  have HR := Lib.hid hr; clear hr
  have HS := Lib.hid hs; clear hs
  have HN := Lib.hid hn; clear hn
  have HZ := Lib.hid hz
  unfold maxLen at hz
  by_cases h : (s.name.size : Int) ≤ left
  · go_enter Tryd.func73, Tryd.ntmps73
    go_wp2_with fail
    refine (szStringS_any _ _ _ s.after _ _ _ (HR.out.alloc _) HN.out HS.out (by omega) (by omega)).mono ?_
    rintro e w1 ⟨r, rfl, hr0, hr1, hb⟩
    have HB := Lib.hid (((Below.refl w.heap.size w).alloc (Nat.le_refl _) (.cells #[.string s.name, .slice A n c, .bool s.undo] 90)).trans (hb.mono (by simp)))
    clear hb
    have HR1 := Lib.hid hr1; clear hr1
    by_cases hneg : r < 0
    · go_wp2_with fail
      go_ret
      exact ⟨_, rfl, by omega, fun h => absurd h (by omega), HB.out⟩
    · go_wp2_with fail
      go_ret
      exact ⟨_, rfl, by omega, fun hp => ⟨by have := (HR1.out hp).1; omega, HZ.out, (HR1.out hp).2.2⟩, HB.out⟩
  · go_enter Tryd.func73, Tryd.ntmps73
    go_wp2_with fail
    go_ret
    exact ⟨_, rfl, by omega, fun hp => absurd hp (by omega), (Below.refl _ _).alloc (Nat.le_refl _) _⟩

theorem own_cap {w : World} {base : Nat} {e : TypeId} {size n : Nat} {A : Option Addr} {c : Nat} {xs : List Value} (h : w.ownsRow base e size (.slice A n c) n xs) : n ≤ c := by
  rcases h.2 with ⟨h1, rfl⟩ | ⟨g, cap, cur, e, _, _, h1, _⟩
  · exact Nat.zero_le _
  · injection e with _ _ e
    subst e; exact h1

set_option maxRecDepth 100000 in
theorem toStringSc_any (A : Option Addr) (n c : Nat) (xs : List Str) (lo : Nat) (w : World) (hr : RStr w lo A n xs) (hn : n ≤ 1048576) :
    Calls Tryd.prog 86 #[.slice A n c] w fun e w' => ∃ A' c', e = .returned (.slice A' n c') ∧ RStr w' w.heap.size A' n xs ∧ Below w.heap.size w w' ∧ n ≤ c' := by
  have HR := Lib.hid hr; clear hr
  obtain ⟨i0, hi0, hz0, hz1, hz2⟩ := info_parts info_str
  go_enter Tryd.func86, Tryd.ntmps86
  go_wp2_with (at_make; refine wpList_make_full _ rfl _ _ 23 rfl w.heap.size 9 i0 _ 1 Tryd.underlying23 hi0 hz0 hz1 _ _ _ _ n rfl rfl rfl rfl ?c1 ?c2 (Nat.le_refl _) ?_)
  case c1 => rw [hz2]; omega
  case c2 => unfold maxLen; omega
  intro w1 hown hgr
  have hbw : Below w.heap.size w w1 := (Below.refl _ _).grown hgr (Nat.le_refl _) (by simp)
  obtain ⟨A1, c1, hv1, hr1⟩ := own_fresh_str hown
  have hle := own_cap hown
  injection hv1 with hA1 hn1 hc1
  subst hA1
  clear hn1 hc1 hown hgr
  have HR1 := Lib.hid hr1; clear hr1
  have HB1 := Lib.hid hbw; clear hbw
  go_wp2_with fail
  go_loopw [4] (fun i wr => ∃ j : Nat, ∃ ys : List Str, j ≤ n ∧ i = .int .i64 (j : Int) ∧ RStr wr w.heap.size (some ⟨w.heap.size, 0, none⟩) n ys ∧ (∀ l, l < j → nth ys l = nth xs l) ∧ Below w.heap.size w wr) (fun i _ => n - (intOf i).toNat)
  case atStart => exact ⟨0, _, Nat.zero_le _, rfl, HR1.out, fa_zero, HB1.out⟩
  case round =>
    obtain ⟨j, ys, hj, rfl, hys, hp, hb⟩ := hrel
    have HP := Lib.hid hp; clear hp
    have HB := Lib.hid hb; clear hb
    have HY := Lib.hid hys; clear hys
    by_cases hlt : j < n
    · obtain ⟨b, off, rfl, ⟨hb1, hb2⟩, hc⟩ := RStr.at_ (HR.out.below HB.out) hlt
      obtain ⟨d1, _⟩ := hc j hlt
      clear hc
      obtain ⟨b', off', e', _, hc⟩ := RStr.at_ HY.out hlt
      injection e' with e'; injection e' with e1 e2
      have HE := Lib.hid e1; clear e1
      subst e2
      obtain ⟨f1, f2⟩ := hc j hlt
      rw [← HE.out, Nat.zero_add] at f1 f2
      clear hc
      go_wp2_with fail
      go_roundw
      case rel =>
        refine ⟨j + 1, ys.set j (nth xs j), by omega, by go_num, ?_, ?_, HB.out.setCell (Nat.le_refl _) _⟩
        · have := RStr.set_ HY.out hlt (nth xs j)
          rwa [Nat.zero_add] at this
        · intro l hl
          rw [nth_set (by rw [HY.out.1]; exact hlt)]
          by_cases e : l = j
          · rw [if_pos e, e]
          · rw [if_neg e]; exact HP.out l (by omega)
      case measure => simp [intOf]; omega
    · go_wp2_with fail
      go_ret
      refine ⟨_, _, rfl, ?_, HB.out, hle⟩
      have e : ys = xs := list_ext (by rw [HY.out.1, HR.out.1]) (fun l hl => HP.out l (by rw [HY.out.1] at hl; omega))
      rw [← e]; exact HY.out

theorem toStringS_any (A : Option Addr) (n c : Nat) (xs : List Str) (lo : Nat) (w : World) (hr : RStr w lo A n xs) (hn : n ≤ 1048576) :
    Calls Tryd.prog 86 #[.slice A n c] w fun e w' => ∃ A' c', e = .returned (.slice A' n c') ∧ RStr w' w.heap.size A' n xs ∧ Below w.heap.size w w' :=
  (toStringSc_any A n c xs lo w hr hn).mono (fun _ _ ⟨A', c', h1, h2, h3, _⟩ => ⟨A', c', h1, h2, h3⟩)

set_option maxRecDepth 100000 in
theorem toStepc_any (A : Option Addr) (n c : Nat) (s : Step) (lo : Nat) (w : World) (hr : RStr w lo A n s.after) (hn : n ≤ 1048576) :
    Calls Tryd.prog 74 #[.agg #[.string s.name, .slice A n c, .bool s.undo]] w fun e w' => ∃ A' c', e = .returned (.agg #[.string s.name, .slice A' n c', .bool s.undo]) ∧ RStr w' w.heap.size A' n s.after ∧ Below w.heap.size w w' ∧ n ≤ c' := by
  have HR := Lib.hid hr; clear hr
  go_enter Tryd.func74, Tryd.ntmps74
  go_wp2_with fail
  refine (toStringSc_any _ _ _ s.after _ _ (((HR.out.alloc _).alloc _).alloc _) hn).mono ?_
  rintro e w1 ⟨A2, c2, rfl, hr2, hb, hle⟩
  have hsz : (((w.alloc (.cells #[.string s.name, .slice A n c, .bool s.undo] 90)).alloc (.cells #[.string ⟨#[]⟩, .slice none 0 0, .bool false] 25)).alloc (.cells #[.string s.name, .slice none 0 0, .bool false] 25)).heap.size = w.heap.size + 1 + 1 + 1 := by simp
  rw [hsz] at hr2 hb
  have H0 := Lib.hid ((hb.block w.heap.size (by omega)).trans (heap_old (o := .cells #[.string s.name, .slice none 0 0, .bool false] 25) (heap_old (o := .cells #[.string ⟨#[]⟩, .slice none 0 0, .bool false] 25) (heap_new (w := w) (o := .cells #[.string s.name, .slice A n c, .bool s.undo] 90) rfl))))
  have H1 := Lib.hid ((hb.block (w.heap.size + 1) (by omega)).trans (heap_old (o := .cells #[.string s.name, .slice none 0 0, .bool false] 25) (heap_new (b := w.heap.size + 1) (o := .cells #[.string ⟨#[]⟩, .slice none 0 0, .bool false] 25) (by simp))))
  have H2 := Lib.hid ((hb.block (w.heap.size + 1 + 1) (by omega)).trans (heap_new (b := w.heap.size + 1 + 1) (o := .cells #[.string s.name, .slice none 0 0, .bool false] 25) (by simp)))
  have HB := Lib.hid (((((Below.refl w.heap.size w).alloc (Nat.le_refl _) (.cells #[.string s.name, .slice A n c, .bool s.undo] 90)).alloc (by simp) (.cells #[.string ⟨#[]⟩, .slice none 0 0, .bool false] 25)).alloc (by simp; omega) (.cells #[.string s.name, .slice none 0 0, .bool false] 25)).trans (hb.mono (by omega)))
  have HR2 := Lib.hid hr2
  clear hr2 hb hsz
  have H3 := Lib.hid (set31 (u := .slice A2 n c2) H2.out)
  have H4 := Lib.hid (show ((w1.setCell ⟨w.heap.size + 1 + 1, 1, none⟩ (.slice A2 n c2)).setCell ⟨w.heap.size + 1 + 1, 2, none⟩ (.bool s.undo)).heap[w.heap.size + 1 + 1]? = some (.cells #[.string s.name, .slice A2 n c2, .bool s.undo] 25 (0, 0)) from set_at H3.out)
  have H5 := Lib.hid (set_ne (b := w.heap.size + 1 + 1) (o := 2) (u := .bool s.undo) (set_ne (b := w.heap.size + 1 + 1) (o := 1) (u := .slice A2 n c2) H1.out (by omega)) (by omega))
  have H6 := Lib.hid (set_ne (b := w.heap.size + 1 + 1) (o := 1) (u := .slice A2 n c2) H0.out (by omega))
  have a2 := (blk_cl (k := 2) H0.out rfl).1
  have a3 := (blk_cl (k := 2) H6.out rfl).1
  have c1 := (blk_cl (k := 1) H2.out rfl).1
  have d1 := (blk_cl (k := 1) H2.out rfl).2
  have c2' := (blk_cl (k := 2) H3.out rfl).1
  have d2' := (blk_cl (k := 2) H3.out rfl).2
  have e0 := (blk_cl (k := 0) H4.out rfl).1
  have e1 := (blk_cl (k := 1) H4.out rfl).1
  have e2 := (blk_cl (k := 2) H4.out rfl).1
  have g0 := (blk_cl (k := 0) H5.out rfl).1
  have g0' := (blk_cl (k := 0) H5.out rfl).2
  have g1 := (blk_cl (k := 1) H5.out rfl).1
  have g1' := (blk_cl (k := 1) H5.out rfl).2
  have g2 := (blk_cl (k := 2) H5.out rfl).1
  have g2' := (blk_cl (k := 2) H5.out rfl).2
  go_wp2_with fail
  have hres := set3 (u0 := .string s.name) (u1 := .slice A2 n c2) (u2 := .bool s.undo) H5.out
  have p0 := (blk_cl (k := 0) hres rfl).1
  have p1 := (blk_cl (k := 1) hres rfl).1
  have p2 := (blk_cl (k := 2) hres rfl).1
  have l1 : w.heap.size + 1 < w.heap.size + 1 + 1 + 1 := by omega
  have l2 : w.heap.size + 1 + 1 < w.heap.size + 1 + 1 + 1 := by omega
  have q1 : w.heap.size ≤ w.heap.size + 1 := by omega
  have q2 : w.heap.size ≤ w.heap.size + 1 + 1 := by omega
  exact bodyPost_ret (v := .agg #[.string s.name, .slice A2 n c2, .bool s.undo]) (by simp [results, Tryd.results74, go_sem, p0, p1, p2]) rfl
    ⟨_, _, rfl, (((((HR2.out.setLow l2).setLow l2).setLow l1).setLow l1).setLow l1).lower (by omega),
      ((((HB.out.setCell (p := ⟨w.heap.size + 1 + 1, 1, none⟩) q2 _).setCell (p := ⟨w.heap.size + 1 + 1, 2, none⟩) q2 _).setCell (p := ⟨w.heap.size + 1, 0, none⟩) q1 _).setCell (p := ⟨w.heap.size + 1, 1, none⟩) q1 _).setCell (p := ⟨w.heap.size + 1, 2, none⟩) q1 _, hle⟩

theorem toStep_any (A : Option Addr) (n c : Nat) (s : Step) (lo : Nat) (w : World) (hr : RStr w lo A n s.after) (hn : n ≤ 1048576) :
    Calls Tryd.prog 74 #[.agg #[.string s.name, .slice A n c, .bool s.undo]] w fun e w' => ∃ A' c', e = .returned (.agg #[.string s.name, .slice A' n c', .bool s.undo]) ∧ RStr w' w.heap.size A' n s.after ∧ Below w.heap.size w w' :=
  (toStepc_any A n c s lo w hr hn).mono (fun _ _ ⟨A', c', h1, h2, h3, _⟩ => ⟨A', c', h1, h2, h3⟩)

set_option maxRecDepth 100000 in
theorem eqStep_same (A B : Option Addr) (n c d : Nat) (s : Step) (lo lo' : Nat) (w : World) (hr : RStr w lo A n s.after) (hn : n ≤ 1048576) (hr' : RStr w lo' B n s.after) :
    Calls Tryd.prog 16 #[.agg #[.string s.name, .slice A n c, .bool s.undo], .agg #[.string s.name, .slice B n d, .bool s.undo]] w fun e w' => e = .returned (.bool true) ∧ Below w.heap.size w w' := by
  have HX := Lib.hid hr; clear hr
  have HY := Lib.hid hr'; clear hr'
  have hq := seq_t (rfl : s.name = s.name)
  go_enter Tryd.func16, Tryd.ntmps16
  go_wp2_with fail
  refine (eqStringS_same _ _ _ _ _ _ s.after _ _ _ ((HX.out.alloc _).alloc _) hn ((HY.out.alloc _).alloc _)).mono ?_
  rintro e w1 ⟨rfl, q, rfl⟩
  cases hu : s.undo
  all_goals
    go_wp2_with fail
    go_ret
    exact ⟨rfl, below_drewN (((Below.refl _ _).alloc (Nat.le_refl _) _).alloc (by simp) _) _⟩
end Go.Proofs.YthdfefgianokgaaDoor

/- FnExactStepFrom: the walk. -/
namespace Go.Proofs.YthdfefgianokgaaDoor
open Go.RowKit

set_option maxRecDepth 100000 in
theorem markStep_any (A : Option Addr) (n c k : Nat) (nm : Str) (u : Bool) (xs : List Str) (lo hi : Nat) (w : World) (hr : RH strE w lo hi A n xs) (hn : n ≤ 1048576) (h1 : 1 ≤ k) (h2 : k ≤ 549755813888) (hhi : hi ≤ w.heap.size) :
    Calls Tryd.prog 17 #[.agg #[.string nm, .slice A n c, .bool u], .int .i64 (k : Int)] w fun e w' => e = .returned (.int .i64 ((k + n : Nat) : Int)) ∧ RH strE w' lo hi A n (marksS k n) ∧ Out lo hi w w' := by
  have hb0 := (Below.refl w.heap.size w).alloc (Nat.le_refl _) (.cells #[.string nm, .slice A n c, .bool u] 25)
  have HR := Lib.hid (hr.below hb0 hhi); clear hr
  have HB0 := Lib.hid hb0; clear hb0
  go_enter Tryd.func17, Tryd.ntmps17
  go_wp2_with fail
  refine (markStringS_any A n c k xs lo hi _ HR.out hn h1 h2 (by simp; omega)).mono ?_
  rintro e w1 ⟨rfl, hm, ho⟩
  have HO := Lib.hid ((Out.of_below HB0.out).trans ho); clear ho
  have HM := Lib.hid hm; clear hm
  go_wp2_with fail
  go_ret
  exact ⟨rfl, HM.out, HO.out⟩

set_option maxRecDepth 100000 in
theorem heldStep_any (A : Option Addr) (n c k : Nat) (nm : Str) (u : Bool) (lo : Nat) (w : World) (hr : RStr w lo A n (marksS k n)) (hn : n ≤ 1048576) (h1 : 1 ≤ k) (h2 : k ≤ 549755813888) :
    Calls Tryd.prog 18 #[.agg #[.string nm, .slice A n c, .bool u], .int .i64 (k : Int)] w fun e w' => e = .returned (.int .i64 ((k + n : Nat) : Int)) ∧ Below w.heap.size w w' := by
  have HR := Lib.hid (hr.alloc (.cells #[.string nm, .slice A n c, .bool u] 25)); clear hr
  have HB0 := Lib.hid ((Below.refl w.heap.size w).alloc (Nat.le_refl _) (.cells #[.string nm, .slice A n c, .bool u] 25))
  go_enter Tryd.func18, Tryd.ntmps18
  go_wp2_with fail
  refine (heldStringS_any A n c k lo _ HR.out hn h1 h2).mono ?_
  rintro e w1 ⟨rfl, hb1⟩
  have HB1 := Lib.hid (HB0.out.trans (hb1.mono HB0.out.size))
  have hpos : ¬ (((k + n : Nat) : Int) < 0) := by omega
  clear hb1
  go_wp2_with fail
  go_ret
  exact ⟨rfl, HB1.out⟩

set_option maxRecDepth 100000 in
set_option maxHeartbeats 2000000 in
theorem fnExactStepFrom_any (s : Str) (w : World) (hm : HasMax w) :
    Calls Tryd.prog 4 #[.string s] w fun e w' => e = .returned (.bool true) ∧ Below w.heap.size w w' := by
  have HM := Lib.hid hm; clear hm
  by_cases hn : 1048576 < s.size
  · go_enter Tryd.func4, Tryd.ntmps4
    go_wp2_with fail
    go_ret
    exact ⟨rfl, Below.refl _ _⟩
  go_enter Tryd.func4, Tryd.ntmps4
  go_wp2_with fail
  refine (stepFromS_any s w (by omega)).mono ?_
  rintro e w1 ⟨A1, n, c1, rfl, hs1, hb1⟩
  have hn4 : n ≤ 4 := by
    have e1 := hs1.1
    cases hB : fromB s
    · rw [from_not hB] at e1
      have : n = 0 := e1.symm
      omega
    · have := (stepB_sizes (from_ex hB).1).1
      omega
  have hbb : (fromB s != fromB s) = false := by simp
  have HX1 := Lib.hid (heap_new (w := w1) (o := .cells #[.string (fromT s).name, .slice A1 n c1, .bool (fromT s).undo] 25) rfl)
  have HS1 := Lib.hid (hs1.hat.alloc (.cells #[.string (fromT s).name, .slice A1 n c1, .bool (fromT s).undo] 25))
  have HB1 := Lib.hid (hb1.alloc hb1.size (.cells #[.string (fromT s).name, .slice A1 n c1, .bool (fromT s).undo] 25))
  have hszW : (w1.alloc (.cells #[.string (fromT s).name, .slice A1 n c1, .bool (fromT s).undo] 25)).heap.size = w1.heap.size + 1 := by simp
  clear hs1 hb1
  go_wp2_with fail
  generalize w1.alloc (.cells #[.string (fromT s).name, .slice A1 n c1, .bool (fromT s).undo] 25) = W1 at *
  refine (stepFromI_any s W1 (by omega) (HM.out.below HB1.out rfl)).mono ?_
  rintro e w2 ⟨A2, n2, c2, rfl, hs2, _, hb2⟩
  obtain rfl : n2 = n := by have := hs2.1; have := HS1.out.1; omega
  have HX2 := Lib.hid (heap_old (o := .cells #[.string (fromT s).name, .slice A2 n2 c2, .bool (fromT s).undo] 25) ((hb2.block _ (heap_lt HX1.out)).trans HX1.out))
  have HY2 := Lib.hid (heap_new (w := w2) (o := .cells #[.string (fromT s).name, .slice A2 n2 c2, .bool (fromT s).undo] 25) rfl)
  have hsz2 := hb2.size
  have hw0 := HB1.out.size
  have HR2 := Lib.hid (RH.below (B := w2.heap.size) hs2.hat ((Below.refl w2.heap.size w2).alloc (Nat.le_refl _) (.cells #[.string (fromT s).name, .slice A2 n2 c2, .bool (fromT s).undo] 25)) (Nat.le_refl _))
  have HA2 := Lib.hid ((RH.below (hi1 := W1.heap.size) HS1.out hb2 (Nat.le_refl _)).below (B := w2.heap.size) ((Below.refl w2.heap.size w2).alloc (Nat.le_refl _) (.cells #[.string (fromT s).name, .slice A2 n2 c2, .bool (fromT s).undo] 25)) hsz2)
  have HB2' := Lib.hid (HB1.out.trans (hb2.mono HB1.out.size))
  have HB2 := Lib.hid (HB2'.out.alloc HB2'.out.size (.cells #[.string (fromT s).name, .slice A2 n2 c2, .bool (fromT s).undo] 25))
  have hszW2 : (w2.alloc (.cells #[.string (fromT s).name, .slice A2 n2 c2, .bool (fromT s).undo] 25)).heap.size = w2.heap.size + 1 := by simp
  clear hs2 hb2 HX1 HS1 HB1 HB2'
  have x0 := (blk_cl (k := 0) HX2.out rfl).1
  have x1 := (blk_cl (k := 1) HX2.out rfl).1
  have x2 := (blk_cl (k := 2) HX2.out rfl).1
  have y0 := (blk_cl (k := 0) HY2.out rfl).1
  have y1 := (blk_cl (k := 1) HY2.out rfl).1
  have y2 := (blk_cl (k := 2) HY2.out rfl).1
  go_wp2_with (go_at_call 16; refine (eqStep_same A2 A1 n2 c2 c1 (fromT s) _ _ _ (HR2.out.up (by omega)) (by omega) (HA2.out.up (by omega))).mono ?_; rintro e w3 ⟨rfl, hb3⟩; have hy3 := (hb3.block _ (heap_lt HY2.out)).trans HY2.out; have y03 := (blk_cl (k := 0) hy3 rfl).1; have y13 := (blk_cl (k := 1) hy3 rfl).1; have y23 := (blk_cl (k := 2) hy3 rfl).1)
  have HX3 := Lib.hid ((hb3.block _ (heap_lt HX2.out)).trans HX2.out)
  have HY3 := Lib.hid hy3
  have HR3 := Lib.hid (HR2.out.below hb3 (by omega))
  have HA3 := Lib.hid (HA2.out.below hb3 (by omega))
  have HB3 := Lib.hid (HB2.out.trans (hb3.mono HB2.out.size))
  have hs3 := hb3.size
  clear hb3 hy3 x0 x1 x2 y0 y1 y2 y03 y13 y23 HX2 HY2 HR2 HA2 HB2
  refine (markStep_any A2 n2 c2 1 _ _ (fromT s).after W1.heap.size w2.heap.size w3 HR3.out (by omega) (by omega) (by omega) (by omega)).mono ?_
  rintro e w4 ⟨rfl, hm4, ho4⟩
  have HX4 := Lib.hid ((ho4.block _ (heap_lt HX3.out) (.inl (by omega))).trans HX3.out)
  have HY4 := Lib.hid ((ho4.block _ (heap_lt HY3.out) (.inr (Nat.le_refl _))).trans HY3.out)
  have HA4 := Lib.hid (HA3.out.out ho4 (by omega) (.inl (Nat.le_refl _)))
  have HB4 := Lib.hid (HB3.out.trans ((ho4.below (by omega)).mono (by omega)))
  have HM4 := Lib.hid hm4
  have hs4 := ho4.size
  clear hm4 ho4 HX3 HY3 HR3 HA3 HB3
  have y04 := (blk_cl (k := 0) HY4.out rfl).1
  have y14 := (blk_cl (k := 1) HY4.out rfl).1
  have y24 := (blk_cl (k := 2) HY4.out rfl).1
  have hpos : ¬ (((1 + n2 : Nat) : Int) < 0) := by omega
  have hqq : (((1 + n2 : Nat) : Int) != ((1 + n2 : Nat) : Int)) = false := by simp
  go_wp2_with fail
  refine (heldStep_any A2 n2 c2 1 _ _ W1.heap.size w4 (HM4.out.up (by omega)) (by omega) (by omega) (by omega)).mono ?_
  rintro e w5 ⟨rfl, hb5⟩
  have HX5 := Lib.hid ((hb5.block _ (heap_lt HX4.out)).trans HX4.out)
  have HY5 := Lib.hid ((hb5.block _ (heap_lt HY4.out)).trans HY4.out)
  have HA5 := Lib.hid (HA4.out.below hb5 (by omega))
  have HM5 := Lib.hid (HM4.out.below hb5 (by omega))
  have HB5 := Lib.hid (HB4.out.trans (hb5.mono HB4.out.size))
  have hs5 := hb5.size
  clear hb5 HX4 HY4 HA4 HM4 HB4 y04 y14 y24
  go_wp2_with fail
  refine (stepFromI_any s w5 (by omega) (HM.out.below HB5.out rfl)).mono ?_
  rintro e w6 ⟨A6, n6, c6, rfl, hs6, _, hb6⟩
  obtain rfl : n6 = n2 := by have h1 := hs6.1; have h2 := HA5.out.1; omega
  have hs6s := hb6.size
  have HX6 := Lib.hid (heap_old (o := .cells #[.string (fromT s).name, .slice A6 n6 c6, .bool (fromT s).undo] 25) ((hb6.block _ (heap_lt HX5.out)).trans HX5.out))
  have HY6 := Lib.hid (heap_old (o := .cells #[.string (fromT s).name, .slice A6 n6 c6, .bool (fromT s).undo] 25) ((hb6.block _ (heap_lt HY5.out)).trans HY5.out))
  have HZ6 := Lib.hid (heap_new (w := w6) (o := .cells #[.string (fromT s).name, .slice A6 n6 c6, .bool (fromT s).undo] 25) rfl)
  have ha6 := (Below.refl w6.heap.size w6).alloc (Nat.le_refl _) (.cells #[.string (fromT s).name, .slice A6 n6 c6, .bool (fromT s).undo] 25)
  have HA6 := Lib.hid ((HA5.out.below hb6 (by omega)).below ha6 (by omega))
  have HM6 := Lib.hid ((HM5.out.below hb6 (by omega)).below ha6 (by omega))
  have HS6 := Lib.hid (hs6.hat.alloc (.cells #[.string (fromT s).name, .slice A6 n6 c6, .bool (fromT s).undo] 25))
  have HB6 := Lib.hid ((HB5.out.trans (hb6.mono HB5.out.size)).alloc (HB5.out.trans (hb6.mono HB5.out.size)).size (.cells #[.string (fromT s).name, .slice A6 n6 c6, .bool (fromT s).undo] 25))
  have hszW6 : (w6.alloc (.cells #[.string (fromT s).name, .slice A6 n6 c6, .bool (fromT s).undo] 25)).heap.size = w6.heap.size + 1 := by simp
  clear hs6 hb6 ha6 HX5 HY5 HA5 HM5 HB5
  have x0 := (blk_cl (k := 0) HX6.out rfl).1
  have x1 := (blk_cl (k := 1) HX6.out rfl).1
  have x2 := (blk_cl (k := 2) HX6.out rfl).1
  have z0 := (blk_cl (k := 0) HZ6.out rfl).1
  have z1 := (blk_cl (k := 1) HZ6.out rfl).1
  have z2 := (blk_cl (k := 2) HZ6.out rfl).1
  go_wp2_with (go_at_call 16; refine (eqStep_same A6 A1 n6 c6 c1 (fromT s) _ _ _ HS6.out (by omega) (HA6.out.up (by omega))).mono ?_; rintro e w7 ⟨rfl, hb7⟩; have hy7 := (hb7.block _ (heap_lt HY6.out)).trans HY6.out; have y07 := (blk_cl (k := 0) hy7 rfl).1; have y17 := (blk_cl (k := 1) hy7 rfl).1; have y27 := (blk_cl (k := 2) hy7 rfl).1)
  have hs7 := hb7.size
  refine (heldStep_any A2 n6 c2 1 _ _ W1.heap.size w7 ((HM6.out.below hb7 (by omega)).up (by omega)) (by omega) (by omega) (by omega)).mono ?_
  rintro e w8 ⟨rfl, hb8⟩
  have HB7 := Lib.hid (HB6.out.trans (hb7.mono HB6.out.size))
  have HB8 := Lib.hid (HB7.out.trans (hb8.mono HB7.out.size))
  clear hb7 hb8 hy7 y07 y17 y27
  go_wp2_with fail
  go_ret
  exact ⟨rfl, HB8.out⟩
end Go.Proofs.YthdfefgianokgaaDoor

/- FnExactStepFrom's card: it returns true at every input that its row takes, and leaves its arguments as they were. No condition but the row's. -/
namespace Go.Proofs.YthdfefgianokgaaDoor
open Go.ChangeShapes Go.WideShapes Go.ChangeAt Go.RowKit Go.ChangeMaps

set_option maxRecDepth 100000 in
theorem fnExactStepFrom_lifted (os : Os) (started : os.Started) (H : Type) (enc : TypeId × Value → H) :
    ReturnsInHanded {} Tryd.checked os 4 .any (fun w args => (Rows.fnExactStepFromSpec.pre enc Tryd.prog Tryd.f4 Rows.fnExactStepFromRow.domain false w args ∧ laidMetH Tryd.prog Rows.fnExactStepFromRow.laid w) ∧ sizedMet enc Tryd.prog Tryd.f4 (OpenSpec.ofChange Rows.fnExactStepFromSpec) false w args)
      (Rows.fnExactStepFromSpec.post enc Tryd.prog Tryd.f4 false true false false) := by
  refine handed_laid (C := Tryd.checked) (X := fun w _ => laidMetH Tryd.prog Rows.fnExactStepFromRow.laid w) (fun _ _ _ hh h => h.of_heap hh) Tryd.own started (by kernel_rfl) Tryd.func4
    (ChangeSpec.witness_shaped (enc := enc) (C := Tryd.checked) (os := os) (X := fun w _ => laidMetH Tryd.prog Rows.fnExactStepFromRow.laid w) false (World.laidAll Tryd.prog os Rows.fnExactStepFromRow.laid) #[.string ⟨#[]⟩] 8 (World.laidAll_os _ _ _)
      (World.shaped_of_ZipB (by kernel_rfl) (by kernel_rfl)) (by kernel_rfl) (by kernel_rfl) (by kernel_rfl)
      (by rw [MakeChecks.laidMetH_plain _ _ _ (by kernel_rfl)]; exact laidMet_laidAll _ (by kernel_rfl) (by kernel_rfl))) ?_
  intro W base args ds gs before hval0 hW hsh hL
  have hval : ∀ (j : Nat) t v, Tryd.f4.params[j]? = some t → args[j]? = some v → Value.okWide Tryd.prog W .any base t v := hval0
  have hW' := hW
  obtain ⟨p, q, hA0, hV, rfl, hfz, hnd⟩ := hW
  have hA : DataW.TrodAll enc Tryd.prog W 0 (fun _ => true) true Tryd.f4.params.toList args.toList ds p := hA0
  rw [Tryd.params4] at hA hval
  obtain ⟨v0, d0, rfl, rfl, h0⟩ := trodAll_one hA
  obtain ⟨rfl, rfl⟩ := trodVars_none hV
  obtain ⟨s, rfl, rfl, rfl, hsz⟩ := open_string Tryd.underlying9 (hval 0 9 v0 rfl rfl) h0
  clear hA0 hval0 hA
  simp only [List.append_nil] at hW'
  refine (fnExactStepFrom_any s W (Tryd.laysM145.s1_3 W hsh)).mono fun e W' ⟨he, hb⟩ => ?_
  subst he
  exact ⟨_, rfl, post_law hW' rfl (by kernel_rfl) Tryd.underlying4 rfl rfl rfl (trodAll_mk1 (shut_string Tryd.underlying9 hsz)) hb⟩

theorem fnExactStepFrom_row : Rows.FnExactStepFromSaid :=
  OpenClaim.holds_of_wide 4 Tryd.f4 rfl rfl rfl rfl rfl rfl rfl ⟨rfl, rfl, rfl, rfl, rfl⟩ rfl rfl rfl rfl rfl (by kernel_rfl) Tryd.func4 (by kernel_rfl)
    (of_decide_eq_true (by kernel_rfl)) (by unfold Func.isWrapper; rw [if_neg (by decide +kernel)]; exact ⟨rfl, rfl⟩)
    (fun os started H enc _ => fnExactStepFrom_lifted os started H enc)

theorem fnExactStepFrom_holds : Rows.FnExactStepFromCardSaid :=
  Claim7.holds_tied_plain_at .later [] Rows.fnExactStepFromCard.laidKinds true Rows.fnExactStepFromCard.stood.harness false fnExactStepFrom_row (fun _ h => by cases h) (by kernel_rfl) (fun _ h => by cases h) fnExactStepFrom_row_tie rfl ⟨rfl, rfl⟩ (by kernel_rfl) rfl
    (fun f fn hf hfn => by
      obtain rfl : f = 4 := Option.some.inj ((show Tryd.prog.funcNamed "loop.example/sagaflows/laws.FnExactStepFrom" = some 4 by kernel_rfl).symm.trans hf) |>.symm
      obtain rfl : fn = Tryd.f4 := (Option.some.inj (Tryd.func4.symm.trans hfn)).symm
      exact ⟨by kernel_rfl, fun j t ht => by
        rw [Tryd.params4] at ht
        have hm : t ∈ [9] := by simpa using Array.mem_of_getElem? ht
        have hall : ([9].all fun u => !Tryd.prog.wantsStandIn u) = true := by kernel_rfl
        exact (show Tryd.prog.wantsStandIn t = false by simpa using List.all_eq_true.1 hall t hm)⟩)
    (by kernel_rfl)
end Go.Proofs.YthdfefgianokgaaDoor
