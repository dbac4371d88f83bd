/- What the exact laws need beside the functions: sizes, copies, equality, marks. -/
import Derived.Test.YtfcbpgpmafmkhaaW2
import Derived.Deep.RegionHeld3
namespace Go.Proofs.Ytfcbpgpmafmkhaa
open Go.RowKit

def decL : Nat → Nat → List UInt8 → List UInt8
  | 0, _, acc => acc
  | f + 1, k, acc => if k = 0 then acc else decL f (k / 10) ((48 + UInt8.ofNat (k % 10)) :: acc)
def markS (k : Nat) : Str := ⟨(109 :: decL k k []).toArray⟩

theorem conv1 (W : World) (b : Nat) (n : Int) (h : W.heap[b]? = some (.cells #[.int .u8 n] 5 (0, 0))) :
    (convert 33 9 (.slice (some ⟨b, 0, none⟩) 1 1)).run Try.prog W = .ok (.string ⟨#[UInt8.ofNat n.toNat]⟩) W := by
  rw [run_convert_bytes_string W _ _ _ _ _ _ Try.underlying33 Try.underlying5 Try.underlying9]
  rw [run_bytesToString W ⟨b, 0, none⟩ 1 1 [n]]
  · rfl
  · have hc := (blk_cl (k := 0) h rfl).1
    exact run_loadCells_list (P := Try.prog) (w := W) ⟨b, 0, none⟩ [.int .u8 n] (fun j v hv => by
      match j, hv with
      | 0, hv =>
        have : v = .int .u8 n := by simpa using hv.symm
        subst this
        exact hc)

theorem bcat (a b : List UInt8) : (⟨a.toArray⟩ : ByteArray) ++ ⟨b.toArray⟩ = ⟨(a ++ b).toArray⟩ := by
  apply ByteArray.ext; simp
theorem str_congr {a b : Str} (h : a = b) : Value.string a = Value.string b := by rw [h]

set_option maxRecDepth 100000 in
theorem markText_any (k : Nat) (w : World) (h1 : 1 ≤ k) (h2 : k ≤ 1099511627776) :
    Calls Try.prog 78 #[.int .i64 (k : Int)] w fun e w' => e = .returned (.string (markS k)) ∧ Below w.heap.size w w' := by
  go_enter Try.func78, Try.ntmps78
  go_wp2_with fail
  go_loopw [0, 3] (fun j o wr => ∃ jn f : Nat, ∃ acc : List UInt8, jn ≤ f ∧ acc.length + jn ≤ 1099511627776 ∧ j = .int .i64 (jn : Int) ∧ o = .string ⟨acc.toArray⟩ ∧ decL f jn acc = decL k k [] ∧ Below w.heap.size w wr) (fun j _ _ => (intOf j).toNat)
  case atStart => exact ⟨k, k, [], Nat.le_refl _, by simpa using h2, rfl, rfl, rfl, Below.refl _ _⟩
  case round =>
    obtain ⟨jn, f, acc, hf, hj, rfl, rfl, hd, hb⟩ := hrel
    have HD := Lib.hid hd; clear hd
    have HB := Lib.hid hb; clear hb
    by_cases h0 : 0 < jn
    · have hcv := conv1 (wr.alloc (.cells #[.int .u8 (48 + (jn : Int) % 10)] 5)) wr.heap.size (48 + (jn : Int) % 10) (heap_new rfl)
      go_wp2_with fail
      go_roundw
      case rel =>
        obtain ⟨f', rfl⟩ : ∃ f', f = f' + 1 := ⟨f - 1, by omega⟩
        refine ⟨jn / 10, f', (48 + UInt8.ofNat (jn % 10)) :: acc, by omega, by simp; omega, by go_num, str_congr (bcat [_] acc), ?_, HB.out.alloc HB.out.size _⟩
        rw [← HD.out, decL, if_neg (by omega)]
      case measure => simp [intOf]; omega
    · have h0' : (jn : Int) < 1 := by omega
      go_wp2_with fail
      go_ret
      refine ⟨ret_s ?_, HB.out⟩
      have hz : jn = 0 := by omega
      have hd := HD.out
      subst hz
      unfold markS
      have e : decL f 0 acc = acc := by cases f <;> simp [decL]
      rw [← hd, e]
      exact bcat [109] acc

def marksS (k n : Nat) : List Str := (List.range n).map fun j => markS (k + j)
theorem marksS_len (k n : Nat) : (marksS k n).length = n := by simp [marksS]
theorem marksS_at {k n j : Nat} (hj : j < n) : nth (marksS k n) j = markS (k + j) := by
  rw [nth_eq (by rw [marksS_len]; exact hj)]; simp [marksS]

set_option maxRecDepth 100000 in
theorem markStringS_any (A : Option Addr) (n c k : Nat) (xs : List Str) (lo hi : Nat) (w : World) (hr : RH strE w lo hi A n xs) (hn : n ≤ 1048576) (h1 : 1 ≤ k) (h2 : k ≤ 549755813888) (hhi : hi ≤ w.heap.size) :
    Calls Try.prog 79 #[.slice A n c, .int .i64 (k : Int)] w fun e w' => e = .returned (.int .i64 ((k + n : Nat) : Int)) ∧ RH strE w' lo hi A n (marksS k n) ∧ Out lo hi w w' := by
  have HR := Lib.hid hr; clear hr
  go_enter Try.func79, Try.ntmps79
  go_wp2_with fail
  go_loopw [1, 5] (fun q i wr => ∃ j m : Nat, ∃ ys : List Str, j ≤ n ∧ i = .int .i64 (j : Int) ∧ q = .int .i64 (m : Int) ∧ m = k + j ∧ RH strE wr lo hi A n ys ∧ (∀ l, l < j → nth ys l = markS (k + l)) ∧ Out lo hi w wr) (fun _ i _ => n - (intOf i).toNat)
  case atStart => exact ⟨0, k, xs, Nat.zero_le _, rfl, rfl, rfl, HR.out, fa_zero, Out.refl⟩
  case round =>
    obtain ⟨j, m, ys, hj, rfl, rfl, hm, hys, hp, hb⟩ := hrel
    have HM := Lib.hid hm
    have HP := Lib.hid hp; clear hp
    have HB := Lib.hid hb; clear hb
    have HY := Lib.hid hys; clear hys
    have hm1 : 1 ≤ m := by omega
    have hm2 : m ≤ 1099511627776 := by omega
    have hm3 : (m : Int) ≤ 1099511627776 := by omega
    clear hm
    by_cases hlt : j < n
    · obtain ⟨b, off, rfl, ⟨hb1, hb3⟩, hc⟩ := RStr.hat HY.out hlt
      have hwr : hi ≤ wr.heap.size := Nat.le_trans hhi HB.out.size
      have hb2 : b < wr.heap.size := by omega
      obtain ⟨c1, c2⟩ := hc j hlt
      clear hc
      go_wp2_with fail
      refine (markText_any m _ hm1 hm2).mono ?_
      rintro e w1 ⟨rfl, hbw⟩
      have d1 := (hbw.cell (p := ⟨b, off + j, none⟩) hb2).trans c1
      have d2 := (hbw.frozen (p := ⟨b, off + j, none⟩) hb2).trans c2
      clear c1 c2
      have HBW := Lib.hid hbw; clear hbw
      go_wp2_with fail
      go_roundw
      case rel =>
        refine ⟨j + 1, m + 1, ys.set j (markS m), by omega, by go_num, by go_num, by rw [HM.out, Nat.add_assoc], RStr.hset (HY.out.below HBW.out hwr) hlt (markS m), ?_, (HB.out.trans (Out.of_below HBW.out)).set_ hb1 hb3 _ _⟩
        intro l hl
        rw [nth_set (by rw [HY.out.1]; exact hlt)]
        by_cases e : l = j
        · rw [if_pos e, e, HM.out]
        · rw [if_neg e]; exact HP.out l (by omega)
      case measure => simp [intOf]; omega
    · go_wp2_with fail
      go_ret
      refine ⟨ret_i (by rw [HM.out, show j = n by omega]), ?_, HB.out⟩
      have e : ys = marksS k n := list_ext (by rw [HY.out.1, marksS_len]) (fun l hl => by rw [HP.out l (by rw [HY.out.1] at hl; omega), marksS_at (by rw [HY.out.1] at hl; exact hl)])
      rw [← e]; exact HY.out

/-! ### ints -/
def marksI (k n : Nat) : List Int := (List.range n).map fun j => ((k + j : Nat) : Int)
theorem marksI_len (k n : Nat) : (marksI k n).length = n := by simp [marksI]
theorem marksI_at {k n j : Nat} (hj : j < n) : nth (marksI k n) j = ((k + j : Nat) : Int) := by
  rw [nth_eq (by rw [marksI_len]; exact hj)]; simp [marksI]

set_option maxRecDepth 100000 in
theorem markIntS_any (A : Option Addr) (n c k : Nat) (xs : List Int) (lo hi : Nat) (w : World) (hr : RH intE w lo hi A n xs) (hn : n ≤ 1048576) (h2 : k ≤ 549755813888) :
    Calls Try.prog 47 #[.slice A n c, .int .i64 (k : Int)] w fun e w' => e = .returned (.int .i64 ((k + n : Nat) : Int)) ∧ RH intE w' lo hi A n (marksI k n) ∧ Out lo hi w w' := by
  have HR := Lib.hid hr; clear hr
  go_enter Try.func47, Try.ntmps47
  go_wp2_with fail
  go_loopw [1, 5] (fun q i wr => ∃ j m : Nat, ∃ ys : List Int, j ≤ n ∧ i = .int .i64 (j : Int) ∧ q = .int .i64 (m : Int) ∧ m = k + j ∧ RH intE wr lo hi A n ys ∧ (∀ l, l < j → nth ys l = ((k + l : Nat) : Int)) ∧ Out lo hi w wr) (fun _ i _ => n - (intOf i).toNat)
  case atStart => exact ⟨0, k, xs, Nat.zero_le _, rfl, rfl, rfl, HR.out, fa_zero, Out.refl⟩
  case round =>
    obtain ⟨j, m, ys, hj, rfl, rfl, hm, hys, hp, hb⟩ := hrel
    have HM := Lib.hid hm
    have HP := Lib.hid hp; clear hp
    have HB := Lib.hid hb; clear hb
    have HY := Lib.hid hys; clear hys
    have hm3 : (m : Int) ≤ 1099511627776 := by omega
    clear hm
    by_cases hlt : j < n
    · obtain ⟨b, off, rfl, ⟨hb1, hb2⟩, hc⟩ := RInt.hat HY.out hlt
      obtain ⟨c1, c2⟩ := hc j hlt
      clear hc
      go_wp2_with fail
      go_roundw
      case rel =>
        refine ⟨j + 1, m + 1, ys.set j (m : Int), by omega, by go_num, by go_num, by rw [HM.out, Nat.add_assoc], RInt.hset HY.out hlt _, ?_, HB.out.set_ hb1 hb2 _ _⟩
        intro l hl
        rw [nth_set (by rw [HY.out.1]; exact hlt)]
        by_cases e : l = j
        · rw [if_pos e, e, HM.out]
        · rw [if_neg e]; exact HP.out l (by omega)
      case measure => simp [intOf]; omega
    · go_wp2_with fail
      go_ret
      refine ⟨ret_i (by rw [HM.out, show j = n by omega]), ?_, HB.out⟩
      have e : ys = marksI k n := list_ext (by rw [HY.out.1, marksI_len]) (fun l hl => by rw [HP.out l (by rw [HY.out.1] at hl; omega), marksI_at (by rw [HY.out.1] at hl; exact hl)])
      rw [← e]; exact HY.out

def eqIB (xs ys : List Int) : Bool := decide (xs = ys)
set_option maxRecDepth 100000 in
theorem eqIntS_same (A B : Option Addr) (n c d : Nat) (xs : List Int) (lo lo' : Nat) (w : World) (hr : RInt w lo A n xs) (hn : n ≤ 1048576) (hr' : RInt w lo' B n xs) :
    Calls Try.prog 44 #[.slice A n c, .slice B n d] w fun e w' => e = .returned (.bool true) ∧ ∃ k, w' = w.drewN k := by
  have HX := Lib.hid hr; clear hr
  have HY := Lib.hid hr'; clear hr'
  go_enter Try.func44, Try.ntmps44
  go_wp2_with fail
  go_loopw [5] (fun i wr => ∃ k q : Nat, k ≤ n ∧ i = .int .i64 k ∧ wr = w.drewN q) (fun i _ => n - (intOf i).toNat)
  case atStart => exact ⟨0, 0, Nat.zero_le _, rfl, rfl⟩
  case round =>
    obtain ⟨k, q, hk, rfl, rfl⟩ := hrel
    by_cases hlt : k < n
    · obtain ⟨b, off, rfl, _, hc⟩ := RInt.at_ HX.out hlt
      obtain ⟨c1, _⟩ := hc k hlt
      clear hc
      obtain ⟨b', off', rfl, _, hc⟩ := RInt.at_ HY.out hlt
      obtain ⟨c2, _⟩ := hc k hlt
      clear hc
      go_wp2_with fail
      go_quiet (fail)
      go_wp2_with fail
      go_roundw
      case rel => exact ⟨k + 1, _, by omega, by go_num, rfl⟩
      case measure => simp [intOf]; omega
    · go_wp2_with fail
      go_ret
      exact ⟨rfl, _, rfl⟩

/-- A made list, before it is filled. -/
theorem made_at {z : Array Value} {m n k i : Nat} (hz : z.size = m) (hk : k < n) (hi : i < m) : (madeCells z (n * m)).toList[k * m + i]? = z[i]? := by
  have h1 : k * m + i < n * m := by
    have : (k + 1) * m ≤ n * m := Nat.mul_le_mul_right _ hk
    rw [Nat.succ_mul] at this; omega
  have h2 : (k * m + i) % m = i := by rw [Nat.mul_comm, Nat.mul_add_mod]; exact Nat.mod_eq_of_lt hi
  simp [madeCells, hz, h1, h2, hi]
theorem own_made {w : World} {base : Nat} {e : TypeId} {m : Nat} {v : Value} {n : Nat} {z : Array Value} (hz : z.size = m) (h : w.ownsRow base e m v n (madeCells z (n * m)).toList) :
    ∃ A c, v = .slice A n c ∧ (0 < n → ∃ b, A = some ⟨b, 0, none⟩ ∧ base ≤ b ∧ b < w.heap.size ∧ ∀ k, k < n → ∀ i u, i < m → z[i]? = some u → Cl w b (k * m + i) u) := by
  obtain ⟨A, c, hv, hf⟩ := own_form h
  refine ⟨A, c, hv, fun hn => ?_⟩
  obtain ⟨b, e1, h1, h2, hc⟩ := hf hn
  exact ⟨b, e1, h1, h2, fun k hk i u hi hu => hc _ u (by rw [made_at hz hk hi]; exact hu)⟩
theorem nth_rep {α : Type} [Inhabited α] {n k : Nat} {x : α} (hk : k < n) : nth (List.replicate n x) k = x := by
  rw [nth_eq (by simpa using hk)]; simp
theorem own_fresh_int {w : World} {base : Nat} {e : TypeId} {v : Value} {n : Nat} (h : w.ownsRow base e 1 v n (madeCells #[.int .i64 0] n).toList) :
    ∃ A c, v = .slice A n c ∧ RInt w base A n (List.replicate n 0) := by
  obtain ⟨A, c, hv, hf⟩ := own_made (m := 1) (z := #[.int .i64 0]) rfl (by rw [Nat.mul_one]; exact h)
  refine ⟨A, c, hv, by simp, fun hn => ?_⟩
  obtain ⟨b, e1, h1, h2, hc⟩ := hf hn
  refine ⟨b, 0, e1, h1, h2, fun k hk => ?_⟩
  rw [nth_rep hk]
  have := hc k hk 0 _ (by omega) rfl
  simpa [intE] using this
theorem own_fresh_str {w : World} {base : Nat} {e : TypeId} {v : Value} {n : Nat} (h : w.ownsRow base e 1 v n (madeCells #[.string ⟨#[]⟩] n).toList) :
    ∃ A c, v = .slice A n c ∧ RStr w base A n (List.replicate n ⟨#[]⟩) := by
  obtain ⟨A, c, hv, hf⟩ := own_made (m := 1) (z := #[.string ⟨#[]⟩]) rfl (by rw [Nat.mul_one]; exact h)
  refine ⟨A, c, hv, by simp, fun hn => ?_⟩
  obtain ⟨b, e1, h1, h2, hc⟩ := hf hn
  refine ⟨b, 0, e1, h1, h2, fun k hk => ?_⟩
  rw [nth_rep hk]
  have := hc k hk 0 _ (by omega) rfl
  simpa [strE] using this
theorem own_fresh_guard {w : World} {base : Nat} {e : TypeId} {v : Value} {n : Nat} (h : w.ownsRow base e 3 v n (madeCells #[.string ⟨#[]⟩, .int .i64 0, .int .i64 0] (n * 3)).toList) :
    ∃ A c, v = .slice A n c ∧ RGuard w base A n (List.replicate n ⟨⟨#[]⟩, 0, 0⟩) := by
  obtain ⟨A, c, hv, hf⟩ := own_made (m := 3) (z := #[.string ⟨#[]⟩, .int .i64 0, .int .i64 0]) rfl h
  refine ⟨A, c, hv, by simp, fun hn => ?_⟩
  obtain ⟨b, e1, h1, h2, hc⟩ := hf hn
  refine ⟨b, 0, e1, h1, h2, fun k hk => ?_⟩
  rw [nth_rep hk, Nat.zero_add]
  exact ⟨hc k hk 0 _ (by omega) rfl, hc k hk 1 _ (by omega) rfl, hc k hk 2 _ (by omega) rfl⟩

end Go.Proofs.Ytfcbpgpmafmkhaa
