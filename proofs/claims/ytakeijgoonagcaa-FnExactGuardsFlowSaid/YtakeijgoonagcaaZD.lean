/- Contracts of functions and plain lemmas, joined. No condition but those that each states. -/
import Derived.Deep.RegionHeld3
import Derived.Deep.Slices
import Derived.Deep.Fields
import Derived.SliceStrings
import Derived.Test.YtakeijgoonagcaaZA
import Derived.Test.YtakeijgoonagcaaZC

/- What the exact laws need beside the functions: sizes, copies, equality, marks. -/
namespace Go.Proofs.Ytakeijgoonagcaa
open Go.RowKit

def decL : Nat → Nat → List UInt8 → List UInt8
  | 0, _, acc => acc
  | f + 1, k, acc => if k = 0 then acc else decL f (k / 10) ((48 + UInt8.ofNat (k % 10)) :: acc)
def markS (k : Nat) : Str := ⟨(109 :: decL k k []).toArray⟩

theorem conv1 (W : World) (b : Nat) (n : Int) (h : W.heap[b]? = some (.cells #[.int .u8 n] 5 (0, 0))) :
    (convert 44 9 (.slice (some ⟨b, 0, none⟩) 1 1)).run Try.prog W = .ok (.string ⟨#[UInt8.ofNat n.toNat]⟩) W := by
  rw [run_convert_bytes_string W _ _ _ _ _ _ Try.underlying44 Try.underlying5 Try.underlying9]
  rw [run_bytesToString W ⟨b, 0, none⟩ 1 1 [n]]
  · rfl
  · have hc := (blk_cl (k := 0) h rfl).1
    exact run_loadCells_list (P := Try.prog) (w := W) ⟨b, 0, none⟩ [.int .u8 n] (fun j v hv => by
      match j, hv with
      | 0, hv =>
        have : v = .int .u8 n := by simpa using hv.symm
        subst this
        exact hc)

theorem bcat (a b : List UInt8) : (⟨a.toArray⟩ : ByteArray) ++ ⟨b.toArray⟩ = ⟨(a ++ b).toArray⟩ := by
  apply ByteArray.ext; simp
theorem str_congr {a b : Str} (h : a = b) : Value.string a = Value.string b := by rw [h]

set_option maxRecDepth 100000 in
theorem markText_any (k : Nat) (w : World) (h1 : 1 ≤ k) (h2 : k ≤ 1099511627776) :
    Calls Try.prog 69 #[.int .i64 (k : Int)] w fun e w' => e = .returned (.string (markS k)) ∧ Below w.heap.size w w' := by
  go_enter Try.func69, Try.ntmps69
  go_wp2_with fail
  go_loopw [0, 3] (fun j o wr => ∃ jn f : Nat, ∃ acc : List UInt8, jn ≤ f ∧ acc.length + jn ≤ 1099511627776 ∧ j = .int .i64 (jn : Int) ∧ o = .string ⟨acc.toArray⟩ ∧ decL f jn acc = decL k k [] ∧ Below w.heap.size w wr) (fun j _ _ => (intOf j).toNat)
  case atStart => exact ⟨k, k, [], Nat.le_refl _, by simpa using h2, rfl, rfl, rfl, Below.refl _ _⟩
  case round =>
    obtain ⟨jn, f, acc, hf, hj, rfl, rfl, hd, hb⟩ := hrel
    have HD := Lib.hid hd; clear hd
    have HB := Lib.hid hb; clear hb
    by_cases h0 : 0 < jn
    · have hcv := conv1 (wr.alloc (.cells #[.int .u8 (48 + (jn : Int) % 10)] 5)) wr.heap.size (48 + (jn : Int) % 10) (heap_new rfl)
      go_wp2_with fail
      go_roundw
      case rel =>
        obtain ⟨f', rfl⟩ : ∃ f', f = f' + 1 := ⟨f - 1, by omega⟩
        refine ⟨jn / 10, f', (48 + UInt8.ofNat (jn % 10)) :: acc, by omega, by simp; omega, by go_num, str_congr (bcat [_] acc), ?_, HB.out.alloc HB.out.size _⟩
        rw [← HD.out, decL, if_neg (by omega)]
      case measure => simp [intOf]; omega
    · have h0' : (jn : Int) < 1 := by omega
      go_wp2_with fail
      go_ret
      refine ⟨ret_s ?_, HB.out⟩
      have hz : jn = 0 := by omega
      have hd := HD.out
      subst hz
      unfold markS
      have e : decL f 0 acc = acc := by cases f <;> simp [decL]
      rw [← hd, e]
      exact bcat [109] acc

def marksS (k n : Nat) : List Str := (List.range n).map fun j => markS (k + j)
theorem marksS_len (k n : Nat) : (marksS k n).length = n := by simp [marksS]
theorem marksS_at {k n j : Nat} (hj : j < n) : nth (marksS k n) j = markS (k + j) := by
  rw [nth_eq (by rw [marksS_len]; exact hj)]; simp [marksS]

set_option maxRecDepth 100000 in
theorem markStringS_any (A : Option Addr) (n c k : Nat) (xs : List Str) (lo hi : Nat) (w : World) (hr : RH strE w lo hi A n xs) (hn : n ≤ 1048576) (h1 : 1 ≤ k) (h2 : k ≤ 549755813888) (hhi : hi ≤ w.heap.size) :
    Calls Try.prog 25 #[.slice A n c, .int .i64 (k : Int)] w fun e w' => e = .returned (.int .i64 ((k + n : Nat) : Int)) ∧ RH strE w' lo hi A n (marksS k n) ∧ Out lo hi w w' := by
  have HR := Lib.hid hr; clear hr
  go_enter Try.func25, Try.ntmps25
  go_wp2_with fail
  go_loopw [1, 5] (fun q i wr => ∃ j m : Nat, ∃ ys : List Str, j ≤ n ∧ i = .int .i64 (j : Int) ∧ q = .int .i64 (m : Int) ∧ m = k + j ∧ RH strE wr lo hi A n ys ∧ (∀ l, l < j → nth ys l = markS (k + l)) ∧ Out lo hi w wr) (fun _ i _ => n - (intOf i).toNat)
  case atStart => exact ⟨0, k, xs, Nat.zero_le _, rfl, rfl, rfl, HR.out, fa_zero, Out.refl⟩
  case round =>
    obtain ⟨j, m, ys, hj, rfl, rfl, hm, hys, hp, hb⟩ := hrel
    have HM := Lib.hid hm
    have HP := Lib.hid hp; clear hp
    have HB := Lib.hid hb; clear hb
    have HY := Lib.hid hys; clear hys
    have hm1 : 1 ≤ m := by omega
    have hm2 : m ≤ 1099511627776 := by omega
    have hm3 : (m : Int) ≤ 1099511627776 := by omega
    clear hm
    by_cases hlt : j < n
    · obtain ⟨b, off, rfl, ⟨hb1, hb3⟩, hc⟩ := RStr.hat HY.out hlt
      have hwr : hi ≤ wr.heap.size := Nat.le_trans hhi HB.out.size
      have hb2 : b < wr.heap.size := by omega
      obtain ⟨c1, c2⟩ := hc j hlt
      clear hc
      go_wp2_with fail
      refine (markText_any m _ hm1 hm2).mono ?_
      rintro e w1 ⟨rfl, hbw⟩
      have d1 := (hbw.cell (p := ⟨b, off + j, none⟩) hb2).trans c1
      have d2 := (hbw.frozen (p := ⟨b, off + j, none⟩) hb2).trans c2
      clear c1 c2
      have HBW := Lib.hid hbw; clear hbw
      go_wp2_with fail
      go_roundw
      case rel =>
        refine ⟨j + 1, m + 1, ys.set j (markS m), by omega, by go_num, by go_num, by rw [HM.out, Nat.add_assoc], RStr.hset (HY.out.below HBW.out hwr) hlt (markS m), ?_, (HB.out.trans (Out.of_below HBW.out)).set_ hb1 hb3 _ _⟩
        intro l hl
        rw [nth_set (by rw [HY.out.1]; exact hlt)]
        by_cases e : l = j
        · rw [if_pos e, e, HM.out]
        · rw [if_neg e]; exact HP.out l (by omega)
      case measure => simp [intOf]; omega
    · go_wp2_with fail
      go_ret
      refine ⟨ret_i (by rw [HM.out, show j = n by omega]), ?_, HB.out⟩
      have e : ys = marksS k n := list_ext (by rw [HY.out.1, marksS_len]) (fun l hl => by rw [HP.out l (by rw [HY.out.1] at hl; omega), marksS_at (by rw [HY.out.1] at hl; exact hl)])
      rw [← e]; exact HY.out

set_option maxRecDepth 100000 in
theorem heldStringS_any (A : Option Addr) (n c k : Nat) (lo : Nat) (w : World) (hr : RStr w lo A n (marksS k n)) (hn : n ≤ 1048576) (h1 : 1 ≤ k) (h2 : k ≤ 549755813888) :
    Calls Try.prog 27 #[.slice A n c, .int .i64 (k : Int)] w fun e w' => e = .returned (.int .i64 ((k + n : Nat) : Int)) ∧ Below w.heap.size w w' := by
  have HR := Lib.hid hr; clear hr
  go_enter Try.func27, Try.ntmps27
  go_wp2_with fail
  go_loopw [1, 5] (fun q i wr => ∃ j m : Nat, j ≤ n ∧ i = .int .i64 (j : Int) ∧ q = .int .i64 (m : Int) ∧ m = k + j ∧ Below w.heap.size w wr) (fun _ i _ => n - (intOf i).toNat)
  case atStart => exact ⟨0, k, Nat.zero_le _, rfl, rfl, rfl, Below.refl _ _⟩
  case round =>
    obtain ⟨j, m, hj, rfl, rfl, hm, hb⟩ := hrel
    have HM := Lib.hid hm
    have HB := Lib.hid hb; clear hb
    have hm1 : 1 ≤ m := by omega
    have hm2 : m ≤ 1099511627776 := by omega
    have hm3 : (m : Int) ≤ 1099511627776 := by omega
    clear hm
    by_cases hlt : j < n
    · obtain ⟨b, off, rfl, ⟨hb1, hb2⟩, hc⟩ := RStr.at_ (HR.out.below HB.out) hlt
      obtain ⟨c1, c2⟩ := hc j hlt
      clear hc c2
      rw [marksS_at hlt, ← HM.out] at c1
      go_wp2_with fail
      go_region_held3 (fun w' => w'.cell? ⟨b, off + j, none⟩ = some (.string (markS m)))
        (first | go_keep | (rw [hbw.cell (p := ⟨b, off + j, none⟩) (by simpa using hb2)]; assumption))
        (first | (go_at_call 69; refine (markText_any m _ hm1 hm2).mono ?_; rintro e w1 ⟨rfl, hbw⟩))
      go_wp2_with fail
      go_roundw
      case rel => exact ⟨j + 1, m + 1, by omega, by go_num, by go_num, by rw [HM.out, Nat.add_assoc], HB.out.drew.trans (hbw.mono HB.out.size)⟩
      case measure => simp [intOf]; omega
    · go_wp2_with fail
      go_ret
      exact ⟨ret_i (by rw [HM.out, show j = n by omega]), HB.out⟩

/-! ### ints -/
def marksI (k n : Nat) : List Int := (List.range n).map fun j => ((k + j : Nat) : Int)
theorem marksI_len (k n : Nat) : (marksI k n).length = n := by simp [marksI]
theorem marksI_at {k n j : Nat} (hj : j < n) : nth (marksI k n) j = ((k + j : Nat) : Int) := by
  rw [nth_eq (by rw [marksI_len]; exact hj)]; simp [marksI]

set_option maxRecDepth 100000 in
theorem markIntS_any (A : Option Addr) (n c k : Nat) (xs : List Int) (lo hi : Nat) (w : World) (hr : RH intE w lo hi A n xs) (hn : n ≤ 1048576) (h2 : k ≤ 549755813888) :
    Calls Try.prog 55 #[.slice A n c, .int .i64 (k : Int)] w fun e w' => e = .returned (.int .i64 ((k + n : Nat) : Int)) ∧ RH intE w' lo hi A n (marksI k n) ∧ Out lo hi w w' := by
  have HR := Lib.hid hr; clear hr
  go_enter Try.func55, Try.ntmps55
  go_wp2_with fail
  go_loopw [1, 5] (fun q i wr => ∃ j m : Nat, ∃ ys : List Int, j ≤ n ∧ i = .int .i64 (j : Int) ∧ q = .int .i64 (m : Int) ∧ m = k + j ∧ RH intE wr lo hi A n ys ∧ (∀ l, l < j → nth ys l = ((k + l : Nat) : Int)) ∧ Out lo hi w wr) (fun _ i _ => n - (intOf i).toNat)
  case atStart => exact ⟨0, k, xs, Nat.zero_le _, rfl, rfl, rfl, HR.out, fa_zero, Out.refl⟩
  case round =>
    obtain ⟨j, m, ys, hj, rfl, rfl, hm, hys, hp, hb⟩ := hrel
    have HM := Lib.hid hm
    have HP := Lib.hid hp; clear hp
    have HB := Lib.hid hb; clear hb
    have HY := Lib.hid hys; clear hys
    have hm3 : (m : Int) ≤ 1099511627776 := by omega
    clear hm
    by_cases hlt : j < n
    · obtain ⟨b, off, rfl, ⟨hb1, hb2⟩, hc⟩ := RInt.hat HY.out hlt
      obtain ⟨c1, c2⟩ := hc j hlt
      clear hc
      go_wp2_with fail
      go_roundw
      case rel =>
        refine ⟨j + 1, m + 1, ys.set j (m : Int), by omega, by go_num, by go_num, by rw [HM.out, Nat.add_assoc], RInt.hset HY.out hlt _, ?_, HB.out.set_ hb1 hb2 _ _⟩
        intro l hl
        rw [nth_set (by rw [HY.out.1]; exact hlt)]
        by_cases e : l = j
        · rw [if_pos e, e, HM.out]
        · rw [if_neg e]; exact HP.out l (by omega)
      case measure => simp [intOf]; omega
    · go_wp2_with fail
      go_ret
      refine ⟨ret_i (by rw [HM.out, show j = n by omega]), ?_, HB.out⟩
      have e : ys = marksI k n := list_ext (by rw [HY.out.1, marksI_len]) (fun l hl => by rw [HP.out l (by rw [HY.out.1] at hl; omega), marksI_at (by rw [HY.out.1] at hl; exact hl)])
      rw [← e]; exact HY.out

def eqIB (xs ys : List Int) : Bool := decide (xs = ys)
set_option maxRecDepth 100000 in
theorem eqIntS_same (A B : Option Addr) (n c d : Nat) (xs : List Int) (lo lo' : Nat) (w : World) (hr : RInt w lo A n xs) (hn : n ≤ 1048576) (hr' : RInt w lo' B n xs) :
    Calls Try.prog 53 #[.slice A n c, .slice B n d] w fun e w' => e = .returned (.bool true) ∧ ∃ k, w' = w.drewN k := by
  have HX := Lib.hid hr; clear hr
  have HY := Lib.hid hr'; clear hr'
  go_enter Try.func53, Try.ntmps53
  go_wp2_with fail
  go_loopw [5] (fun i wr => ∃ k q : Nat, k ≤ n ∧ i = .int .i64 k ∧ wr = w.drewN q) (fun i _ => n - (intOf i).toNat)
  case atStart => exact ⟨0, 0, Nat.zero_le _, rfl, rfl⟩
  case round =>
    obtain ⟨k, q, hk, rfl, rfl⟩ := hrel
    by_cases hlt : k < n
    · obtain ⟨b, off, rfl, _, hc⟩ := RInt.at_ HX.out hlt
      obtain ⟨c1, _⟩ := hc k hlt
      clear hc
      obtain ⟨b', off', rfl, _, hc⟩ := RInt.at_ HY.out hlt
      obtain ⟨c2, _⟩ := hc k hlt
      clear hc
      go_wp2_with fail
      go_quiet (fail)
      go_wp2_with fail
      go_roundw
      case rel => exact ⟨k + 1, _, by omega, by go_num, rfl⟩
      case measure => simp [intOf]; omega
    · go_wp2_with fail
      go_ret
      exact ⟨rfl, _, rfl⟩

/-- A made list, before it is filled. -/
theorem made_at {z : Array Value} {m n k i : Nat} (hz : z.size = m) (hk : k < n) (hi : i < m) : (madeCells z (n * m)).toList[k * m + i]? = z[i]? := by
  have h1 : k * m + i < n * m := by
    have : (k + 1) * m ≤ n * m := Nat.mul_le_mul_right _ hk
    rw [Nat.succ_mul] at this; omega
  have h2 : (k * m + i) % m = i := by rw [Nat.mul_comm, Nat.mul_add_mod]; exact Nat.mod_eq_of_lt hi
  simp [madeCells, hz, h1, h2, hi]
theorem own_made {w : World} {base : Nat} {e : TypeId} {m : Nat} {v : Value} {n : Nat} {z : Array Value} (hz : z.size = m) (h : w.ownsRow base e m v n (madeCells z (n * m)).toList) :
    ∃ A c, v = .slice A n c ∧ (0 < n → ∃ b, A = some ⟨b, 0, none⟩ ∧ base ≤ b ∧ b < w.heap.size ∧ ∀ k, k < n → ∀ i u, i < m → z[i]? = some u → Cl w b (k * m + i) u) := by
  obtain ⟨A, c, hv, hf⟩ := own_form h
  refine ⟨A, c, hv, fun hn => ?_⟩
  obtain ⟨b, e1, h1, h2, hc⟩ := hf hn
  exact ⟨b, e1, h1, h2, fun k hk i u hi hu => hc _ u (by rw [made_at hz hk hi]; exact hu)⟩
theorem nth_rep {α : Type} [Inhabited α] {n k : Nat} {x : α} (hk : k < n) : nth (List.replicate n x) k = x := by
  rw [nth_eq (by simpa using hk)]; simp
theorem own_fresh_int {w : World} {base : Nat} {e : TypeId} {v : Value} {n : Nat} (h : w.ownsRow base e 1 v n (madeCells #[.int .i64 0] n).toList) :
    ∃ A c, v = .slice A n c ∧ RInt w base A n (List.replicate n 0) := by
  obtain ⟨A, c, hv, hf⟩ := own_made (m := 1) (z := #[.int .i64 0]) rfl (by rw [Nat.mul_one]; exact h)
  refine ⟨A, c, hv, by simp, fun hn => ?_⟩
  obtain ⟨b, e1, h1, h2, hc⟩ := hf hn
  refine ⟨b, 0, e1, h1, h2, fun k hk => ?_⟩
  rw [nth_rep hk]
  have := hc k hk 0 _ (by omega) rfl
  simpa [intE] using this
theorem own_fresh_str {w : World} {base : Nat} {e : TypeId} {v : Value} {n : Nat} (h : w.ownsRow base e 1 v n (madeCells #[.string ⟨#[]⟩] n).toList) :
    ∃ A c, v = .slice A n c ∧ RStr w base A n (List.replicate n ⟨#[]⟩) := by
  obtain ⟨A, c, hv, hf⟩ := own_made (m := 1) (z := #[.string ⟨#[]⟩]) rfl (by rw [Nat.mul_one]; exact h)
  refine ⟨A, c, hv, by simp, fun hn => ?_⟩
  obtain ⟨b, e1, h1, h2, hc⟩ := hf hn
  refine ⟨b, 0, e1, h1, h2, fun k hk => ?_⟩
  rw [nth_rep hk]
  have := hc k hk 0 _ (by omega) rfl
  simpa [strE] using this
theorem own_fresh_guard {w : World} {base : Nat} {e : TypeId} {v : Value} {n : Nat} (h : w.ownsRow base e 3 v n (madeCells #[.string ⟨#[]⟩, .int .i64 0, .int .i64 0] (n * 3)).toList) :
    ∃ A c, v = .slice A n c ∧ RGuard w base A n (List.replicate n ⟨⟨#[]⟩, 0, 0⟩) := by
  obtain ⟨A, c, hv, hf⟩ := own_made (m := 3) (z := #[.string ⟨#[]⟩, .int .i64 0, .int .i64 0]) rfl h
  refine ⟨A, c, hv, by simp, fun hn => ?_⟩
  obtain ⟨b, e1, h1, h2, hc⟩ := hf hn
  refine ⟨b, 0, e1, h1, h2, fun k hk => ?_⟩
  rw [nth_rep hk, Nat.zero_add]
  exact ⟨hc k hk 0 _ (by omega) rfl, hc k hk 1 _ (by omega) rfl, hc k hk 2 _ (by omega) rfl⟩

set_option maxRecDepth 100000 in
theorem toIntS_any (A : Option Addr) (n c : Nat) (xs : List Int) (lo : Nat) (w : World) (hr : RInt w lo A n xs) (hn : n ≤ 1048576) :
    Calls Try.prog 51 #[.slice A n c] w fun e w' => ∃ A' c', e = .returned (.slice A' n c') ∧ RInt w' w.heap.size A' n xs ∧ Below w.heap.size w w' := by
  have HR := Lib.hid hr; clear hr
  obtain ⟨i0, hi0, hz0, hz1, hz2⟩ := info_parts info_int
  go_enter Try.func51, Try.ntmps51
  go_wp2_with (at_make; refine wpList_make_full _ rfl _ _ 60 rfl w.heap.size 3 i0 _ 1 Try.underlying60 hi0 hz0 hz1 _ _ _ _ n rfl rfl rfl rfl ?c1 ?c2 (Nat.le_refl _) ?_)
  case c1 => rw [hz2]; omega
  case c2 => unfold maxLen; omega
  intro w1 hown hgr
  have hbw : Below w.heap.size w w1 := (Below.refl _ _).grown hgr (Nat.le_refl _) (by simp)
  obtain ⟨A1, c1, hv1, hr1⟩ := own_fresh_int hown
  injection hv1 with hA1 hn1 hc1
  subst hA1
  clear hn1 hc1 hown hgr
  have HR1 := Lib.hid hr1; clear hr1
  have HB1 := Lib.hid hbw; clear hbw
  go_wp2_with fail
  go_loopw [4] (fun i wr => ∃ j : Nat, ∃ ys : List Int, j ≤ n ∧ i = .int .i64 (j : Int) ∧ RInt wr w.heap.size (some ⟨w.heap.size, 0, none⟩) n ys ∧ (∀ l, l < j → nth ys l = nth xs l) ∧ Below w.heap.size w wr) (fun i _ => n - (intOf i).toNat)
  case atStart => exact ⟨0, _, Nat.zero_le _, rfl, HR1.out, fa_zero, HB1.out⟩
  case round =>
    obtain ⟨j, ys, hj, rfl, hys, hp, hb⟩ := hrel
    have HP := Lib.hid hp; clear hp
    have HB := Lib.hid hb; clear hb
    have HY := Lib.hid hys; clear hys
    by_cases hlt : j < n
    · obtain ⟨b, off, rfl, ⟨hb1, hb2⟩, hc⟩ := RInt.at_ (HR.out.below HB.out) hlt
      obtain ⟨d1, _⟩ := hc j hlt
      clear hc
      obtain ⟨b', off', e', _, hc⟩ := RInt.at_ HY.out hlt
      injection e' with e'; injection e' with e1 e2
      have HE := Lib.hid e1; clear e1
      subst e2
      obtain ⟨f1, f2⟩ := hc j hlt
      rw [← HE.out, Nat.zero_add] at f1 f2
      clear hc
      go_wp2_with fail
      go_roundw
      case rel =>
        refine ⟨j + 1, ys.set j (nth xs j), by omega, by go_num, ?_, ?_, HB.out.setCell (Nat.le_refl _) _⟩
        · have := RInt.set_ HY.out hlt (nth xs j)
          rwa [Nat.zero_add] at this
        · intro l hl
          rw [nth_set (by rw [HY.out.1]; exact hlt)]
          by_cases e : l = j
          · rw [if_pos e, e]
          · rw [if_neg e]; exact HP.out l (by omega)
      case measure => simp [intOf]; omega
    · go_wp2_with fail
      go_ret
      refine ⟨_, _, rfl, ?_, HB.out⟩
      have e : ys = xs := list_ext (by rw [HY.out.1, HR.out.1]) (fun l hl => HP.out l (by rw [HY.out.1] at hl; omega))
      rw [← e]; exact HY.out
end Go.Proofs.Ytakeijgoonagcaa

/- What the exact laws need beside the functions: guards. -/
namespace Go.Proofs.Ytakeijgoonagcaa
open Go.RowKit

def szI (sz left : Int) : Int := if sz ≤ left then left - sz else -1
theorem szI_yes {sz left : Int} (h : sz ≤ left) : szI sz left = left - sz := by unfold szI; rw [if_pos h]
theorem szI_no {sz left : Int} (h : ¬ sz ≤ left) : szI sz left = -1 := by unfold szI; rw [if_neg h]

set_option maxRecDepth 100000 in
theorem szGuard_any (s : Str) (v l : Int) (left : Int) (w : World) (hs : s.size ≤ maxLen) (h0 : 0 ≤ left) (h1 : left ≤ 1048576) :
    Calls Try.prog 114 #[.agg #[.string s, .int .i64 v, .int .i64 l], .int .i64 left] w fun e w' =>
      e = .returned (.int .i64 (szI s.size left)) ∧ Below w.heap.size w w' := by
  unfold maxLen at hs
  by_cases h : (s.size : Int) ≤ left
  · go_enter Try.func114, Try.ntmps114
    go_wp2_with fail
    go_ret
    exact ⟨ret_i (szI_yes h).symm, (Below.refl _ _).alloc (Nat.le_refl _) _⟩
  · go_enter Try.func114, Try.ntmps114
    go_wp2_with fail
    go_ret
    exact ⟨ret_i (szI_no (by omega)).symm, (Below.refl _ _).alloc (Nat.le_refl _) _⟩

def SzQ (left : Int) (ok : Prop) (w : World) (e : Ending) (w' : World) : Prop := ∃ r : Int, e = .returned (.int .i64 r) ∧ -1 ≤ r ∧ (0 ≤ r → r ≤ left ∧ ok) ∧ Below w.heap.size w w'

set_option maxRecDepth 100000 in
theorem szGuardS_any (A : Option Addr) (n c : Nat) (xs : List Guard) (lo : Nat) (left : Int) (w : World) (hr : RGuard w lo A n xs) (hn : n ≤ maxLen) (hs : ∀ j, j < n → (nth xs j).name.size ≤ maxLen) (h0 : 0 ≤ left) (h1 : left ≤ 1048576) :
    Calls Try.prog 49 #[.slice A n c, .int .i64 left] w (SzQ left (n ≤ 1048576 ∧ okG xs) w) := by
  have HR := Lib.hid hr; clear hr
  have HS := Lib.hid hs; clear hs
  unfold maxLen at hn
  by_cases hbig : left < (n : Int)
  · go_enter Try.func49, Try.ntmps49
    go_wp2_with fail
    go_ret
    exact ⟨_, rfl, by omega, fun h => absurd h (by omega), Below.refl _ _⟩
  go_enter Try.func49, Try.ntmps49
  go_wp2_with fail
  go_loopw [1, 5] (fun q i wr => ∃ j : Nat, ∃ r : Int, j ≤ n ∧ i = .int .i64 (j : Int) ∧ q = .int .i64 r ∧ 0 ≤ r ∧ r ≤ left ∧ (∀ l, l < j → (nth xs l).name.size ≤ 1048576) ∧ Below w.heap.size w wr) (fun _ i _ => n - (intOf i).toNat)
  case atStart => exact ⟨0, _, Nat.zero_le _, rfl, rfl, by omega, by omega, fa_zero, Below.refl _ _⟩
  case round =>
    obtain ⟨j, r, hj, rfl, rfl, hr0, hr1, hp, hb⟩ := hrel
    have HP := Lib.hid hp; clear hp
    have HB := Lib.hid hb; clear hb
    by_cases hlt : j < n
    · obtain ⟨b, off, rfl, ⟨hb1, hb2⟩, hc⟩ := RGuard.at_ (HR.out.below HB.out) hlt
      obtain ⟨⟨c1, c2, c3⟩, _⟩ := hc j hlt
      clear hc
      have hsz := HS.out j hlt
      by_cases hfit : ((nth xs j).name.size : Int) ≤ r
      · go_wp2_with fail
        refine (szGuard_any _ _ _ r _ hsz hr0 (by omega)).mono ?_
        rintro e w1 ⟨rfl, hbw⟩
        rw [szI_yes hfit]
        have HBW := Lib.hid hbw; clear hbw
        unfold maxLen at hsz
        go_wp2_with fail
        go_roundw
        case rel => exact ⟨j + 1, _, by omega, by go_num, rfl, by omega, by omega, fa_succ HP.out (by omega), HB.out.trans (HBW.out.mono HB.out.size)⟩
        case measure => simp [intOf]; omega
      · go_wp2_with fail
        refine (szGuard_any _ _ _ r _ hsz hr0 (by omega)).mono ?_
        rintro e w1 ⟨rfl, hbw⟩
        rw [szI_no (by omega)]
        have HBW := Lib.hid hbw; clear hbw
        go_wp2_with fail
        go_ret
        exact ⟨_, rfl, by omega, fun h => absurd h (by omega), HB.out.trans (HBW.out.mono HB.out.size)⟩
    · go_wp2_with fail
      go_ret
      exact ⟨_, rfl, by omega, fun _ => ⟨hr1, by omega, by rw [HR.out.1]; omega, fun l hl => Nat.le_trans (HP.out l (by rw [HR.out.1] at hl; omega)) (by unfold maxLen; omega)⟩, HB.out⟩

set_option maxRecDepth 100000 in
theorem toGuard_any (s : Str) (v l : Int) (w : World) :
    Calls Try.prog 115 #[.agg #[.string s, .int .i64 v, .int .i64 l]] w fun e w' => e = .returned (.agg #[.string s, .int .i64 v, .int .i64 l]) ∧ Below w.heap.size w w' := by
  go_enter Try.func115, Try.ntmps115
  go_wp2_with fail
  exact bodyPost_ret (v := .agg #[.string s, .int .i64 v, .int .i64 l]) (by simp [results, Try.results115, go_sem]) rfl ⟨rfl, (((Below.refl _ _).alloc (Nat.le_refl _) _).alloc (by simp) _).alloc (by simp; omega) _⟩

theorem RGuard.hset {w : World} {lo hi b off n j : Nat} {gs : List Guard} (h : RH guardE w lo hi (some ⟨b, off, none⟩) n gs) (hj : j < n) (x : Guard) :
    RH guardE (((w.setCell ⟨b, off + j * 3, none⟩ (.string x.name)).setCell ⟨b, off + j * 3 + 1, none⟩ (.int .i64 x.var)).setCell ⟨b, off + j * 3 + 2, none⟩ (.int .i64 x.least)) lo hi (some ⟨b, off, none⟩) n (gs.set j x) := by
  refine ⟨by rw [List.length_set]; exact h.1, fun hn => ?_⟩
  obtain ⟨b', off', e, h1, h2, hc⟩ := h.2 hn
  injection e with e; injection e with e1 e2
  subst e1; subst e2
  refine ⟨b, off, rfl, h1, h2, fun k hk => ?_⟩
  obtain ⟨c1, c2, c3⟩ := hc k hk
  rw [nth_set (by rw [h.1]; exact hj)]
  by_cases hkj : k = j
  · subst hkj
    rw [if_pos rfl]
    exact ⟨(c1.set_same.set_other (.inr (by show off + k * 3 ≠ _; omega))).set_other (.inr (by show off + k * 3 ≠ _; omega)),
      ((c2.set_other (.inr (by show off + k * 3 + 1 ≠ _; omega))).set_same).set_other (.inr (by show off + k * 3 + 1 ≠ _; omega)),
      ((c3.set_other (.inr (by show off + k * 3 + 2 ≠ _; omega))).set_other (.inr (by show off + k * 3 + 2 ≠ _; omega))).set_same⟩
  · rw [if_neg hkj]
    exact ⟨((c1.set_other (.inr (by show off + k * 3 ≠ _; omega))).set_other (.inr (by show off + k * 3 ≠ _; omega))).set_other (.inr (by show off + k * 3 ≠ _; omega)),
      ((c2.set_other (.inr (by show off + k * 3 + 1 ≠ _; omega))).set_other (.inr (by show off + k * 3 + 1 ≠ _; omega))).set_other (.inr (by show off + k * 3 + 1 ≠ _; omega)),
      ((c3.set_other (.inr (by show off + k * 3 + 2 ≠ _; omega))).set_other (.inr (by show off + k * 3 + 2 ≠ _; omega))).set_other (.inr (by show off + k * 3 + 2 ≠ _; omega))⟩

theorem RGuard.set_ {w : World} {lo b off n j : Nat} {gs : List Guard} (h : RGuard w lo (some ⟨b, off, none⟩) n gs) (hj : j < n) (x : Guard) :
    RGuard (((w.setCell ⟨b, off + j * 3, none⟩ (.string x.name)).setCell ⟨b, off + j * 3 + 1, none⟩ (.int .i64 x.var)).setCell ⟨b, off + j * 3 + 2, none⟩ (.int .i64 x.least)) lo (some ⟨b, off, none⟩) n (gs.set j x) := (RGuard.hset h.low hj x).up (by simp)

set_option maxRecDepth 100000 in
theorem toGuardS_any (A : Option Addr) (n c : Nat) (xs : List Guard) (lo : Nat) (w : World) (hr : RGuard w lo A n xs) (hn : n ≤ 1048576) :
    Calls Try.prog 50 #[.slice A n c] w fun e w' => ∃ A' c', e = .returned (.slice A' n c') ∧ RGuard w' w.heap.size A' n xs ∧ Below w.heap.size w w' := by
  have HR := Lib.hid hr; clear hr
  obtain ⟨i0, hi0, hz0, hz1, hz2⟩ := info_parts info_guard
  go_enter Try.func50, Try.ntmps50
  go_wp2_with (at_make; refine wpList_make_full _ rfl _ _ 68 rfl w.heap.size 136 i0 _ 3 Try.underlying68 hi0 hz0 hz1 _ _ _ _ n rfl rfl rfl rfl ?c1 ?c2 (Nat.le_refl _) ?_)
  case c1 => rw [hz2]; omega
  case c2 => unfold maxLen; omega
  intro w1 hown hgr
  have hbw : Below w.heap.size w w1 := (Below.refl _ _).grown hgr (Nat.le_refl _) (by simp)
  obtain ⟨A1, c1, hv1, hr1⟩ := own_fresh_guard hown
  injection hv1 with hA1 hn1 hc1
  subst hA1
  clear hn1 hc1 hown hgr
  have HR1 := Lib.hid hr1; clear hr1
  have HB1 := Lib.hid hbw; clear hbw
  go_wp2_with fail
  go_loopw [4] (fun i wr => ∃ j : Nat, ∃ ys : List Guard, j ≤ n ∧ i = .int .i64 (j : Int) ∧ RGuard wr w.heap.size (some ⟨w.heap.size, 0, none⟩) n ys ∧ (∀ l, l < j → nth ys l = nth xs l) ∧ Below w.heap.size w wr) (fun i _ => n - (intOf i).toNat)
  case atStart => exact ⟨0, _, Nat.zero_le _, rfl, HR1.out, fa_zero, HB1.out⟩
  case round =>
    obtain ⟨j, ys, hj, rfl, hys, hp, hb⟩ := hrel
    have HP := Lib.hid hp; clear hp
    have HB := Lib.hid hb; clear hb
    have HY := Lib.hid hys; clear hys
    by_cases hlt : j < n
    · obtain ⟨b, off, rfl, ⟨hb1, hb2⟩, hc⟩ := RGuard.at_ (HR.out.below HB.out) hlt
      obtain ⟨⟨d1, d2, d3⟩, _⟩ := hc j hlt
      clear hc
      go_wp2_with fail
      refine (toGuard_any _ _ _ _).mono ?_
      rintro e w2 ⟨rfl, hbw⟩
      have HBW := Lib.hid hbw; clear hbw
      have HY2 := Lib.hid (HY.out.below HBW.out)
      have HB2 := Lib.hid (HB.out.trans (HBW.out.mono HB.out.size))
      obtain ⟨b', off', e', ⟨_, hb4⟩, hc⟩ := RGuard.at_ HY2.out hlt
      injection e' with e'; injection e' with e1 e2
      have HE := Lib.hid e1; clear e1
      subst e2
      obtain ⟨⟨f1, f2, f3⟩, g1, g2, g3⟩ := hc j hlt
      rw [← HE.out, Nat.zero_add] at f1 f2 f3 g1 g2 g3
      clear hc
      go_wp2_with fail
      go_roundw
      case rel =>
        refine ⟨j + 1, ys.set j (nth xs j), by omega, by go_num, ?_, ?_, ((HB2.out.setCell (Nat.le_refl _) _).setCell (Nat.le_refl _) _).setCell (Nat.le_refl _) _⟩
        · have := RGuard.set_ HY2.out hlt (nth xs j)
          rwa [Nat.zero_add] at this
        · intro l hl
          rw [nth_set (by rw [HY.out.1]; exact hlt)]
          by_cases e : l = j
          · rw [if_pos e, e]
          · rw [if_neg e]; exact HP.out l (by omega)
      case measure => simp [intOf]; omega
    · go_wp2_with fail
      go_ret
      refine ⟨_, _, rfl, ?_, HB.out⟩
      have e : ys = xs := list_ext (by rw [HY.out.1, HR.out.1]) (fun l hl => HP.out l (by rw [HY.out.1] at hl; omega))
      rw [← e]; exact HY.out

set_option maxRecDepth 100000 in
theorem eqGuard_same (s : Str) (v l : Int) (w : World) :
    Calls Try.prog 116 #[.agg #[.string s, .int .i64 v, .int .i64 l], .agg #[.string s, .int .i64 v, .int .i64 l]] w fun e w' => e = .returned (.bool true) ∧ Below w.heap.size w w' := by
  go_enter Try.func116, Try.ntmps116
  go_wp2_with fail
  go_ret
  exact ⟨rfl, ((Below.refl _ _).alloc (Nat.le_refl _) _).alloc (by simp) _⟩

set_option maxRecDepth 100000 in
theorem eqGuardS_same (A B : Option Addr) (n c d : Nat) (xs : List Guard) (lo lo' : Nat) (w : World) (hr : RGuard w lo A n xs) (hn : n ≤ 1048576) (hr' : RGuard w lo' B n xs) :
    Calls Try.prog 52 #[.slice A n c, .slice B n d] w fun e w' => e = .returned (.bool true) ∧ Below w.heap.size w w' := by
  have HX := Lib.hid hr; clear hr
  have HY := Lib.hid hr'; clear hr'
  go_enter Try.func52, Try.ntmps52
  go_wp2_with fail
  go_loopw [5] (fun i wr => ∃ k : Nat, k ≤ n ∧ i = .int .i64 k ∧ Below w.heap.size w wr) (fun i _ => n - (intOf i).toNat)
  case atStart => exact ⟨0, Nat.zero_le _, rfl, Below.refl _ _⟩
  case round =>
    obtain ⟨k, hk, rfl, hb⟩ := hrel
    have HB := Lib.hid hb; clear hb
    by_cases hlt : k < n
    · obtain ⟨b, off, rfl, ⟨_, hb2⟩, hc⟩ := RGuard.at_ (HX.out.below HB.out) hlt
      obtain ⟨⟨c1, c2, c3⟩, _⟩ := hc k hlt
      clear hc
      obtain ⟨b', off', rfl, ⟨_, hb4⟩, hc⟩ := RGuard.at_ (HY.out.below HB.out) hlt
      obtain ⟨⟨d1, d2, d3⟩, _⟩ := hc k hlt
      clear hc
      go_wp2_with fail
      go_region_held3 (fun w' => (w'.cell? ⟨b, off + k * 3, none⟩ = some (.string (nth xs k).name) ∧ w'.cell? ⟨b, off + k * 3 + 1, none⟩ = some (.int .i64 (nth xs k).var) ∧ w'.cell? ⟨b, off + k * 3 + 2, none⟩ = some (.int .i64 (nth xs k).least)) ∧
          w'.cell? ⟨b', off' + k * 3, none⟩ = some (.string (nth xs k).name) ∧ w'.cell? ⟨b', off' + k * 3 + 1, none⟩ = some (.int .i64 (nth xs k).var) ∧ w'.cell? ⟨b', off' + k * 3 + 2, none⟩ = some (.int .i64 (nth xs k).least))
        (first | go_keep | exact ⟨⟨(hbw.cell (p := ⟨b, _, none⟩) hb2).trans c1, (hbw.cell (p := ⟨b, _, none⟩) hb2).trans c2, (hbw.cell (p := ⟨b, _, none⟩) hb2).trans c3⟩, (hbw.cell (p := ⟨b', _, none⟩) hb4).trans d1, (hbw.cell (p := ⟨b', _, none⟩) hb4).trans d2, (hbw.cell (p := ⟨b', _, none⟩) hb4).trans d3⟩)
        (first | (go_at_call 116; refine (eqGuard_same _ _ _ _).mono ?_; rintro e w1 ⟨rfl, hbw⟩))
      go_wp2_with fail
      go_roundw
      case rel => exact ⟨k + 1, by omega, by go_num, HB.out.drew.trans (hbw.mono HB.out.size)⟩
      case measure => simp [intOf]; omega
    · go_wp2_with fail
      go_ret
      exact ⟨rfl, HB.out⟩

set_option maxRecDepth 100000 in
theorem markGuardS_any (A : Option Addr) (n c k : Nat) (xs : List Guard) (lo hi : Nat) (w : World) (hr : RH guardE w lo hi A n xs) (hn : n ≤ 1048576) (h1 : 1 ≤ k) (h2 : k ≤ 549755813888) (hhi : hi ≤ w.heap.size) :
    Calls Try.prog 54 #[.slice A n c, .int .i64 (k : Int)] w fun e w' => e = .returned (.int .i64 ((k + 3 * n : Nat) : Int)) ∧ Out lo hi w w' := by
  have HR := Lib.hid hr; clear hr
  go_enter Try.func54, Try.ntmps54
  go_wp2_with fail
  go_loopw [1, 5] (fun q i wr => ∃ j m : Nat, ∃ ys : List Guard, j ≤ n ∧ i = .int .i64 (j : Int) ∧ q = .int .i64 (m : Int) ∧ m = k + 3 * j ∧ RH guardE wr lo hi A n ys ∧ Out lo hi w wr) (fun _ i _ => n - (intOf i).toNat)
  case atStart => exact ⟨0, k, xs, Nat.zero_le _, rfl, rfl, rfl, HR.out, Out.refl⟩
  case round =>
    obtain ⟨j, m, ys, hj, rfl, rfl, hm, hys, hb⟩ := hrel
    have HM := Lib.hid hm
    have HB := Lib.hid hb; clear hb
    have HY := Lib.hid hys; clear hys
    have hm1 : 1 ≤ m := by omega
    have hm2 : m ≤ 1099511627776 := by omega
    have hm3 : (m : Int) ≤ 1099511627776 := by omega
    clear hm
    by_cases hlt : j < n
    · obtain ⟨b, off, rfl, ⟨hb1, hb2⟩, hc⟩ := RGuard.hat HY.out hlt
      have hwr : hi ≤ wr.heap.size := Nat.le_trans hhi HB.out.size
      clear hc
      go_wp2_with fail
      refine (markText_any m _ hm1 hm2).mono ?_
      rintro e w1 ⟨rfl, hbw⟩
      have HBW := Lib.hid hbw; clear hbw
      have HY2 := Lib.hid (HY.out.below HBW.out hwr)
      obtain ⟨b', off', e', _, hc⟩ := RGuard.hat HY2.out hlt
      injection e' with e'; injection e' with e1 e2
      subst e1; subst e2
      obtain ⟨⟨f1, f2, f3⟩, g1, g2, g3⟩ := hc j hlt
      clear hc
      go_wp2_with fail
      go_roundw
      case rel =>
        exact ⟨j + 1, m + 3, ys.set j ⟨markS m, (m : Int) + 1, (m : Int) + 2⟩, by omega, by go_num, by go_num, by rw [HM.out]; omega, RGuard.hset HY2.out hlt ⟨markS m, (m : Int) + 1, (m : Int) + 2⟩, (((HB.out.trans (Out.of_below HBW.out)).set_ hb1 hb2 _ _).set_ hb1 hb2 _ _).set_ hb1 hb2 _ _⟩
      case measure => simp [intOf]; omega
    · go_wp2_with fail
      go_ret
      exact ⟨ret_i (by rw [HM.out, show j = n by omega]), HB.out⟩
end Go.Proofs.Ytakeijgoonagcaa

/- FnExactGuardsClosed: the walk. -/
namespace Go.Proofs.Ytakeijgoonagcaa
open Go.RowKit

theorem eqStringS_same (A B : Option Addr) (n m c d : Nat) (xs : List Str) (lo lo' : Nat) (w : World) (hr : RStr w lo A n xs) (hn : n ≤ 1048576) (hr' : RStr w lo' B m xs) :
    Calls Try.prog 21 #[.slice A n c, .slice B m d] w fun e w' => e = .returned (.bool true) ∧ ∃ k, w' = w.drewN k := by
  have HX := Lib.hid hr; clear hr
  have HY := Lib.hid hr'; clear hr'
  have hnm : m = n := by rw [← HX.out.1, ← HY.out.1]
  subst hnm
  go_enter Try.func21, Try.ntmps21
  go_wp2_with fail
  go_loopw [5] (fun i wr => ∃ k q : Nat, k ≤ m ∧ i = .int .i64 k ∧ wr = w.drewN q) (fun i _ => m - (intOf i).toNat)
  case atStart => exact ⟨0, 0, Nat.zero_le _, rfl, rfl⟩
  case round =>
    obtain ⟨k, q, hk, rfl, rfl⟩ := hrel
    by_cases hlt : k < m
    · obtain ⟨b, off, rfl, _, hc⟩ := RStr.at_ HX.out hlt
      obtain ⟨c1, _⟩ := hc k hlt
      clear hc
      obtain ⟨b', off', rfl, _, hc⟩ := RStr.at_ HY.out hlt
      obtain ⟨c2, _⟩ := hc k hlt
      clear hc
      go_wp2_with fail
      go_quiet (fail)
      go_wp2_with fail
      go_roundw
      case rel => exact ⟨k + 1, _, by omega, by go_num, rfl⟩
      case measure => simp [intOf]; omega
    · go_wp2_with fail
      go_ret
      exact ⟨rfl, _, rfl⟩

theorem closL_len (gs : List Guard) (vs : List Int) : (closL gs vs).length ≤ gs.length := by
  unfold closL
  split
  · exact closTo_len _ _ _
  · simp

end Go.Proofs.Ytakeijgoonagcaa

/- What the exact laws need beside the functions: lists of names, steps. -/
namespace Go.Proofs.Ytakeijgoonagcaa
open Go.RowKit

set_option maxRecDepth 100000 in
theorem szStringS_any (A : Option Addr) (n c : Nat) (xs : List Str) (lo : Nat) (left : Int) (w : World) (hr : RStr w lo A n xs) (hn : n ≤ maxLen) (hs : ∀ j, j < n → (nth xs j).size ≤ maxLen) (h0 : 0 ≤ left) (h1 : left ≤ 1048576) :
    Calls Try.prog 155 #[.slice A n c, .int .i64 left] w (SzQ left (n ≤ 1048576 ∧ okS xs) w) := by
  have HR := Lib.hid hr; clear hr
  have HS := Lib.hid hs; clear hs
  unfold maxLen at hn
  by_cases hbig : left < (n : Int)
  · go_enter Try.func155, Try.ntmps155
    go_wp2_with fail
    go_ret
    exact ⟨_, rfl, by omega, fun h => absurd h (by omega), Below.refl _ _⟩
  go_enter Try.func155, Try.ntmps155
  go_wp2_with fail
  go_loop [1, 5] (fun q i => ∃ j : Nat, ∃ r : Int, j ≤ n ∧ i = .int .i64 (j : Int) ∧ q = .int .i64 r ∧ 0 ≤ r ∧ r ≤ left ∧ (∀ l, l < j → (nth xs l).size ≤ 1048576)) (fun _ i => n - (intOf i).toNat)
  case atStart => exact ⟨0, _, Nat.zero_le _, rfl, rfl, by omega, by omega, fa_zero⟩
  case round =>
    obtain ⟨j, r, hj, rfl, rfl, hr0, hr1, hp⟩ := hrel
    have HP := Lib.hid hp; clear hp
    by_cases hlt : j < n
    · obtain ⟨b, off, rfl, _, hc⟩ := RStr.at_ HR.out hlt
      obtain ⟨c1, _⟩ := hc j hlt
      clear hc
      have hsz := HS.out j hlt
      unfold maxLen at hsz
      by_cases hfit : ((nth xs j).size : Int) ≤ r
      · go_wp2_with fail
        go_round
        case rel => exact ⟨j + 1, _, by omega, by go_num, rfl, by omega, by omega, fa_succ HP.out (by omega)⟩
        case measure => simp [intOf]; omega
      · go_wp2_with fail
        go_ret
        exact ⟨_, rfl, by omega, fun h => absurd h (by omega), Below.refl _ _⟩
    · go_wp2_with fail
      go_ret
      exact ⟨_, rfl, by omega, fun _ => ⟨hr1, by omega, by rw [HR.out.1]; omega, fun l hl => Nat.le_trans (HP.out l (by rw [HR.out.1] at hl; omega)) (by unfold maxLen; omega)⟩, Below.refl _ _⟩

set_option maxRecDepth 100000 in
theorem szStep_any (A : Option Addr) (n c : Nat) (s : Step) (lo : Nat) (left : Int) (w : World) (hr : RStr w lo A n s.after) (hn : n ≤ maxLen) (hs : ∀ j, j < n → (nth s.after j).size ≤ maxLen) (hz : s.name.size ≤ maxLen) (h0 : 0 ≤ left) (h1 : left ≤ 1048576) :
    Calls Try.prog 118 #[.agg #[.string s.name, .slice A n c, .bool s.undo], .int .i64 left] w (SzQ left (okStep s) w) := by
  have HR := Lib.hid hr; clear hr
  have HS := Lib.hid hs; clear hs
  have HN := Lib.hid hn; clear hn
  have HZ := Lib.hid hz
  unfold maxLen at hz
  by_cases h : (s.name.size : Int) ≤ left
  · go_enter Try.func118, Try.ntmps118
    go_wp2_with fail
    refine (szStringS_any _ _ _ s.after _ _ _ (HR.out.alloc _) HN.out HS.out (by omega) (by omega)).mono ?_
    rintro e w1 ⟨r, rfl, hr0, hr1, hb⟩
    have HB := Lib.hid (((Below.refl w.heap.size w).alloc (Nat.le_refl _) (.cells #[.string s.name, .slice A n c, .bool s.undo] 147)).trans (hb.mono (by simp)))
    clear hb
    have HR1 := Lib.hid hr1; clear hr1
    by_cases hneg : r < 0
    · go_wp2_with fail
      go_ret
      exact ⟨_, rfl, by omega, fun h => absurd h (by omega), HB.out⟩
    · go_wp2_with fail
      go_ret
      exact ⟨_, rfl, by omega, fun hp => ⟨by have := (HR1.out hp).1; omega, HZ.out, (HR1.out hp).2.2⟩, HB.out⟩
  · go_enter Try.func118, Try.ntmps118
    go_wp2_with fail
    go_ret
    exact ⟨_, rfl, by omega, fun hp => absurd hp (by omega), (Below.refl _ _).alloc (Nat.le_refl _) _⟩

theorem own_cap {w : World} {base : Nat} {e : TypeId} {size n : Nat} {A : Option Addr} {c : Nat} {xs : List Value} (h : w.ownsRow base e size (.slice A n c) n xs) : n ≤ c := by
  rcases h.2 with ⟨h1, rfl⟩ | ⟨g, cap, cur, e, _, _, h1, _⟩
  · exact Nat.zero_le _
  · injection e with _ _ e
    subst e; exact h1

set_option maxRecDepth 100000 in
theorem toStringSc_any (A : Option Addr) (n c : Nat) (xs : List Str) (lo : Nat) (w : World) (hr : RStr w lo A n xs) (hn : n ≤ 1048576) :
    Calls Try.prog 159 #[.slice A n c] w fun e w' => ∃ A' c', e = .returned (.slice A' n c') ∧ RStr w' w.heap.size A' n xs ∧ Below w.heap.size w w' ∧ n ≤ c' := by
  have HR := Lib.hid hr; clear hr
  obtain ⟨i0, hi0, hz0, hz1, hz2⟩ := info_parts info_str
  go_enter Try.func159, Try.ntmps159
  go_wp2_with (at_make; refine wpList_make_full _ rfl _ _ 29 rfl w.heap.size 9 i0 _ 1 Try.underlying29 hi0 hz0 hz1 _ _ _ _ n rfl rfl rfl rfl ?c1 ?c2 (Nat.le_refl _) ?_)
  case c1 => rw [hz2]; omega
  case c2 => unfold maxLen; omega
  intro w1 hown hgr
  have hbw : Below w.heap.size w w1 := (Below.refl _ _).grown hgr (Nat.le_refl _) (by simp)
  obtain ⟨A1, c1, hv1, hr1⟩ := own_fresh_str hown
  have hle := own_cap hown
  injection hv1 with hA1 hn1 hc1
  subst hA1
  clear hn1 hc1 hown hgr
  have HR1 := Lib.hid hr1; clear hr1
  have HB1 := Lib.hid hbw; clear hbw
  go_wp2_with fail
  go_loopw [4] (fun i wr => ∃ j : Nat, ∃ ys : List Str, j ≤ n ∧ i = .int .i64 (j : Int) ∧ RStr wr w.heap.size (some ⟨w.heap.size, 0, none⟩) n ys ∧ (∀ l, l < j → nth ys l = nth xs l) ∧ Below w.heap.size w wr) (fun i _ => n - (intOf i).toNat)
  case atStart => exact ⟨0, _, Nat.zero_le _, rfl, HR1.out, fa_zero, HB1.out⟩
  case round =>
    obtain ⟨j, ys, hj, rfl, hys, hp, hb⟩ := hrel
    have HP := Lib.hid hp; clear hp
    have HB := Lib.hid hb; clear hb
    have HY := Lib.hid hys; clear hys
    by_cases hlt : j < n
    · obtain ⟨b, off, rfl, ⟨hb1, hb2⟩, hc⟩ := RStr.at_ (HR.out.below HB.out) hlt
      obtain ⟨d1, _⟩ := hc j hlt
      clear hc
      obtain ⟨b', off', e', _, hc⟩ := RStr.at_ HY.out hlt
      injection e' with e'; injection e' with e1 e2
      have HE := Lib.hid e1; clear e1
      subst e2
      obtain ⟨f1, f2⟩ := hc j hlt
      rw [← HE.out, Nat.zero_add] at f1 f2
      clear hc
      go_wp2_with fail
      go_roundw
      case rel =>
        refine ⟨j + 1, ys.set j (nth xs j), by omega, by go_num, ?_, ?_, HB.out.setCell (Nat.le_refl _) _⟩
        · have := RStr.set_ HY.out hlt (nth xs j)
          rwa [Nat.zero_add] at this
        · intro l hl
          rw [nth_set (by rw [HY.out.1]; exact hlt)]
          by_cases e : l = j
          · rw [if_pos e, e]
          · rw [if_neg e]; exact HP.out l (by omega)
      case measure => simp [intOf]; omega
    · go_wp2_with fail
      go_ret
      refine ⟨_, _, rfl, ?_, HB.out, hle⟩
      have e : ys = xs := list_ext (by rw [HY.out.1, HR.out.1]) (fun l hl => HP.out l (by rw [HY.out.1] at hl; omega))
      rw [← e]; exact HY.out

theorem toStringS_any (A : Option Addr) (n c : Nat) (xs : List Str) (lo : Nat) (w : World) (hr : RStr w lo A n xs) (hn : n ≤ 1048576) :
    Calls Try.prog 159 #[.slice A n c] w fun e w' => ∃ A' c', e = .returned (.slice A' n c') ∧ RStr w' w.heap.size A' n xs ∧ Below w.heap.size w w' :=
  (toStringSc_any A n c xs lo w hr hn).mono (fun _ _ ⟨A', c', h1, h2, h3, _⟩ => ⟨A', c', h1, h2, h3⟩)

set_option maxRecDepth 100000 in
theorem toStepc_any (A : Option Addr) (n c : Nat) (s : Step) (lo : Nat) (w : World) (hr : RStr w lo A n s.after) (hn : n ≤ 1048576) :
    Calls Try.prog 127 #[.agg #[.string s.name, .slice A n c, .bool s.undo]] w fun e w' => ∃ A' c', e = .returned (.agg #[.string s.name, .slice A' n c', .bool s.undo]) ∧ RStr w' w.heap.size A' n s.after ∧ Below w.heap.size w w' ∧ n ≤ c' := by
  have HR := Lib.hid hr; clear hr
  go_enter Try.func127, Try.ntmps127
  go_wp2_with fail
  refine (toStringSc_any _ _ _ s.after _ _ (((HR.out.alloc _).alloc _).alloc _) hn).mono ?_
  rintro e w1 ⟨A2, c2, rfl, hr2, hb, hle⟩
  have hsz : (((w.alloc (.cells #[.string s.name, .slice A n c, .bool s.undo] 147)).alloc (.cells #[.string ⟨#[]⟩, .slice none 0 0, .bool false] 75)).alloc (.cells #[.string s.name, .slice none 0 0, .bool false] 75)).heap.size = w.heap.size + 1 + 1 + 1 := by simp
  rw [hsz] at hr2 hb
  have H0 := Lib.hid ((hb.block w.heap.size (by omega)).trans (heap_old (o := .cells #[.string s.name, .slice none 0 0, .bool false] 75) (heap_old (o := .cells #[.string ⟨#[]⟩, .slice none 0 0, .bool false] 75) (heap_new (w := w) (o := .cells #[.string s.name, .slice A n c, .bool s.undo] 147) rfl))))
  have H1 := Lib.hid ((hb.block (w.heap.size + 1) (by omega)).trans (heap_old (o := .cells #[.string s.name, .slice none 0 0, .bool false] 75) (heap_new (b := w.heap.size + 1) (o := .cells #[.string ⟨#[]⟩, .slice none 0 0, .bool false] 75) (by simp))))
  have H2 := Lib.hid ((hb.block (w.heap.size + 1 + 1) (by omega)).trans (heap_new (b := w.heap.size + 1 + 1) (o := .cells #[.string s.name, .slice none 0 0, .bool false] 75) (by simp)))
  have HB := Lib.hid (((((Below.refl w.heap.size w).alloc (Nat.le_refl _) (.cells #[.string s.name, .slice A n c, .bool s.undo] 147)).alloc (by simp) (.cells #[.string ⟨#[]⟩, .slice none 0 0, .bool false] 75)).alloc (by simp; omega) (.cells #[.string s.name, .slice none 0 0, .bool false] 75)).trans (hb.mono (by omega)))
  have HR2 := Lib.hid hr2
  clear hr2 hb hsz
  have H3 := Lib.hid (set31 (u := .slice A2 n c2) H2.out)
  have H4 := Lib.hid (show ((w1.setCell ⟨w.heap.size + 1 + 1, 1, none⟩ (.slice A2 n c2)).setCell ⟨w.heap.size + 1 + 1, 2, none⟩ (.bool s.undo)).heap[w.heap.size + 1 + 1]? = some (.cells #[.string s.name, .slice A2 n c2, .bool s.undo] 75 (0, 0)) from set_at H3.out)
  have H5 := Lib.hid (set_ne (b := w.heap.size + 1 + 1) (o := 2) (u := .bool s.undo) (set_ne (b := w.heap.size + 1 + 1) (o := 1) (u := .slice A2 n c2) H1.out (by omega)) (by omega))
  have H6 := Lib.hid (set_ne (b := w.heap.size + 1 + 1) (o := 1) (u := .slice A2 n c2) H0.out (by omega))
  have a2 := (blk_cl (k := 2) H0.out rfl).1
  have a3 := (blk_cl (k := 2) H6.out rfl).1
  have c1 := (blk_cl (k := 1) H2.out rfl).1
  have d1 := (blk_cl (k := 1) H2.out rfl).2
  have c2' := (blk_cl (k := 2) H3.out rfl).1
  have d2' := (blk_cl (k := 2) H3.out rfl).2
  have e0 := (blk_cl (k := 0) H4.out rfl).1
  have e1 := (blk_cl (k := 1) H4.out rfl).1
  have e2 := (blk_cl (k := 2) H4.out rfl).1
  have g0 := (blk_cl (k := 0) H5.out rfl).1
  have g0' := (blk_cl (k := 0) H5.out rfl).2
  have g1 := (blk_cl (k := 1) H5.out rfl).1
  have g1' := (blk_cl (k := 1) H5.out rfl).2
  have g2 := (blk_cl (k := 2) H5.out rfl).1
  have g2' := (blk_cl (k := 2) H5.out rfl).2
  go_wp2_with fail
  have hres := set3 (u0 := .string s.name) (u1 := .slice A2 n c2) (u2 := .bool s.undo) H5.out
  have p0 := (blk_cl (k := 0) hres rfl).1
  have p1 := (blk_cl (k := 1) hres rfl).1
  have p2 := (blk_cl (k := 2) hres rfl).1
  have l1 : w.heap.size + 1 < w.heap.size + 1 + 1 + 1 := by omega
  have l2 : w.heap.size + 1 + 1 < w.heap.size + 1 + 1 + 1 := by omega
  have q1 : w.heap.size ≤ w.heap.size + 1 := by omega
  have q2 : w.heap.size ≤ w.heap.size + 1 + 1 := by omega
  exact bodyPost_ret (v := .agg #[.string s.name, .slice A2 n c2, .bool s.undo]) (by simp [results, Try.results127, go_sem, p0, p1, p2]) rfl
    ⟨_, _, rfl, (((((HR2.out.setLow l2).setLow l2).setLow l1).setLow l1).setLow l1).lower (by omega),
      ((((HB.out.setCell (p := ⟨w.heap.size + 1 + 1, 1, none⟩) q2 _).setCell (p := ⟨w.heap.size + 1 + 1, 2, none⟩) q2 _).setCell (p := ⟨w.heap.size + 1, 0, none⟩) q1 _).setCell (p := ⟨w.heap.size + 1, 1, none⟩) q1 _).setCell (p := ⟨w.heap.size + 1, 2, none⟩) q1 _, hle⟩

theorem toStep_any (A : Option Addr) (n c : Nat) (s : Step) (lo : Nat) (w : World) (hr : RStr w lo A n s.after) (hn : n ≤ 1048576) :
    Calls Try.prog 127 #[.agg #[.string s.name, .slice A n c, .bool s.undo]] w fun e w' => ∃ A' c', e = .returned (.agg #[.string s.name, .slice A' n c', .bool s.undo]) ∧ RStr w' w.heap.size A' n s.after ∧ Below w.heap.size w w' :=
  (toStepc_any A n c s lo w hr hn).mono (fun _ _ ⟨A', c', h1, h2, h3, _⟩ => ⟨A', c', h1, h2, h3⟩)

set_option maxRecDepth 100000 in
theorem eqStep_same (A B : Option Addr) (n c d : Nat) (s : Step) (lo lo' : Nat) (w : World) (hr : RStr w lo A n s.after) (hn : n ≤ 1048576) (hr' : RStr w lo' B n s.after) :
    Calls Try.prog 131 #[.agg #[.string s.name, .slice A n c, .bool s.undo], .agg #[.string s.name, .slice B n d, .bool s.undo]] w fun e w' => e = .returned (.bool true) ∧ Below w.heap.size w w' := by
  have HX := Lib.hid hr; clear hr
  have HY := Lib.hid hr'; clear hr'
  have hq := seq_t (rfl : s.name = s.name)
  go_enter Try.func131, Try.ntmps131
  go_wp2_with fail
  refine (eqStringS_same _ _ _ _ _ _ s.after _ _ _ ((HX.out.alloc _).alloc _) hn ((HY.out.alloc _).alloc _)).mono ?_
  rintro e w1 ⟨rfl, q, rfl⟩
  cases hu : s.undo
  all_goals
    go_wp2_with fail
    go_ret
    exact ⟨rfl, below_drewN (((Below.refl _ _).alloc (Nat.le_refl _) _).alloc (by simp) _) _⟩
end Go.Proofs.Ytakeijgoonagcaa

/- Arguments opened: lists of integers, lists of guards. -/
namespace Go.Proofs.Ytakeijgoonagcaa
open Go.ChangeShapes Go.WideShapes Go.ChangeAt Go.RowKit Go.Deep

theorem Try.cellsInt : Try.prog.cellsOf 3 = 1 := by kernel_rfl
theorem Try.cellsGuard : Try.prog.cellsOf 143 = 3 := by kernel_rfl

section
variable {H : Type} {enc : TypeId × Value → H} {P : Program} {w : World} {base : Nat} {spare : Nat → Bool} {held : Bool}
theorem open_slice_fields {t e : TypeId} {fs : Array Field} {fuel : Nat} {cs : List Value} {x : DataW H × List MemPlace} (ht : P.underlying t = some (.slice e)) (he : P.underlying e = some (.struct fs))
    (hone : oneCellFields P fs = true) (hC : P.cellsOf e = fs.size) (h : DataW.trod enc P w base spare held fuel t cs = some x) :
    (cs = [.slice none 0 0] ∧ x = (.nil, [])) ∨
    ∃ (a : Addr) (len cap m : Nat) (D : Nat → DataW H) (Pl : Nat → List MemPlace), cs = [.slice (some a) len cap] ∧ base ≤ a.block ∧ len ≤ cap ∧ cap ≤ maxLen ∧ m = (if spare a.block then cap else len) ∧
      x = (.slice ((List.range len).map D) ((List.range (m - len)).map fun j => D (len + j)), MemPlace.row a (m * fs.size) ++ (List.range m).flatMap Pl) ∧
      ∀ i, i < m → ∃ (ys : List (DataW H × List MemPlace)) (n : Nat), D i = .agg (ys.map (·.1)) ∧ Pl i = ys.flatMap (·.2) ∧ ys.length = fs.size ∧
        ∀ (j : Nat) (f : Field), fs[j]? = some f → ∃ (v : Value) (y : DataW H × List MemPlace), w.cell? (a.add (i * fs.size + j)) = some v ∧ ys[j]? = some y ∧ DataW.trod enc P w base spare held n f.type [v] = some y := by
  rcases open_slice ht h with h0 | ⟨a, len, cap, m, n, D, Pl, hcs, hb, hl, hm, hmm, hx, hi⟩
  · exact .inl h0
  · refine .inr ⟨a, len, cap, m, D, Pl, hcs, hb, hl, hm, hmm, by rw [hC] at hx; exact hx, fun i him => ?_⟩
    obtain ⟨cs', hc, ht'⟩ := hi i him
    rw [hC] at hc
    obtain ⟨ys, n', hn', hy, hlen, hyl, hf⟩ := DataW.trod_struct he ht'
    obtain ⟨_, hcl, hat⟩ := World.cells?_some hc
    simp only [Prod.mk.injEq] at hy
    refine ⟨ys, n', hy.1, hy.2, hyl, fun j f hj => ?_⟩
    obtain ⟨ho, hk⟩ := hone_of hone j f hj
    have hjl : j < fs.size := (Array.getElem?_eq_some_iff.1 hj).1
    have hcell := hat j hjl
    have hv : cs'[j]? = some (cs'[j]'(by omega)) := List.getElem?_eq_getElem (by omega)
    have h1 := hf j f hj
    rw [ho, hk] at h1
    have hone' : (cs'.drop j).take 1 = [cs'[j]'(by omega)] := by
      rw [List.drop_eq_getElem_cons (by omega)]
      rfl
    rw [hone'] at h1
    have hys : ys[j]? = some (ys[j]'(by omega)) := List.getElem?_eq_getElem (by omega)
    refine ⟨_, _, ?_, hys, h1.trans hys⟩
    rw [← Go.Deep.add_add, hcell, hv]
end

theorem addr_plain {w : World} {a : Addr} {k : Nat} {v : Value} (h : w.cell? (a.add k) = some v) : k = 0 → a = ⟨a.block, a.off, none⟩ := fun hk => by
  subst hk
  obtain ⟨b, off, spot⟩ := a
  have hspot : spot = none := by simpa [Addr.add] using World.cell?_spot h
  subst hspot; rfl

/-- An '[]int' that came in. -/
theorem open_intS {H : Type} {enc : TypeId × Value → H} {W : World} {a0 : Option Addr} {len cap : Nat} {d : DataW H} {p : List MemPlace} {fuel : Nat}
    (h : DataW.trod enc Try.prog W 0 (fun _ => true) true fuel 60 (Value.cells (.slice a0 len cap)).toList = some (d, p)) (hz : W.noneFrozen p) :
    ∃ vs, RInt W 0 a0 len vs ∧ len ≤ maxLen := by
  rcases open_ints Try.underlying60 Try.underlying3 Try.cellsInt h with ⟨hcs, hx⟩ | ⟨a, len', cap', zs, hcs, _, hl, hm, hzl, hx, hcell, hwz⟩
  · simp [Value.cells] at hcs
    obtain ⟨rfl, rfl, rfl⟩ := hcs
    exact ⟨[], RL.nil, by unfold maxLen; omega⟩
  · simp [Value.cells] at hcs
    obtain ⟨rfl, rfl, rfl⟩ := hcs
    simp only [Prod.mk.injEq] at hx
    obtain ⟨_, rfl⟩ := hx
    have hlz : len ≤ zs.length := by rw [hzl]; split <;> omega
    refine ⟨zs.take len, ⟨by rw [List.length_take]; omega, fun h0 => ?_⟩, Nat.le_trans hl hm⟩
    obtain ⟨b, off, spot⟩ := a
    have hspot : spot = none := by simpa [Addr.add] using World.cell?_spot (hcell 0 (by omega))
    subst hspot
    refine ⟨b, off, rfl, Nat.zero_le _, World.block_lt_of_cell? W _ (hcell 0 (by omega)), fun k hk => ?_⟩
    have hc := hcell k (by omega)
    rw [add_plain] at hc
    have hf := hz b (off + k) (MemPlace.mem_row.2 ⟨k, by omega, rfl⟩)
    have e : nth (zs.take len) k = zs.getD k 0 := by
      rw [nth_eq (by rw [List.length_take]; omega), List.getElem_take, List.getD_eq_getElem?_getD, List.getElem?_eq_getElem (by omega)]; rfl
    rw [e]
    have : Cl W b (off + k) (.int .i64 (zs.getD k 0)) := ⟨hc, hf⟩
    simpa [intE] using this

def w3 (W : World) (a : Addr) (i : Nat) (g : Guard) : Prop := W.cell? (a.add (i * 3 + 0)) = some (.string g.name) ∧ W.cell? (a.add (i * 3 + 1)) = some (.int .i64 g.var) ∧ W.cell? (a.add (i * 3 + 2)) = some (.int .i64 g.least)

/-- A '[]Guard' that came in. -/
theorem open_guardS {H : Type} {enc : TypeId × Value → H} {W : World} {a0 : Option Addr} {len cap : Nat} {d : DataW H} {p : List MemPlace} {fuel : Nat}
    (h : DataW.trod enc Try.prog W 0 (fun _ => true) true fuel 80 (Value.cells (.slice a0 len cap)).toList = some (d, p)) (hz : W.noneFrozen p) :
    ∃ gs, RGuard W 0 a0 len gs ∧ len ≤ maxLen ∧ ∀ j, j < len → (nth gs j).name.size ≤ maxLen := by
  rcases open_slice_fields Try.underlying80 Try.underlying143 (by kernel_rfl) Try.cellsGuard h with ⟨hcs, hx⟩ | ⟨a, len', cap', m, D, Pl, hcs, _, hl, hm, hmm, hx, hi⟩
  · simp [Value.cells] at hcs
    obtain ⟨rfl, rfl, rfl⟩ := hcs
    exact ⟨[], RL.nil, by unfold maxLen; omega, fun j hj => absurd hj (by omega)⟩
  · simp [Value.cells] at hcs
    obtain ⟨rfl, rfl, rfl⟩ := hcs
    simp only [Prod.mk.injEq] at hx
    obtain ⟨_, rfl⟩ := hx
    have hlm : len ≤ m := by rw [hmm]; split <;> omega
    have each : ∀ i, ∃ g : Guard, i < m → (w3 W a i g ∧ g.name.size ≤ maxLen) := fun i => by
      by_cases him : i < m
      · obtain ⟨ys, n, _, _, hyl, hf⟩ := hi i him
        obtain ⟨v0, y0, c0, e0, t0⟩ := hf 0 _ rfl
        obtain ⟨v1, y1, c1, e1, t1⟩ := hf 1 _ rfl
        obtain ⟨v2, y2, c2, e2, t2⟩ := hf 2 _ rfl
        obtain ⟨s, hs1, _, hs3⟩ := DataW.trod_string Try.underlying9 t0
        obtain ⟨z1, hz1, _⟩ := DataW.trod_int Try.underlying3 t1
        obtain ⟨z2, hz2, _⟩ := DataW.trod_int Try.underlying3 t2
        have g0 : v0 = .string s := by simpa using hs1
        have g1 : v1 = .int .i64 z1 := by simpa using hz1
        have g2 : v2 = .int .i64 z2 := by simpa using hz2
        subst g0; subst g1; subst g2
        exact ⟨⟨s, z1, z2⟩, fun _ => ⟨⟨c0, c1, c2⟩, hs3⟩⟩
      · exact ⟨default, fun h => absurd h him⟩
    obtain ⟨G, hG⟩ : ∃ G : Nat → Guard, ∀ i, i < m → (w3 W a i (G i) ∧ (G i).name.size ≤ maxLen) := ⟨fun i => Classical.choose (each i), fun i => Classical.choose_spec (each i)⟩
    have hnth : ∀ k, k < len → nth ((List.range len).map G) k = G k := fun k hk => by rw [nth_eq (by simpa using hk)]; simp
    refine ⟨(List.range len).map G, ⟨by simp, fun h0 => ?_⟩, Nat.le_trans hl hm, fun j hj => by rw [hnth j hj]; exact (hG j (by omega)).2⟩
    obtain ⟨b, off, spot⟩ := a
    have hspot : spot = none := by simpa [Addr.add] using World.cell?_spot (hG 0 (by omega)).1.1
    subst hspot
    refine ⟨b, off, rfl, Nat.zero_le _, World.block_lt_of_cell? W _ (hG 0 (by omega)).1.1, fun k hk => ?_⟩
    rw [hnth k hk]
    obtain ⟨⟨c0, c1, c2⟩, _⟩ := hG k (by omega)
    rw [add_plain] at c0 c1 c2
    have hfr : ∀ j, j < 3 → W.frozen? ⟨b, off + (k * 3 + j), none⟩ = false := fun j hj => hz b (off + (k * 3 + j)) (List.mem_append_left _ (MemPlace.mem_row.2 ⟨k * 3 + j, (by
      show k * 3 + j < m * 3
      omega), rfl⟩))
    exact ⟨⟨c0, hfr 0 (by omega)⟩, ⟨c1, hfr 1 (by omega)⟩, ⟨c2, hfr 2 (by omega)⟩⟩
end Go.Proofs.Ytakeijgoonagcaa

/- Arguments opened: names, steps, flows. -/
namespace Go.Proofs.Ytakeijgoonagcaa
open Go.ChangeShapes Go.WideShapes Go.ChangeAt Go.RowKit Go.Deep

theorem Try.cellsStr : Try.prog.cellsOf 9 = 1 := by kernel_rfl
theorem Try.cellsLStep : Try.prog.cellsOf 147 = 3 := by kernel_rfl

section
variable {H : Type} {enc : TypeId × Value → H} {P : Program} {w : World} {base : Nat} {spare : Nat → Bool} {held : Bool}
theorem open_struct_fields {t : TypeId} {fs : Array Field} {fuel : Nat} {cs : List Value} {x : DataW H × List MemPlace} (ht : P.underlying t = some (.struct fs)) (hone : oneCellFields P fs = true)
    (h : DataW.trod enc P w base spare held fuel t cs = some x) :
    ∃ (ys : List (DataW H × List MemPlace)) (n : Nat), x = (.agg (ys.map (·.1)), ys.flatMap (·.2)) ∧
      ∀ (j : Nat) (f : Field) (v : Value), fs[j]? = some f → cs[j]? = some v → ∃ y, ys[j]? = some y ∧ DataW.trod enc P w base spare held n f.type [v] = some y := by
  obtain ⟨ys, n, _, hx, _, hyl, hf⟩ := DataW.trod_struct ht h
  refine ⟨ys, n, hx, fun j f v hj hv => ?_⟩
  obtain ⟨ho, hk⟩ := hone_of hone j f hj
  have h1 := hf j f hj
  rw [ho, hk] at h1
  obtain ⟨hjl, hv'⟩ := List.getElem?_eq_some_iff.1 hv
  have h2 : (cs.drop j).take 1 = [v] := by
    rw [List.drop_eq_getElem_cons hjl, hv']
    rfl
  rw [h2] at h1
  have hjy : j < ys.length := by rw [hyl]; exact (Array.getElem?_eq_some_iff.1 hj).1
  exact ⟨ys[j], List.getElem?_eq_getElem hjy, h1.trans (List.getElem?_eq_getElem hjy)⟩
end

/-- A field's list of names. -/
theorem open_strS {H : Type} {enc : TypeId × Value → H} {W : World} {v : Value} {d : DataW H} {p : List MemPlace} {fuel : Nat}
    (h : DataW.trod enc Try.prog W 0 (fun _ => true) true fuel 29 [v] = some (d, p)) (hz : W.noneFrozen p) :
    ∃ A n c xs, v = .slice A n c ∧ RStr W 0 A n xs ∧ n ≤ maxLen ∧ ∀ j, j < n → (nth xs j).size ≤ maxLen := by
  rcases open_strings Try.underlying29 Try.underlying9 Try.cellsStr h with ⟨hcs, _⟩ | ⟨a, len, cap, ss, hcs, _, hl, hm, hsl, hx, hcell, hsz⟩
  · have hv : v = .slice none 0 0 := by simpa using hcs
    exact ⟨none, 0, 0, [], hv, RL.nil, by unfold maxLen; omega, fun j hj => absurd hj (by omega)⟩
  · have hv : v = .slice (some a) len cap := by simpa using hcs
    simp only [Prod.mk.injEq] at hx
    obtain ⟨_, rfl⟩ := hx
    have hlz : len ≤ ss.length := by rw [hsl]; split <;> omega
    have hnth : ∀ k, k < len → nth (ss.take len) k = ss.getD k ByteArray.empty := fun k hk => by
      rw [nth_eq (by rw [List.length_take]; omega), List.getElem_take, List.getD_eq_getElem?_getD, List.getElem?_eq_getElem (by omega)]; rfl
    refine ⟨some a, len, cap, ss.take len, hv, ⟨by rw [List.length_take]; omega, fun h0 => ?_⟩, Nat.le_trans hl hm, fun j hj => ?_⟩
    · obtain ⟨b, off, spot⟩ := a
      have hspot : spot = none := by simpa [Addr.add] using World.cell?_spot (hcell 0 (by omega))
      subst hspot
      refine ⟨b, off, rfl, Nat.zero_le _, World.block_lt_of_cell? W _ (hcell 0 (by omega)), fun k hk => ?_⟩
      have hc := hcell k (by omega)
      rw [add_plain] at hc
      have hf := hz b (off + k) (MemPlace.mem_row.2 ⟨k, by omega, rfl⟩)
      rw [hnth k hk]
      have : Cl W b (off + k) (.string (ss.getD k ByteArray.empty)) := ⟨hc, hf⟩
      simpa [strE] using this
    · rw [hnth j hj, List.getD_eq_getElem?_getD, List.getElem?_eq_getElem (by omega)]
      exact hsz _ (List.getElem_mem _)

def stepSz (s : Step) : Prop := s.name.size ≤ maxLen ∧ s.after.length ≤ maxLen ∧ ∀ j, j < s.after.length → (nth s.after j).size ≤ maxLen
def stepW (W : World) (a : Addr) (i : Nat) (s : Step) : Prop := W.cell? (a.add (i * 3 + 0)) = some (.string s.name) ∧ (∃ A n c, W.cell? (a.add (i * 3 + 1)) = some (.slice A n c) ∧ RStr W 0 A n s.after) ∧ W.cell? (a.add (i * 3 + 2)) = some (.bool s.undo)

/-- A list of steps that came in. -/
theorem open_stepS {H : Type} {enc : TypeId × Value → H} {W : World} {v : Value} {d : DataW H} {p : List MemPlace} {fuel : Nat}
    (h : DataW.trod enc Try.prog W 0 (fun _ => true) true fuel 22 [v] = some (d, p)) (hz : W.noneFrozen p) :
    ∃ A n c ss, v = .slice A n c ∧ RStep W 0 A n ss ∧ n ≤ maxLen ∧ ∀ j, j < n → stepSz (nth ss j) := by
  rcases open_slice_fields Try.underlying22 Try.underlying147 (by kernel_rfl) Try.cellsLStep h with ⟨hcs, hx⟩ | ⟨a, len, cap, m, D, Pl, hcs, _, hl, hm, hmm, hx, hi⟩
  · have hv : v = .slice none 0 0 := by simpa using hcs
    exact ⟨none, 0, 0, [], hv, RL.nil, by unfold maxLen; omega, fun j hj => absurd hj (by omega)⟩
  · have hv : v = .slice (some a) len cap := by simpa using hcs
    simp only [Prod.mk.injEq] at hx
    obtain ⟨_, rfl⟩ := hx
    have hlm : len ≤ m := by rw [hmm]; split <;> omega
    have each : ∀ i, ∃ s : Step, i < m → (stepW W a i s ∧ stepSz s) := fun i => by
      by_cases him : i < m
      · obtain ⟨ys, n, _, hpl, hyl, hf⟩ := hi i him
        obtain ⟨v0, y0, c0, e0, t0⟩ := hf 0 _ rfl
        obtain ⟨v1, y1, c1, e1, t1⟩ := hf 1 _ rfl
        obtain ⟨v2, y2, c2, e2, t2⟩ := hf 2 _ rfl
        obtain ⟨s, hs1, _, hs3⟩ := DataW.trod_string Try.underlying9 t0
        obtain ⟨u, hu1, _⟩ := DataW.trod_bool Try.underlying4 t2
        have hz1 : W.noneFrozen y1.2 := fun b off hb => hz b off (List.mem_append_right _ (List.mem_flatMap.2 ⟨i, List.mem_range.2 him, by rw [hpl]; exact List.mem_flatMap.2 ⟨y1, List.mem_of_getElem? e1, hb⟩⟩))
        obtain ⟨A, n1, k1, xs, hv1, hrs, hn1, hsz⟩ := open_strS (d := y1.1) (p := y1.2) t1 hz1
        have g0 : v0 = .string s := by simpa using hs1
        have g2 : v2 = .bool u := by simpa using hu1
        subst g0; subst g2; subst hv1
        exact ⟨⟨s, xs, u⟩, fun _ => ⟨⟨c0, ⟨A, n1, k1, c1, hrs⟩, c2⟩, hs3, by show xs.length ≤ _; rw [hrs.1]; exact hn1, fun j hj => hsz j (by rw [← hrs.1]; exact hj)⟩⟩
      · exact ⟨default, fun h => absurd h him⟩
    obtain ⟨G, hG⟩ : ∃ G : Nat → Step, ∀ i, i < m → (stepW W a i (G i) ∧ stepSz (G i)) := ⟨fun i => Classical.choose (each i), fun i => Classical.choose_spec (each i)⟩
    have hnth : ∀ k, k < len → nth ((List.range len).map G) k = G k := fun k hk => by rw [nth_eq (by simpa using hk)]; simp
    refine ⟨some a, len, cap, (List.range len).map G, hv, ⟨by simp, fun h0 => ?_⟩, Nat.le_trans hl hm, fun j hj => by rw [hnth j hj]; exact (hG j (by omega)).2⟩
    obtain ⟨b, off, spot⟩ := a
    have hspot : spot = none := by simpa [Addr.add] using World.cell?_spot (hG 0 (by omega)).1.1
    subst hspot
    refine ⟨b, off, rfl, Nat.zero_le _, World.block_lt_of_cell? W _ (hG 0 (by omega)).1.1, fun k hk => ?_⟩
    rw [hnth k hk]
    obtain ⟨⟨c0, ⟨A, n1, k1, c1, hrs⟩, c2⟩, _⟩ := hG k (by omega)
    rw [add_plain] at c0 c1 c2
    have hfr : ∀ j, j < 3 → W.frozen? ⟨b, off + (k * 3 + j), none⟩ = false := fun j hj => hz b (off + (k * 3 + j)) (List.mem_append_left _ (MemPlace.mem_row.2 ⟨k * 3 + j, (by
      show k * 3 + j < m * 3
      omega), rfl⟩))
    exact ⟨⟨c0, hfr 0 (by omega)⟩, ⟨A, n1, k1, ⟨c1, hfr 1 (by omega)⟩, hrs⟩, ⟨c2, hfr 2 (by omega)⟩⟩

set_option maxRecDepth 100000 in
/-- A flow that came in. -/
theorem open_flow {H : Type} {enc : TypeId × Value → H} {W : World} {base : Nat} {v : Value} {d : DataW H} {p : List MemPlace} {fuel : Nat} (hw : Value.okWide Try.prog W .any base 24 v)
    (h : DataW.trod enc Try.prog W 0 (fun _ => true) true fuel 24 (Value.cells v).toList = some (d, p)) (hz : W.noneFrozen p) :
    ∃ ver A n c ss, v = .agg #[.int .i64 ver, .slice A n c] ∧ RStep W 0 A n ss ∧ n ≤ maxLen ∧ ∀ j, j < n → stepSz (nth ss j) := by
  obtain ⟨cs, rfl, hcs⟩ := okWide_struct Try.underlying24 hw
  have h2 : cs.size = 2 := hcs.trans (by kernel_rfl)
  obtain ⟨x, y, rfl⟩ : ∃ x y, cs = #[x, y] := by
    obtain ⟨l⟩ := cs
    match l, h2 with
    | [x, y], _ => exact ⟨x, y, rfl⟩
  obtain ⟨ys, n, hx, hf⟩ := open_struct_fields Try.underlying24 (by kernel_rfl) h
  simp only [Prod.mk.injEq] at hx
  obtain ⟨_, rfl⟩ := hx
  obtain ⟨y0, e0, t0⟩ := hf 0 _ x rfl rfl
  obtain ⟨y1, e1, t1⟩ := hf 1 _ y rfl rfl
  obtain ⟨ver, hv1, _⟩ := DataW.trod_int Try.underlying3 t0
  have g0 : x = .int .i64 ver := by simpa using hv1
  subst g0
  obtain ⟨A, m, c, ss, hv, hr, hn, hsz⟩ := open_stepS (d := y1.1) (p := y1.2) t1 (fun b off hb => hz b off (List.mem_flatMap.2 ⟨y1, List.mem_of_getElem? e1, hb⟩))
  subst hv
  exact ⟨ver, A, m, c, ss, rfl, hr, hn, hsz⟩
end Go.Proofs.Ytakeijgoonagcaa

/- What the exact laws need beside the functions: lists of steps, flows. -/
namespace Go.Proofs.Ytakeijgoonagcaa
open Go.RowKit

set_option maxRecDepth 100000 in
theorem szStepS_any (A : Option Addr) (n c : Nat) (ss : List Step) (lo : Nat) (left : Int) (w : World) (hr : RStep w lo A n ss) (hn : n ≤ maxLen) (hs : ∀ j, j < n → stepSz (nth ss j)) (h0 : 0 ≤ left) (h1 : left ≤ 1048576) :
    Calls Try.prog 57 #[.slice A n c, .int .i64 left] w (SzQ left (okSteps ss) w) := by
  have HR := Lib.hid hr; clear hr
  have HS := Lib.hid hs; clear hs
  unfold maxLen at hn
  by_cases hbig : left < (n : Int)
  · go_enter Try.func57, Try.ntmps57
    go_wp2_with fail
    go_ret
    exact ⟨_, rfl, by omega, fun h => absurd h (by omega), Below.refl _ _⟩
  go_enter Try.func57, Try.ntmps57
  go_wp2_with fail
  go_loopw [1, 5] (fun q i wr => ∃ j : Nat, ∃ r : Int, j ≤ n ∧ i = .int .i64 (j : Int) ∧ q = .int .i64 r ∧ 0 ≤ r ∧ r ≤ left ∧ (∀ l, l < j → okStep (nth ss l)) ∧ Below w.heap.size w wr) (fun _ i _ => n - (intOf i).toNat)
  case atStart => exact ⟨0, _, Nat.zero_le _, rfl, rfl, by omega, by omega, fa_zero, Below.refl _ _⟩
  case round =>
    obtain ⟨j, r, hj, rfl, rfl, hr0, hr1, hp, hb⟩ := hrel
    have HP := Lib.hid hp; clear hp
    have HB := Lib.hid hb; clear hb
    by_cases hlt : j < n
    · obtain ⟨b, off, rfl, ⟨hb1, hb2⟩, hc⟩ := RStep.at_ (HR.out.below HB.out) hlt
      obtain ⟨A', n', c', ⟨c1, c2, c3⟩, hra, _⟩ := hc j hlt
      clear hc
      have HRA := Lib.hid hra; clear hra
      have HSZ := Lib.hid (HS.out j hlt)
      have HNL := Lib.hid (show n' ≤ maxLen from by rw [← HRA.out.1]; exact HSZ.out.2.1)
      go_wp2_with fail
      refine (szStep_any _ _ _ (nth ss j) _ r _ HRA.out HNL.out (fun i hi => HSZ.out.2.2 i (by rw [HRA.out.1]; exact hi)) HSZ.out.1 hr0 (by omega)).mono ?_
      rintro e w1 ⟨r1, rfl, hr2, hr3, hbw⟩
      have HBW := Lib.hid hbw; clear hbw
      have HR3 := Lib.hid hr3; clear hr3
      by_cases hneg : r1 < 0
      · go_wp2_with fail
        go_ret
        exact ⟨_, rfl, by omega, fun h => absurd h (by omega), HB.out.trans (HBW.out.mono HB.out.size)⟩
      · have hle := (HR3.out (by omega)).1
        go_wp2_with fail
        go_roundw
        case rel => exact ⟨j + 1, _, by omega, by go_num, rfl, by omega, by omega, fa_succ HP.out (HR3.out (by omega)).2, HB.out.trans (HBW.out.mono HB.out.size)⟩
        case measure => simp [intOf]; omega
    · go_wp2_with fail
      go_ret
      exact ⟨_, rfl, by omega, fun _ => ⟨hr1, by rw [HR.out.1]; omega, fun l hl => HP.out l (by rw [HR.out.1] at hl; omega)⟩, HB.out⟩

set_option maxRecDepth 100000 in
theorem szFlow_any (A : Option Addr) (n c : Nat) (f : Flow) (lo : Nat) (left : Int) (w : World) (hr : RStep w lo A n f.steps) (hn : n ≤ maxLen) (hs : ∀ j, j < n → stepSz (nth f.steps j)) (h0 : 0 ≤ left) (h1 : left ≤ 1048576) :
    Calls Try.prog 14 #[.agg #[.int .i64 f.ver, .slice A n c], .int .i64 left] w (SzQ left (okSteps f.steps) w) := by
  have HR := Lib.hid hr; clear hr
  have HS := Lib.hid hs; clear hs
  have HN := Lib.hid hn; clear hn
  go_enter Try.func14, Try.ntmps14
  go_wp2_with fail
  refine (szStepS_any _ _ _ f.steps _ _ _ (HR.out.alloc _) HN.out HS.out (by omega) (by omega)).mono ?_
  rintro e w1 ⟨r, rfl, hr0, hr1, hb⟩
  have HB := Lib.hid (((Below.refl w.heap.size w).alloc (Nat.le_refl _) (.cells #[.int .i64 f.ver, .slice A n c] 24)).trans (hb.mono (by simp)))
  clear hb
  have HR1 := Lib.hid hr1; clear hr1
  by_cases hneg : r < 0
  · go_wp2_with fail
    go_ret
    exact ⟨_, rfl, by omega, fun h => absurd h (by omega), HB.out⟩
  · go_wp2_with fail
    go_ret
    exact ⟨_, rfl, by omega, HR1.out, HB.out⟩

/-- A row of steps in block b, their lists in blocks behind it. -/
def RRow (w : World) (b n : Nat) (ss : List Step) : Prop :=
  ss.length = n ∧ (0 < n → b < w.heap.size) ∧ ∀ k, k < n → Cl w b (k * 3) (.string (nth ss k).name) ∧ (∃ A m c, Cl w b (k * 3 + 1) (.slice A m c) ∧ RH strE w (b + 1) w.heap.size A m (nth ss k).after) ∧ Cl w b (k * 3 + 2) (.bool (nth ss k).undo)
theorem RRow.hat {w : World} {b n : Nat} {ss : List Step} (h : RRow w b n ss) : RStep w b (some ⟨b, 0, none⟩) n ss :=
  ⟨h.1, fun hn => ⟨b, 0, rfl, Nat.le_refl _, h.2.1 hn, fun k hk => by
    obtain ⟨c1, ⟨A, m, c, c2, c3⟩, c4⟩ := h.2.2 k hk
    have e : 0 + k * stepE.size = k * 3 := by show 0 + k * 3 = k * 3; omega
    rw [e]
    exact ⟨c1, ⟨A, m, c, c2, c3.wide (Nat.le_succ _) (Nat.le_refl _)⟩, c4⟩⟩⟩
theorem RRow.below {w w' : World} {b n : Nat} {ss : List Step} (h : RRow w b n ss) (hb : Below w.heap.size w w') : RRow w' b n ss :=
  ⟨h.1, fun hn => Nat.lt_of_lt_of_le (h.2.1 hn) hb.size, fun k hk => by
    obtain ⟨c1, ⟨A, m, c, c2, c3⟩, c4⟩ := h.2.2 k hk
    have hl := h.2.1 (by omega)
    have hs : Same b w.heap.size w w' := Same.of_below hb
    exact ⟨c1.same hs (Nat.le_refl _) hl, ⟨A, m, c, c2.same hs (Nat.le_refl _) hl, (c3.below hb (Nat.le_refl _)).wide (Nat.le_refl _) hb.size⟩, c4.same hs (Nat.le_refl _) hl⟩⟩
theorem RRow.set {w : World} {b n j m d : Nat} {B : Option Addr} {ss : List Step} {s : Step} (h : RRow w b n ss) (hj : j < n) (hs : RH strE w (b + 1) w.heap.size B m s.after) :
    RRow (((w.setCell ⟨b, j * 3, none⟩ (.string s.name)).setCell ⟨b, j * 3 + 1, none⟩ (.slice B m d)).setCell ⟨b, j * 3 + 2, none⟩ (.bool s.undo)) b n (ss.set j s) := by
  have hsz : (((w.setCell ⟨b, j * 3, none⟩ (.string s.name)).setCell ⟨b, j * 3 + 1, none⟩ (.slice B m d)).setCell ⟨b, j * 3 + 2, none⟩ (.bool s.undo)).heap.size = w.heap.size := by simp
  have hk : ∀ {A : Option Addr} {m : Nat} {xs : List Str}, RH strE w (b + 1) w.heap.size A m xs →
      RH strE (((w.setCell ⟨b, j * 3, none⟩ (.string s.name)).setCell ⟨b, j * 3 + 1, none⟩ (.slice B m d)).setCell ⟨b, j * 3 + 2, none⟩ (.bool s.undo)) (b + 1) w.heap.size A m xs := fun h =>
    h.same ⟨fun i h1 _ => ((Below.heap_setCell _ _ _ i (by show i ≠ b; omega)).trans (Below.heap_setCell _ _ _ i (by show i ≠ b; omega))).trans (Below.heap_setCell _ _ _ i (by show i ≠ b; omega))⟩
  refine ⟨by rw [List.length_set]; exact h.1, fun hn => by rw [hsz]; exact h.2.1 hn, fun k hkn => ?_⟩
  obtain ⟨c1, ⟨A, m', c, c2, c3⟩, c4⟩ := h.2.2 k hkn
  rw [nth_set (by rw [h.1]; exact hj), hsz]
  have hk2 : ∀ {A : Option Addr} {m' : Nat} {xs : List Str}, RH strE w (b + 1) w.heap.size A m' xs →
      RH strE (((w.setCell ⟨b, j * 3, none⟩ (.string s.name)).setCell ⟨b, j * 3 + 1, none⟩ (.slice B m d)).setCell ⟨b, j * 3 + 2, none⟩ (.bool s.undo)) (b + 1) w.heap.size A m' xs := fun h =>
    h.same ⟨fun i h1 _ => ((Below.heap_setCell _ _ _ i (by show i ≠ b; omega)).trans (Below.heap_setCell _ _ _ i (by show i ≠ b; omega))).trans (Below.heap_setCell _ _ _ i (by show i ≠ b; omega))⟩
  by_cases hkj : k = j
  · subst hkj
    rw [if_pos rfl]
    exact ⟨(c1.set_same.set_other (.inr (by omega))).set_other (.inr (by omega)), ⟨B, m, d, ((c2.set_other (.inr (by omega))).set_same).set_other (.inr (by omega)), hk2 hs⟩, ((c4.set_other (.inr (by omega))).set_other (.inr (by omega))).set_same⟩
  · rw [if_neg hkj]
    exact ⟨((c1.set_other (.inr (by omega))).set_other (.inr (by omega))).set_other (.inr (by omega)), ⟨A, m', c, ((c2.set_other (.inr (by omega))).set_other (.inr (by omega))).set_other (.inr (by omega)), hk2 c3⟩, ((c4.set_other (.inr (by omega))).set_other (.inr (by omega))).set_other (.inr (by omega))⟩
theorem own_fresh_step {w : World} {base : Nat} {e : TypeId} {v : Value} {n : Nat} (h : w.ownsRow base e 3 v n (madeCells #[.string ⟨#[]⟩, .slice none 0 0, .bool false] (n * 3)).toList) :
    ∃ A c, v = .slice A n c ∧ (0 < n → ∃ b, A = some ⟨b, 0, none⟩ ∧ base ≤ b) ∧ ∀ b, A = some ⟨b, 0, none⟩ → RRow w b n (List.replicate n ⟨⟨#[]⟩, [], false⟩) := by
  obtain ⟨A, c, hv, hf⟩ := own_made (m := 3) (z := #[.string ⟨#[]⟩, .slice none 0 0, .bool false]) rfl h
  refine ⟨A, c, hv, fun hn => ?_, fun b hb => ⟨by simp, fun hn => ?_, fun k hk => ?_⟩⟩
  · obtain ⟨b, e1, h1, _⟩ := hf hn
    exact ⟨b, e1, h1⟩
  · obtain ⟨b', e1, _, h2, _⟩ := hf hn
    rw [hb] at e1
    injection e1 with e1; injection e1 with e2
    subst e2; exact h2
  · obtain ⟨b', e1, h1, h2, hc⟩ := hf (by omega)
    rw [hb] at e1
    injection e1 with e1; injection e1 with e2
    subst e2
    rw [nth_rep hk]
    exact ⟨hc k hk 0 _ (by omega) rfl, ⟨none, 0, 0, hc k hk 1 _ (by omega) rfl, RH.nil⟩, hc k hk 2 _ (by omega) rfl⟩

set_option maxRecDepth 100000 in
theorem toStepS_any (A : Option Addr) (n c : Nat) (xs : List Step) (lo : Nat) (w : World) (hr : RStep w lo A n xs) (hok : okSteps xs) :
    Calls Try.prog 62 #[.slice A n c] w fun e w' => ∃ A' c', e = .returned (.slice A' n c') ∧ RStep w' w.heap.size A' n xs ∧ Below w.heap.size w w' := by
  have hn : n ≤ 1048576 := by have := hok.1; rw [hr.1] at this; exact this
  have HO := Lib.hid hok; clear hok
  have HR := Lib.hid hr; clear hr
  obtain ⟨i0, hi0, hz0, hz1, hz2⟩ := info_parts info_step
  go_enter Try.func62, Try.ntmps62
  go_wp2_with (at_make; refine wpList_make_full _ rfl _ _ 32 rfl w.heap.size 75 i0 _ 3 Try.underlying32 hi0 hz0 hz1 _ _ _ _ n rfl rfl rfl rfl ?c1 ?c2 (Nat.le_refl _) ?_)
  case c1 => rw [hz2]; omega
  case c2 => unfold maxLen; omega
  intro w1 hown hgr
  have hbw : Below w.heap.size w w1 := (Below.refl _ _).grown hgr (Nat.le_refl _) (by simp)
  obtain ⟨A1, c1, hv1, _, hr1⟩ := own_fresh_step hown
  injection hv1 with hA1 hn1 hc1
  subst hA1
  have HR1 := Lib.hid (hr1 w.heap.size rfl)
  clear hn1 hc1 hown hgr hr1
  have HB1 := Lib.hid hbw; clear hbw
  go_wp2_with fail
  go_loopw [4] (fun i wr => ∃ j : Nat, ∃ ys : List Step, j ≤ n ∧ i = .int .i64 (j : Int) ∧ RRow wr w.heap.size n ys ∧ (∀ l, l < j → nth ys l = nth xs l) ∧ Below w.heap.size w wr) (fun i _ => n - (intOf i).toNat)
  case atStart => exact ⟨0, _, Nat.zero_le _, rfl, HR1.out, fa_zero, HB1.out⟩
  case round =>
    obtain ⟨j, ys, hj, rfl, hys, hp, hb⟩ := hrel
    have HP := Lib.hid hp; clear hp
    have HB := Lib.hid hb; clear hb
    have HY := Lib.hid hys; clear hys
    by_cases hlt : j < n
    · obtain ⟨b, off, rfl, ⟨hb1, hb2⟩, hc⟩ := RStep.at_ (HR.out.below HB.out) hlt
      obtain ⟨A', n', c', ⟨d1, d2, d3⟩, hra, _⟩ := hc j hlt
      clear hc
      have HRA := Lib.hid hra; clear hra
      have hlb := HY.out.2.1 (by omega)
      have hn' : n' ≤ 1048576 := by
        have h1 := (HO.out.2 j (by rw [HR.out.1]; exact hlt)).2.1
        have h2 := HRA.out.1
        omega
      go_wp2_with fail
      refine (toStep_any _ _ _ (nth xs j) _ _ HRA.out hn').mono ?_
      rintro e w2 ⟨A2, c2, rfl, hr2, hbw⟩
      have HBW := Lib.hid hbw; clear hbw
      have HR2 := Lib.hid (hr2.lower (show w.heap.size + 1 ≤ wr.heap.size by omega)); clear hr2
      have HY2 := Lib.hid (HY.out.below HBW.out)
      have HB2 := Lib.hid (HB.out.trans (HBW.out.mono HB.out.size))
      obtain ⟨⟨f1, g1⟩, ⟨_, _, _, ⟨f2, g2⟩, _⟩, f3, g3⟩ := HY2.out.2.2 j hlt
      go_wp2_with fail
      go_roundw
      case rel =>
        refine ⟨j + 1, ys.set j (nth xs j), by omega, by go_num, HY2.out.set hlt HR2.out.low, ?_, ((HB2.out.setCell (Nat.le_refl _) _).setCell (Nat.le_refl _) _).setCell (Nat.le_refl _) _⟩
        intro l hl
        rw [nth_set (by rw [HY.out.1]; exact hlt)]
        by_cases e : l = j
        · rw [if_pos e, e]
        · rw [if_neg e]; exact HP.out l (by omega)
      case measure => simp [intOf]; omega
    · go_wp2_with fail
      go_ret
      refine ⟨_, _, rfl, ?_, HB.out⟩
      have e : ys = xs := list_ext (by rw [HY.out.1, HR.out.1]) (fun l hl => HP.out l (by rw [HY.out.1] at hl; omega))
      rw [← e]; exact HY.out.hat

set_option maxRecDepth 100000 in
theorem toFlow_any (A : Option Addr) (n c : Nat) (f : Flow) (lo : Nat) (w : World) (hr : RStep w lo A n f.steps) (hok : okSteps f.steps) :
    Calls Try.prog 17 #[.agg #[.int .i64 f.ver, .slice A n c]] w fun e w' => ∃ A' c', e = .returned (.agg #[.int .i64 f.ver, .slice A' n c']) ∧ RStep w' w.heap.size A' n f.steps ∧ Below w.heap.size w w' := by
  have HR := Lib.hid hr; clear hr
  have HO := Lib.hid hok; clear hok
  go_enter Try.func17, Try.ntmps17
  go_wp2_with fail
  refine (toStepS_any _ _ _ f.steps _ _ (((HR.out.alloc _).alloc _).alloc _) HO.out).mono ?_
  rintro e w1 ⟨A2, c2, rfl, hr2, hb⟩
  have hsz : (((w.alloc (.cells #[.int .i64 f.ver, .slice A n c] 24)).alloc (.cells #[.int .i64 0, .slice none 0 0] 34)).alloc (.cells #[.int .i64 f.ver, .slice none 0 0] 34)).heap.size = w.heap.size + 1 + 1 + 1 := by simp
  rw [hsz] at hr2 hb
  have H1 := Lib.hid ((hb.block (w.heap.size + 1) (by omega)).trans (heap_old (o := .cells #[.int .i64 f.ver, .slice none 0 0] 34) (heap_new (b := w.heap.size + 1) (o := .cells #[.int .i64 0, .slice none 0 0] 34) (by simp))))
  have H2 := Lib.hid ((hb.block (w.heap.size + 1 + 1) (by omega)).trans (heap_new (b := w.heap.size + 1 + 1) (o := .cells #[.int .i64 f.ver, .slice none 0 0] 34) (by simp)))
  have HB := Lib.hid (((((Below.refl w.heap.size w).alloc (Nat.le_refl _) (.cells #[.int .i64 f.ver, .slice A n c] 24)).alloc (by simp) (.cells #[.int .i64 0, .slice none 0 0] 34)).alloc (by simp; omega) (.cells #[.int .i64 f.ver, .slice none 0 0] 34)).trans (hb.mono (by omega)))
  have HR2 := Lib.hid hr2
  clear hr2 hb hsz
  have H3 := Lib.hid (set21 (u := .slice A2 n c2) H2.out)
  have H5 := Lib.hid (set_ne (b := w.heap.size + 1 + 1) (o := 1) (u := .slice A2 n c2) H1.out (by omega))
  have c1 := (blk_cl (k := 1) H2.out rfl).1
  have d1 := (blk_cl (k := 1) H2.out rfl).2
  have e0 := (blk_cl (k := 0) H3.out rfl).1
  have e1 := (blk_cl (k := 1) H3.out rfl).1
  have g0 := (blk_cl (k := 0) H5.out rfl).1
  have g0' := (blk_cl (k := 0) H5.out rfl).2
  have g1 := (blk_cl (k := 1) H5.out rfl).1
  have g1' := (blk_cl (k := 1) H5.out rfl).2
  go_wp2_with fail
  have hres := set21 (u := .slice A2 n c2) (set20 (u := .int .i64 f.ver) H5.out)
  have p0 := (blk_cl (k := 0) hres rfl).1
  have p1 := (blk_cl (k := 1) hres rfl).1
  have l1 : w.heap.size + 1 < w.heap.size + 1 + 1 + 1 := by omega
  have l2 : w.heap.size + 1 + 1 < w.heap.size + 1 + 1 + 1 := by omega
  have q1 : w.heap.size ≤ w.heap.size + 1 := by omega
  have q2 : w.heap.size ≤ w.heap.size + 1 + 1 := by omega
  exact bodyPost_ret (v := .agg #[.int .i64 f.ver, .slice A2 n c2]) (by simp [results, Try.results17, go_sem, p0, p1]) rfl
    ⟨_, _, rfl, (((HR2.out.setLow l2).setLow l1).setLow l1).lower (by omega),
      ((HB.out.setCell (p := ⟨w.heap.size + 1 + 1, 1, none⟩) q2 _).setCell (p := ⟨w.heap.size + 1, 0, none⟩) q1 _).setCell (p := ⟨w.heap.size + 1, 1, none⟩) q1 _⟩

set_option maxRecDepth 100000 in
theorem eqStepS_same (A B : Option Addr) (n c d : Nat) (xs : List Step) (lo lo' : Nat) (w : World) (hr : RStep w lo A n xs) (hok : okSteps xs) (hr' : RStep w lo' B n xs) :
    Calls Try.prog 67 #[.slice A n c, .slice B n d] w fun e w' => e = .returned (.bool true) ∧ Below w.heap.size w w' := by
  have hn : n ≤ 1048576 := by have := hok.1; rw [hr.1] at this; exact this
  have HO := Lib.hid hok; clear hok
  have HX := Lib.hid hr; clear hr
  have HY := Lib.hid hr'; clear hr'
  go_enter Try.func67, Try.ntmps67
  go_wp2_with fail
  go_loopw [5] (fun i wr => ∃ k : Nat, k ≤ n ∧ i = .int .i64 k ∧ Below w.heap.size w wr) (fun i _ => n - (intOf i).toNat)
  case atStart => exact ⟨0, Nat.zero_le _, rfl, Below.refl _ _⟩
  case round =>
    obtain ⟨k, hk, rfl, hb⟩ := hrel
    have HB := Lib.hid hb; clear hb
    by_cases hlt : k < n
    · obtain ⟨b, off, rfl, ⟨_, hb2⟩, hc⟩ := RStep.at_ (HX.out.below HB.out) hlt
      obtain ⟨A1, n1, k1, ⟨c1, c2, c3⟩, hra, _⟩ := hc k hlt
      clear hc
      obtain ⟨b', off', rfl, ⟨_, hb4⟩, hc⟩ := RStep.at_ (HY.out.below HB.out) hlt
      obtain ⟨A2, n2, k2, ⟨d1, d2, d3⟩, hrb, _⟩ := hc k hlt
      clear hc
      have e12 : n2 = n1 := by rw [← hra.1, ← hrb.1]
      subst e12
      have hn1 : n2 ≤ 1048576 := by
        have h1 := (HO.out.2 k (by rw [HX.out.1]; exact hlt)).2.1
        have h2 := hra.1
        omega
      have HEQ := Lib.hid (fun w' (hb : Below wr.heap.size wr w') => eqStep_same _ _ _ k1 k2 (nth xs k) _ _ w' (hra.below hb) hn1 (hrb.below hb))
      clear hra hrb
      go_wp2_with fail
      go_region_held3 (fun w' => (w'.cell? ⟨b, off + k * 3, none⟩ = some (.string (nth xs k).name) ∧ w'.cell? ⟨b, off + k * 3 + 1, none⟩ = some (.slice A1 n2 k1) ∧ w'.cell? ⟨b, off + k * 3 + 2, none⟩ = some (.bool (nth xs k).undo)) ∧
          w'.cell? ⟨b', off' + k * 3, none⟩ = some (.string (nth xs k).name) ∧ w'.cell? ⟨b', off' + k * 3 + 1, none⟩ = some (.slice A2 n2 k2) ∧ w'.cell? ⟨b', off' + k * 3 + 2, none⟩ = some (.bool (nth xs k).undo))
        (first | exact ⟨⟨(hbw.cell (p := ⟨b, _, none⟩) hb2).trans c1, (hbw.cell (p := ⟨b, _, none⟩) hb2).trans c2, (hbw.cell (p := ⟨b, _, none⟩) hb2).trans c3⟩, (hbw.cell (p := ⟨b', _, none⟩) hb4).trans d1, (hbw.cell (p := ⟨b', _, none⟩) hb4).trans d2, (hbw.cell (p := ⟨b', _, none⟩) hb4).trans d3⟩ | exact ⟨⟨c1, c2, c3⟩, d1, d2, d3⟩ | go_keep | fail "keep")
        (first | (go_at_call 131; refine (HEQ.out _ (Below.refl _ _).drew).mono ?_; rintro e w1 ⟨rfl, hbw⟩) | fail "no arm")
      go_wp2_with fail
      go_roundw
      case rel => exact ⟨k + 1, by omega, by go_num, HB.out.drew.trans (hbw.mono HB.out.size)⟩
      case measure => simp [intOf]; omega
    · go_wp2_with fail
      go_ret
      exact ⟨rfl, HB.out⟩

set_option maxRecDepth 100000 in
theorem eqFlow_same (A B : Option Addr) (n c d : Nat) (f : Flow) (lo lo' : Nat) (w : World) (hr : RStep w lo A n f.steps) (hok : okSteps f.steps) (hr' : RStep w lo' B n f.steps) :
    Calls Try.prog 22 #[.agg #[.int .i64 f.ver, .slice A n c], .agg #[.int .i64 f.ver, .slice B n d]] w fun e w' => e = .returned (.bool true) ∧ Below w.heap.size w w' := by
  have HO := Lib.hid hok; clear hok
  have HX := Lib.hid hr; clear hr
  have HY := Lib.hid hr'; clear hr'
  go_enter Try.func22, Try.ntmps22
  go_wp2_with fail
  refine (eqStepS_same _ _ _ _ _ f.steps _ _ _ ((HX.out.alloc _).alloc _) HO.out ((HY.out.alloc _).alloc _)).mono ?_
  rintro e w1 ⟨rfl, hb⟩
  go_wp2_with fail
  go_ret
  exact ⟨rfl, (((Below.refl _ _).alloc (Nat.le_refl _) _).alloc (by simp) _).trans (hb.mono (by simp; omega))⟩
end Go.Proofs.Ytakeijgoonagcaa

/- Pools: sizes of cases. -/
namespace Go.Proofs.Ytakeijgoonagcaa
open Go.RowKit

def caseSz (s : Case) : Prop := s.name.size ≤ maxLen ∧ s.done.length ≤ maxLen ∧ ∀ j, j < s.done.length → (nth s.done j).size ≤ maxLen
def okCase (s : Case) : Prop := s.name.size ≤ maxLen ∧ s.done.length ≤ 1048576

set_option maxRecDepth 100000 in
theorem szRun_any (A : Option Addr) (n c : Nat) (st : Int) (xs : List Str) (lo : Nat) (left : Int) (w : World) (hr : RStr w lo A n xs) (hn : n ≤ maxLen) (hs : ∀ j, j < n → (nth xs j).size ≤ maxLen) (h0 : 0 ≤ left) (h1 : left ≤ 1048576) :
    Calls Try.prog 119 #[.agg #[.int .i64 st, .slice A n c], .int .i64 left] w (SzQ left (n ≤ 1048576) w) := by
  have HR := Lib.hid hr; clear hr
  have HS := Lib.hid hs; clear hs
  have HN := Lib.hid hn; clear hn
  go_enter Try.func119, Try.ntmps119
  go_wp2_with fail
  refine (szStringS_any _ _ _ xs _ _ _ (HR.out.alloc _) HN.out HS.out (by omega) (by omega)).mono ?_
  rintro e w1 ⟨r, rfl, hr0, hr1, hb⟩
  have HB := Lib.hid (((Below.refl w.heap.size w).alloc (Nat.le_refl _) (.cells #[.int .i64 st, .slice A n c] 91)).trans (hb.mono (by simp)))
  clear hb
  have HR1 := Lib.hid hr1; clear hr1
  by_cases hneg : r < 0
  · go_wp2_with fail
    go_ret
    exact ⟨_, rfl, by omega, fun h => absurd h (by omega), HB.out⟩
  · go_wp2_with fail
    go_ret
    exact ⟨_, rfl, by omega, fun hp => ⟨by have := (HR1.out hp).1; omega, (HR1.out hp).2.1⟩, HB.out⟩

set_option maxRecDepth 100000 in
theorem szCase_any (A : Option Addr) (n c : Nat) (s : Case) (lo : Nat) (left : Int) (w : World) (hr : RStr w lo A n s.done) (hz : caseSz s) (h0 : 0 ≤ left) (h1 : left ≤ 1048576) :
    Calls Try.prog 58 #[.agg #[.string s.name, .int .i64 s.st, .slice A n c], .int .i64 left] w (SzQ left (okCase s) w) := by
  have HR := Lib.hid hr; clear hr
  have HZ := Lib.hid hz
  have hz1 := hz.1
  clear hz
  unfold maxLen at hz1
  have HN := Lib.hid (show n ≤ maxLen by rw [← HR.out.1]; exact HZ.out.2.1)
  have HS := Lib.hid (show ∀ j, j < n → (nth s.done j).size ≤ maxLen from fun j hj => HZ.out.2.2 j (by rw [HR.out.1]; exact hj))
  by_cases h : (s.name.size : Int) ≤ left
  · go_enter Try.func58, Try.ntmps58
    go_wp2_with fail
    refine (szRun_any _ _ _ s.st s.done _ _ _ (HR.out.alloc _) HN.out HS.out (by omega) (by omega)).mono ?_
    rintro e w1 ⟨r, rfl, hr0, hr1, hb⟩
    have HB := Lib.hid (((Below.refl w.heap.size w).alloc (Nat.le_refl _) (.cells #[.string s.name, .int .i64 s.st, .slice A n c] 93)).trans (hb.mono (by simp)))
    clear hb
    have HR1 := Lib.hid hr1; clear hr1
    by_cases hneg : r < 0
    · go_wp2_with fail
      go_ret
      exact ⟨_, rfl, by omega, fun h => absurd h (by omega), HB.out⟩
    · go_wp2_with fail
      go_ret
      exact ⟨_, rfl, by omega, fun hp => ⟨by have := (HR1.out hp).1; omega, HZ.out.1, by rw [HR.out.1]; exact (HR1.out hp).2⟩, HB.out⟩
  · go_enter Try.func58, Try.ntmps58
    go_wp2_with fail
    go_ret
    exact ⟨_, rfl, by omega, fun hp => absurd hp (by omega), (Below.refl _ _).alloc (Nat.le_refl _) _⟩

set_option maxRecDepth 100000 in
theorem szCaseS_any (A : Option Addr) (n c : Nat) (cs : List Case) (lo : Nat) (left : Int) (w : World) (hr : RCase w lo A n cs) (hn : n ≤ maxLen) (hs : ∀ j, j < n → caseSz (nth cs j)) (h0 : 0 ≤ left) (h1 : left ≤ 1048576) :
    Calls Try.prog 15 #[.slice A n c, .int .i64 left] w (SzQ left (okCases cs) w) := by
  have HR := Lib.hid hr; clear hr
  have HS := Lib.hid hs; clear hs
  unfold maxLen at hn
  by_cases hbig : left < (n : Int)
  · go_enter Try.func15, Try.ntmps15
    go_wp2_with fail
    go_ret
    exact ⟨_, rfl, by omega, fun h => absurd h (by omega), Below.refl _ _⟩
  go_enter Try.func15, Try.ntmps15
  go_wp2_with fail
  go_loopw [1, 5] (fun q i wr => ∃ j : Nat, ∃ r : Int, j ≤ n ∧ i = .int .i64 (j : Int) ∧ q = .int .i64 r ∧ 0 ≤ r ∧ r ≤ left ∧ (∀ l, l < j → okCase (nth cs l)) ∧ Below w.heap.size w wr) (fun _ i _ => n - (intOf i).toNat)
  case atStart => exact ⟨0, _, Nat.zero_le _, rfl, rfl, by omega, by omega, fa_zero, Below.refl _ _⟩
  case round =>
    obtain ⟨j, r, hj, rfl, rfl, hr0, hr1, hp, hb⟩ := hrel
    have HP := Lib.hid hp; clear hp
    have HB := Lib.hid hb; clear hb
    by_cases hlt : j < n
    · obtain ⟨b, off, rfl, ⟨hb1, hb2⟩, hc⟩ := RCase.at_ (HR.out.below HB.out) hlt
      obtain ⟨A', n', c', ⟨c1, c2, c3⟩, hra, _⟩ := hc j hlt
      clear hc
      have HRA := Lib.hid hra; clear hra
      have HSZ := Lib.hid (HS.out j hlt)
      go_wp2_with fail
      refine (szCase_any _ _ _ (nth cs j) _ r _ HRA.out HSZ.out hr0 (by omega)).mono ?_
      rintro e w1 ⟨r1, rfl, hr2, hr3, hbw⟩
      have HBW := Lib.hid hbw; clear hbw
      have HR3 := Lib.hid hr3; clear hr3
      by_cases hneg : r1 < 0
      · go_wp2_with fail
        go_ret
        exact ⟨_, rfl, by omega, fun h => absurd h (by omega), HB.out.trans (HBW.out.mono HB.out.size)⟩
      · have hle := (HR3.out (by omega)).1
        go_wp2_with fail
        go_roundw
        case rel => exact ⟨j + 1, _, by omega, by go_num, rfl, by omega, by omega, fa_succ HP.out (HR3.out (by omega)).2, HB.out.trans (HBW.out.mono HB.out.size)⟩
        case measure => simp [intOf]; omega
    · go_wp2_with fail
      go_ret
      exact ⟨_, rfl, by omega, fun _ => ⟨hr1, by rw [HR.out.1]; omega, fun l hl => HP.out l (by rw [HR.out.1] at hl; omega)⟩, HB.out⟩
end Go.Proofs.Ytakeijgoonagcaa

/- Pools: turning and comparing runs, cases. -/
namespace Go.Proofs.Ytakeijgoonagcaa
open Go.RowKit

set_option maxRecDepth 100000 in
theorem toRun_any (A : Option Addr) (n c : Nat) (st : Int) (xs : List Str) (lo : Nat) (w : World) (hr : RStr w lo A n xs) (hn : n ≤ 1048576) :
    Calls Try.prog 128 #[.agg #[.int .i64 st, .slice A n c]] w fun e w' => ∃ A' c', e = .returned (.agg #[.int .i64 st, .slice A' n c']) ∧ RStr w' w.heap.size A' n xs ∧ Below w.heap.size w w' ∧ n ≤ c' := by
  have HR := Lib.hid hr; clear hr
  go_enter Try.func128, Try.ntmps128
  go_wp2_with fail
  refine (toStringSc_any _ _ _ xs _ _ (((HR.out.alloc _).alloc _).alloc _) hn).mono ?_
  rintro e w1 ⟨A2, c2, rfl, hr2, hb, hle⟩
  have hsz : (((w.alloc (.cells #[.int .i64 st, .slice A n c] 91)).alloc (.cells #[.int .i64 0, .slice none 0 0] 48)).alloc (.cells #[.int .i64 st, .slice none 0 0] 48)).heap.size = w.heap.size + 1 + 1 + 1 := by simp
  rw [hsz] at hr2 hb
  have H1 := Lib.hid ((hb.block (w.heap.size + 1) (by omega)).trans (heap_old (o := .cells #[.int .i64 st, .slice none 0 0] 48) (heap_new (b := w.heap.size + 1) (o := .cells #[.int .i64 0, .slice none 0 0] 48) (by simp))))
  have H2 := Lib.hid ((hb.block (w.heap.size + 1 + 1) (by omega)).trans (heap_new (b := w.heap.size + 1 + 1) (o := .cells #[.int .i64 st, .slice none 0 0] 48) (by simp)))
  have HB := Lib.hid (((((Below.refl w.heap.size w).alloc (Nat.le_refl _) (.cells #[.int .i64 st, .slice A n c] 91)).alloc (by simp) (.cells #[.int .i64 0, .slice none 0 0] 48)).alloc (by simp; omega) (.cells #[.int .i64 st, .slice none 0 0] 48)).trans (hb.mono (by omega)))
  have HR2 := Lib.hid hr2
  clear hr2 hb hsz
  have H3 := Lib.hid (set21 (u := .slice A2 n c2) H2.out)
  have H5 := Lib.hid (set_ne (b := w.heap.size + 1 + 1) (o := 1) (u := .slice A2 n c2) H1.out (by omega))
  have c1 := (blk_cl (k := 1) H2.out rfl).1
  have d1 := (blk_cl (k := 1) H2.out rfl).2
  have e0 := (blk_cl (k := 0) H3.out rfl).1
  have e1 := (blk_cl (k := 1) H3.out rfl).1
  have g0 := (blk_cl (k := 0) H5.out rfl).1
  have g0' := (blk_cl (k := 0) H5.out rfl).2
  have g1 := (blk_cl (k := 1) H5.out rfl).1
  have g1' := (blk_cl (k := 1) H5.out rfl).2
  go_wp2_with fail
  have hres := set21 (u := .slice A2 n c2) (set20 (u := .int .i64 st) H5.out)
  have p0 := (blk_cl (k := 0) hres rfl).1
  have p1 := (blk_cl (k := 1) hres rfl).1
  have l1 : w.heap.size + 1 < w.heap.size + 1 + 1 + 1 := by omega
  have l2 : w.heap.size + 1 + 1 < w.heap.size + 1 + 1 + 1 := by omega
  have q1 : w.heap.size ≤ w.heap.size + 1 := by omega
  have q2 : w.heap.size ≤ w.heap.size + 1 + 1 := by omega
  exact bodyPost_ret (v := .agg #[.int .i64 st, .slice A2 n c2]) (by simp [results, Try.results128, go_sem, p0, p1]) rfl
    ⟨_, _, rfl, (((HR2.out.setLow l2).setLow l1).setLow l1).lower (by omega),
      ((HB.out.setCell (p := ⟨w.heap.size + 1 + 1, 1, none⟩) q2 _).setCell (p := ⟨w.heap.size + 1, 0, none⟩) q1 _).setCell (p := ⟨w.heap.size + 1, 1, none⟩) q1 _, hle⟩

set_option maxRecDepth 100000 in
theorem eqRun_same (A B : Option Addr) (n c d : Nat) (st : Int) (xs : List Str) (lo lo' : Nat) (w : World) (hr : RStr w lo A n xs) (hn : n ≤ 1048576) (hr' : RStr w lo' B n xs) :
    Calls Try.prog 130 #[.agg #[.int .i64 st, .slice A n c], .agg #[.int .i64 st, .slice B n d]] w fun e w' => e = .returned (.bool true) ∧ Below w.heap.size w w' := by
  have HX := Lib.hid hr; clear hr
  have HY := Lib.hid hr'; clear hr'
  go_enter Try.func130, Try.ntmps130
  go_wp2_with fail
  refine (eqStringS_same _ _ _ _ _ _ xs _ _ _ ((HX.out.alloc _).alloc _) hn ((HY.out.alloc _).alloc _)).mono ?_
  rintro e w1 ⟨rfl, q, rfl⟩
  go_wp2_with fail
  go_ret
  exact ⟨rfl, below_drewN (((Below.refl _ _).alloc (Nat.le_refl _) _).alloc (by simp) _) _⟩

set_option maxRecDepth 100000 in
theorem eqCase_same (A B : Option Addr) (n c d : Nat) (s : Case) (lo lo' : Nat) (w : World) (hr : RStr w lo A n s.done) (hn : n ≤ 1048576) (hr' : RStr w lo' B n s.done) :
    Calls Try.prog 66 #[.agg #[.string s.name, .int .i64 s.st, .slice A n c], .agg #[.string s.name, .int .i64 s.st, .slice B n d]] w fun e w' => e = .returned (.bool true) ∧ Below w.heap.size w w' := by
  have HX := Lib.hid hr; clear hr
  have HY := Lib.hid hr'; clear hr'
  have hq := seq_t (rfl : s.name = s.name)
  go_enter Try.func66, Try.ntmps66
  go_wp2_with fail
  refine (eqRun_same _ _ _ _ _ s.st s.done _ _ _ ((HX.out.alloc _).alloc _) hn ((HY.out.alloc _).alloc _)).mono ?_
  rintro e w1 ⟨rfl, hb⟩
  go_wp2_with fail
  go_ret
  exact ⟨rfl, (((Below.refl _ _).alloc (Nat.le_refl _) _).alloc (by simp) _).trans (hb.mono (by simp; omega))⟩
end Go.Proofs.Ytakeijgoonagcaa

/- Pools: turning a case. -/
namespace Go.Proofs.Ytakeijgoonagcaa
open Go.RowKit

set_option maxRecDepth 100000 in
theorem toCase_any (A : Option Addr) (n c : Nat) (s : Case) (lo : Nat) (w : World) (hr : RStr w lo A n s.done) (hn : n ≤ 1048576) :
    Calls Try.prog 63 #[.agg #[.string s.name, .int .i64 s.st, .slice A n c]] w fun e w' => ∃ A' c', e = .returned (.agg #[.string s.name, .int .i64 s.st, .slice A' n c']) ∧ RStr w' w.heap.size A' n s.done ∧ Below w.heap.size w w' ∧ n ≤ c' := by
  have HR := Lib.hid hr; clear hr
  go_enter Try.func63, Try.ntmps63
  go_wp2_with fail
  refine (toRun_any _ _ _ s.st s.done _ _ (((HR.out.alloc _).alloc _).alloc _) hn).mono ?_
  rintro e w1 ⟨A2, c2, rfl, hr2, hb, hle⟩
  have hsz : (((w.alloc (.cells #[.string s.name, .int .i64 s.st, .slice A n c] 93)).alloc (.cells #[.string ⟨#[]⟩, .int .i64 0, .slice none 0 0] 52)).alloc (.cells #[.string s.name, .int .i64 0, .slice none 0 0] 52)).heap.size = w.heap.size + 1 + 1 + 1 := by simp
  rw [hsz] at hr2 hb
  have H1 := Lib.hid ((hb.block (w.heap.size + 1) (by omega)).trans (heap_old (o := .cells #[.string s.name, .int .i64 0, .slice none 0 0] 52) (heap_new (b := w.heap.size + 1) (o := .cells #[.string ⟨#[]⟩, .int .i64 0, .slice none 0 0] 52) (by simp))))
  have H2 := Lib.hid ((hb.block (w.heap.size + 1 + 1) (by omega)).trans (heap_new (b := w.heap.size + 1 + 1) (o := .cells #[.string s.name, .int .i64 0, .slice none 0 0] 52) (by simp)))
  have HB := Lib.hid (((((Below.refl w.heap.size w).alloc (Nat.le_refl _) (.cells #[.string s.name, .int .i64 s.st, .slice A n c] 93)).alloc (by simp) (.cells #[.string ⟨#[]⟩, .int .i64 0, .slice none 0 0] 52)).alloc (by simp; omega) (.cells #[.string s.name, .int .i64 0, .slice none 0 0] 52)).trans (hb.mono (by omega)))
  have HR2 := Lib.hid hr2
  clear hr2 hb hsz
  have H3 := Lib.hid (set31 (u := .int .i64 s.st) H2.out)
  have H4 := Lib.hid (show ((w1.setCell ⟨w.heap.size + 1 + 1, 1, none⟩ (.int .i64 s.st)).setCell ⟨w.heap.size + 1 + 1, 2, none⟩ (.slice A2 n c2)).heap[w.heap.size + 1 + 1]? = some (.cells #[.string s.name, .int .i64 s.st, .slice A2 n c2] 52 (0, 0)) from set_at H3.out)
  have H5 := Lib.hid (set_ne (b := w.heap.size + 1 + 1) (o := 2) (u := .slice A2 n c2) (set_ne (b := w.heap.size + 1 + 1) (o := 1) (u := .int .i64 s.st) H1.out (by omega)) (by omega))
  have c1 := (blk_cl (k := 1) H2.out rfl).1
  have d1 := (blk_cl (k := 1) H2.out rfl).2
  have c1' := (blk_cl (k := 2) H2.out rfl).1
  have d1' := (blk_cl (k := 2) H2.out rfl).2
  have c2' := (blk_cl (k := 2) H3.out rfl).1
  have d2' := (blk_cl (k := 2) H3.out rfl).2
  have e0 := (blk_cl (k := 0) H4.out rfl).1
  have e1 := (blk_cl (k := 1) H4.out rfl).1
  have e2 := (blk_cl (k := 2) H4.out rfl).1
  have g0 := (blk_cl (k := 0) H5.out rfl).1
  have g0' := (blk_cl (k := 0) H5.out rfl).2
  have g1 := (blk_cl (k := 1) H5.out rfl).1
  have g1' := (blk_cl (k := 1) H5.out rfl).2
  have g2 := (blk_cl (k := 2) H5.out rfl).1
  have g2' := (blk_cl (k := 2) H5.out rfl).2
  go_wp2_with fail
  have hres := set3 (u0 := .string s.name) (u1 := .int .i64 s.st) (u2 := .slice A2 n c2) H5.out
  have p0 := (blk_cl (k := 0) hres rfl).1
  have p1 := (blk_cl (k := 1) hres rfl).1
  have p2 := (blk_cl (k := 2) hres rfl).1
  have l1 : w.heap.size + 1 < w.heap.size + 1 + 1 + 1 := by omega
  have l2 : w.heap.size + 1 + 1 < w.heap.size + 1 + 1 + 1 := by omega
  have q1 : w.heap.size ≤ w.heap.size + 1 := by omega
  have q2 : w.heap.size ≤ w.heap.size + 1 + 1 := by omega
  exact bodyPost_ret (v := .agg #[.string s.name, .int .i64 s.st, .slice A2 n c2]) (by simp [results, Try.results63, go_sem, p0, p1, p2]) rfl
    ⟨_, _, rfl, (((((HR2.out.setLow l2).setLow l2).setLow l1).setLow l1).setLow l1).lower (by omega),
      ((((HB.out.setCell (p := ⟨w.heap.size + 1 + 1, 1, none⟩) q2 _).setCell (p := ⟨w.heap.size + 1 + 1, 2, none⟩) q2 _).setCell (p := ⟨w.heap.size + 1, 0, none⟩) q1 _).setCell (p := ⟨w.heap.size + 1, 1, none⟩) q1 _).setCell (p := ⟨w.heap.size + 1, 2, none⟩) q1 _, hle⟩
end Go.Proofs.Ytakeijgoonagcaa

/- Pools: comparing lists of cases. -/
namespace Go.Proofs.Ytakeijgoonagcaa
open Go.RowKit

set_option maxRecDepth 100000 in
theorem eqCaseS_same (A B : Option Addr) (n c d : Nat) (xs : List Case) (lo lo' : Nat) (w : World) (hr : RCase w lo A n xs) (hok : okCases xs) (hr' : RCase w lo' B n xs) :
    Calls Try.prog 20 #[.slice A n c, .slice B n d] w fun e w' => e = .returned (.bool true) ∧ Below w.heap.size w w' := by
  have hn : n ≤ 1048576 := by have := hok.1; rw [hr.1] at this; exact this
  have HO := Lib.hid hok; clear hok
  have HX := Lib.hid hr; clear hr
  have HY := Lib.hid hr'; clear hr'
  go_enter Try.func20, Try.ntmps20
  go_wp2_with fail
  go_loopw [5] (fun i wr => ∃ k : Nat, k ≤ n ∧ i = .int .i64 k ∧ Below w.heap.size w wr) (fun i _ => n - (intOf i).toNat)
  case atStart => exact ⟨0, Nat.zero_le _, rfl, Below.refl _ _⟩
  case round =>
    obtain ⟨k, hk, rfl, hb⟩ := hrel
    have HB := Lib.hid hb; clear hb
    by_cases hlt : k < n
    · obtain ⟨b, off, rfl, ⟨_, hb2⟩, hc⟩ := RCase.at_ (HX.out.below HB.out) hlt
      obtain ⟨A1, n1, k1, ⟨c1, c2, c3⟩, hra, _⟩ := hc k hlt
      clear hc
      obtain ⟨b', off', rfl, ⟨_, hb4⟩, hc⟩ := RCase.at_ (HY.out.below HB.out) hlt
      obtain ⟨A2, n2, k2, ⟨d1, d2, d3⟩, hrb, _⟩ := hc k hlt
      clear hc
      have e12 : n2 = n1 := by rw [← hra.1, ← hrb.1]
      subst e12
      have hn1 : n2 ≤ 1048576 := by
        have h1 := (HO.out.2 k (by rw [HX.out.1]; exact hlt)).2
        have h2 := hra.1
        omega
      have HEQ := Lib.hid (fun w' (hb : Below wr.heap.size wr w') => eqCase_same _ _ _ k1 k2 (nth xs k) _ _ w' (hra.below hb) hn1 (hrb.below hb))
      clear hra hrb
      go_wp2_with fail
      go_region_held3 (fun w' => (w'.cell? ⟨b, off + k * 3, none⟩ = some (.string (nth xs k).name) ∧ w'.cell? ⟨b, off + k * 3 + 1, none⟩ = some (.int .i64 (nth xs k).st) ∧ w'.cell? ⟨b, off + k * 3 + 2, none⟩ = some (.slice A1 n2 k1)) ∧
          w'.cell? ⟨b', off' + k * 3, none⟩ = some (.string (nth xs k).name) ∧ w'.cell? ⟨b', off' + k * 3 + 1, none⟩ = some (.int .i64 (nth xs k).st) ∧ w'.cell? ⟨b', off' + k * 3 + 2, none⟩ = some (.slice A2 n2 k2))
        (first | exact ⟨⟨(hbw.cell (p := ⟨b, _, none⟩) hb2).trans c1, (hbw.cell (p := ⟨b, _, none⟩) hb2).trans c2, (hbw.cell (p := ⟨b, _, none⟩) hb2).trans c3⟩, (hbw.cell (p := ⟨b', _, none⟩) hb4).trans d1, (hbw.cell (p := ⟨b', _, none⟩) hb4).trans d2, (hbw.cell (p := ⟨b', _, none⟩) hb4).trans d3⟩ | exact ⟨⟨c1, c2, c3⟩, d1, d2, d3⟩ | go_keep | fail "keep")
        (first | (go_at_call 66; refine (HEQ.out _ (Below.refl _ _).drew).mono ?_; rintro e w1 ⟨rfl, hbw⟩) | fail "no arm")
      go_wp2_with fail
      go_roundw
      case rel => exact ⟨k + 1, by omega, by go_num, HB.out.drew.trans (hbw.mono HB.out.size)⟩
      case measure => simp [intOf]; omega
    · go_wp2_with fail
      go_ret
      exact ⟨rfl, HB.out⟩
end Go.Proofs.Ytakeijgoonagcaa

/- Pools: turning a list of cases. -/
namespace Go.Proofs.Ytakeijgoonagcaa
open Go.RowKit

/-- A list of cases that is being filled. -/
def CRow (w : World) (b n : Nat) (ss : List Case) : Prop :=
  ss.length = n ∧ (0 < n → b < w.heap.size) ∧ ∀ k, k < n → Cl w b (k * 3) (.string (nth ss k).name) ∧ Cl w b (k * 3 + 1) (.int .i64 (nth ss k).st) ∧ (∃ A m c, Cl w b (k * 3 + 2) (.slice A m c) ∧ RH strE w (b + 1) w.heap.size A m (nth ss k).done ∧ m ≤ c)
theorem CRow.hat {w : World} {b n : Nat} {ss : List Case} (h : CRow w b n ss) : RCase w b (some ⟨b, 0, none⟩) n ss :=
  ⟨h.1, fun hn => ⟨b, 0, rfl, Nat.le_refl _, h.2.1 hn, fun k hk => by
    obtain ⟨c1, c4, ⟨A, m, c, c2, c3, c5⟩⟩ := h.2.2 k hk
    have e : 0 + k * caseE.size = k * 3 := by show 0 + k * 3 = k * 3; omega
    rw [e]
    exact ⟨c1, c4, ⟨A, m, c, c2, c3.wide (Nat.le_succ _) (Nat.le_refl _), c5⟩⟩⟩⟩
theorem CRow.below {w w' : World} {b n : Nat} {ss : List Case} (h : CRow w b n ss) (hb : Below w.heap.size w w') : CRow w' b n ss :=
  ⟨h.1, fun hn => Nat.lt_of_lt_of_le (h.2.1 hn) hb.size, fun k hk => by
    obtain ⟨c1, c4, ⟨A, m, c, c2, c3, c5⟩⟩ := h.2.2 k hk
    have hl := h.2.1 (by omega)
    have hs : Same b w.heap.size w w' := Same.of_below hb
    exact ⟨c1.same hs (Nat.le_refl _) hl, c4.same hs (Nat.le_refl _) hl, ⟨A, m, c, c2.same hs (Nat.le_refl _) hl, (c3.below hb (Nat.le_refl _)).wide (Nat.le_refl _) hb.size, c5⟩⟩⟩
theorem CRow.set {w : World} {b n j m d : Nat} {B : Option Addr} {ss : List Case} {s : Case} (h : CRow w b n ss) (hj : j < n) (hs : RH strE w (b + 1) w.heap.size B m s.done) (hmd : m ≤ d) :
    CRow (((w.setCell ⟨b, j * 3, none⟩ (.string s.name)).setCell ⟨b, j * 3 + 1, none⟩ (.int .i64 s.st)).setCell ⟨b, j * 3 + 2, none⟩ (.slice B m d)) b n (ss.set j s) := by
  have hsz : (((w.setCell ⟨b, j * 3, none⟩ (.string s.name)).setCell ⟨b, j * 3 + 1, none⟩ (.int .i64 s.st)).setCell ⟨b, j * 3 + 2, none⟩ (.slice B m d)).heap.size = w.heap.size := by simp
  have hk2 : ∀ {A : Option Addr} {m' : Nat} {xs : List Str}, RH strE w (b + 1) w.heap.size A m' xs → RH strE (((w.setCell ⟨b, j * 3, none⟩ (.string s.name)).setCell ⟨b, j * 3 + 1, none⟩ (.int .i64 s.st)).setCell ⟨b, j * 3 + 2, none⟩ (.slice B m d)) (b + 1) w.heap.size A m' xs := fun h =>
    h.same ⟨fun i h1 _ => ((Below.heap_setCell _ _ _ i (by show i ≠ b; omega)).trans (Below.heap_setCell _ _ _ i (by show i ≠ b; omega))).trans (Below.heap_setCell _ _ _ i (by show i ≠ b; omega))⟩
  refine ⟨by rw [List.length_set]; exact h.1, fun hn => by rw [hsz]; exact h.2.1 hn, fun k hkn => ?_⟩
  obtain ⟨c1, c4, ⟨A, m', c, c2, c3, c5⟩⟩ := h.2.2 k hkn
  rw [nth_set (by rw [h.1]; exact hj), hsz]
  by_cases hkj : k = j
  · subst hkj
    rw [if_pos rfl]
    exact ⟨(c1.set_same.set_other (.inr (by omega))).set_other (.inr (by omega)), ((c4.set_other (.inr (by omega))).set_same).set_other (.inr (by omega)), ⟨B, m, d, ((c2.set_other (.inr (by omega))).set_other (.inr (by omega))).set_same, hk2 hs, hmd⟩⟩
  · rw [if_neg hkj]
    exact ⟨((c1.set_other (.inr (by omega))).set_other (.inr (by omega))).set_other (.inr (by omega)), ((c4.set_other (.inr (by omega))).set_other (.inr (by omega))).set_other (.inr (by omega)), ⟨A, m', c, ((c2.set_other (.inr (by omega))).set_other (.inr (by omega))).set_other (.inr (by omega)), hk2 c3, c5⟩⟩
theorem own_fresh_case {w : World} {base : Nat} {e : TypeId} {v : Value} {n : Nat} (h : w.ownsRow base e 3 v n (madeCells #[.string ⟨#[]⟩, .int .i64 0, .slice none 0 0] (n * 3)).toList) :
    ∃ A c, v = .slice A n c ∧ (0 < n → ∃ b, A = some ⟨b, 0, none⟩ ∧ base ≤ b) ∧ ∀ b, A = some ⟨b, 0, none⟩ → CRow w b n (List.replicate n ⟨⟨#[]⟩, 0, []⟩) := by
  obtain ⟨A, c, hv, hf⟩ := own_made (m := 3) (z := #[.string ⟨#[]⟩, .int .i64 0, .slice none 0 0]) rfl h
  refine ⟨A, c, hv, fun hn => ?_, fun b hb => ⟨by simp, fun hn => ?_, fun k hk => ?_⟩⟩
  · obtain ⟨b, e1, h1, _⟩ := hf hn
    exact ⟨b, e1, h1⟩
  · obtain ⟨b', e1, _, h2, _⟩ := hf hn
    rw [hb] at e1
    injection e1 with e1; injection e1 with e2
    subst e2; exact h2
  · obtain ⟨b', e1, h1, h2, hc⟩ := hf (by omega)
    rw [hb] at e1
    injection e1 with e1; injection e1 with e2
    subst e2
    rw [nth_rep hk]
    exact ⟨hc k hk 0 _ (by omega) rfl, hc k hk 1 _ (by omega) rfl, ⟨none, 0, 0, hc k hk 2 _ (by omega) rfl, RH.nil, Nat.le_refl _⟩⟩

set_option maxRecDepth 100000 in
theorem toCaseS_any (A : Option Addr) (n c : Nat) (xs : List Case) (lo : Nat) (w : World) (hr : RCase w lo A n xs) (hok : okCases xs) :
    Calls Try.prog 18 #[.slice A n c] w fun e w' => ∃ A' c', e = .returned (.slice A' n c') ∧ RCase w' w.heap.size A' n xs ∧ Below w.heap.size w w' := by
  have hn : n ≤ 1048576 := by have := hok.1; rw [hr.1] at this; exact this
  have HO := Lib.hid hok; clear hok
  have HR := Lib.hid hr; clear hr
  obtain ⟨i0, hi0, hz0, hz1, hz2⟩ := info_parts info_case
  go_enter Try.func18, Try.ntmps18
  go_wp2_with (at_make; refine wpList_make_full _ rfl _ _ 28 rfl w.heap.size 52 i0 _ 3 Try.underlying28 hi0 hz0 hz1 _ _ _ _ n rfl rfl rfl rfl ?c1 ?c2 (Nat.le_refl _) ?_)
  case c1 => rw [hz2]; omega
  case c2 => unfold maxLen; omega
  intro w1 hown hgr
  have hbw : Below w.heap.size w w1 := (Below.refl _ _).grown hgr (Nat.le_refl _) (by simp)
  obtain ⟨A1, c1, hv1, _, hr1⟩ := own_fresh_case hown
  injection hv1 with hA1 hn1 hc1
  subst hA1
  have HR1 := Lib.hid (hr1 w.heap.size rfl)
  clear hn1 hc1 hown hgr hr1
  have HB1 := Lib.hid hbw; clear hbw
  go_wp2_with fail
  go_loopw [4] (fun i wr => ∃ j : Nat, ∃ ys : List Case, j ≤ n ∧ i = .int .i64 (j : Int) ∧ CRow wr w.heap.size n ys ∧ (∀ l, l < j → nth ys l = nth xs l) ∧ Below w.heap.size w wr) (fun i _ => n - (intOf i).toNat)
  case atStart => exact ⟨0, _, Nat.zero_le _, rfl, HR1.out, fa_zero, HB1.out⟩
  case round =>
    obtain ⟨j, ys, hj, rfl, hys, hp, hb⟩ := hrel
    have HP := Lib.hid hp; clear hp
    have HB := Lib.hid hb; clear hb
    have HY := Lib.hid hys; clear hys
    by_cases hlt : j < n
    · obtain ⟨b, off, rfl, ⟨hb1, hb2⟩, hc⟩ := RCase.at_ (HR.out.below HB.out) hlt
      obtain ⟨A', n', c', ⟨d1, d2, d3⟩, hra, _⟩ := hc j hlt
      clear hc
      have HRA := Lib.hid hra; clear hra
      have hlb := HY.out.2.1 (by omega)
      have hn' : n' ≤ 1048576 := by
        have h1 := (HO.out.2 j (by rw [HR.out.1]; exact hlt)).2
        have h2 := HRA.out.1
        omega
      go_wp2_with fail
      refine (toCase_any _ _ _ (nth xs j) _ _ HRA.out hn').mono ?_
      rintro e w2 ⟨A2, c2, rfl, hr2, hbw, hle⟩
      have HBW := Lib.hid hbw; clear hbw
      have HR2 := Lib.hid (hr2.lower (show w.heap.size + 1 ≤ wr.heap.size by omega)); clear hr2
      have HY2 := Lib.hid (HY.out.below HBW.out)
      have HB2 := Lib.hid (HB.out.trans (HBW.out.mono HB.out.size))
      obtain ⟨⟨f1, g1⟩, ⟨f2, g2⟩, ⟨_, _, _, ⟨f3, g3⟩, _⟩⟩ := HY2.out.2.2 j hlt
      go_wp2_with fail
      go_roundw
      case rel =>
        refine ⟨j + 1, ys.set j (nth xs j), by omega, by go_num, HY2.out.set hlt HR2.out.low hle, ?_, ((HB2.out.setCell (Nat.le_refl _) _).setCell (Nat.le_refl _) _).setCell (Nat.le_refl _) _⟩
        intro l hl
        rw [nth_set (by rw [HY.out.1]; exact hlt)]
        by_cases e : l = j
        · rw [if_pos e, e]
        · rw [if_neg e]; exact HP.out l (by omega)
      case measure => simp [intOf]; omega
    · go_wp2_with fail
      go_ret
      refine ⟨_, _, rfl, ?_, HB.out⟩
      have e : ys = xs := list_ext (by rw [HY.out.1, HR.out.1]) (fun l hl => HP.out l (by rw [HY.out.1] at hl; omega))
      rw [← e]; exact HY.out.hat
end Go.Proofs.Ytakeijgoonagcaa

/- Arguments opened: runs, lists of cases. -/
namespace Go.Proofs.Ytakeijgoonagcaa
open Go.ChangeShapes Go.WideShapes Go.ChangeAt Go.RowKit Go.Deep

theorem Try.cellsLCase : Try.prog.cellsOf 93 = 3 := by kernel_rfl
theorem Try.cellsLRun : Try.prog.cellsOf 91 = 2 := by kernel_rfl
theorem Try.cellsStrS : Try.prog.cellsOf 29 = 1 := by kernel_rfl
theorem Try.cellsInt1 : Try.prog.cellsOf 3 = 1 := by kernel_rfl

/-- A field's list of names, with its capacity. -/
theorem open_strC {H : Type} {enc : TypeId × Value → H} {W : World} {v : Value} {d : DataW H} {p : List MemPlace} {fuel : Nat}
    (h : DataW.trod enc Try.prog W 0 (fun _ => true) true fuel 29 [v] = some (d, p)) (hz : W.noneFrozen p) :
    ∃ A n c xs, v = .slice A n c ∧ RStr W 0 A n xs ∧ n ≤ c ∧ n ≤ maxLen ∧ ∀ j, j < n → (nth xs j).size ≤ maxLen := by
  obtain ⟨A, n, c, xs, hv, hr, hn, hs⟩ := open_strS h hz
  refine ⟨A, n, c, xs, hv, hr, ?_, hn, hs⟩
  subst hv
  rcases open_strings Try.underlying29 Try.underlying9 Try.cellsStr h with ⟨hcs, _⟩ | ⟨a, len, cap, ss, hcs, _, hl, _⟩
  · simp at hcs
    obtain ⟨_, rfl, rfl⟩ := hcs
    exact Nat.le_refl _
  · simp at hcs
    obtain ⟨_, rfl, rfl⟩ := hcs
    exact hl

def caseW (W : World) (a : Addr) (i : Nat) (s : Case) : Prop := W.cell? (a.add (i * 3 + 0)) = some (.string s.name) ∧ W.cell? (a.add (i * 3 + 1)) = some (.int .i64 s.st) ∧ (∃ A n c, W.cell? (a.add (i * 3 + 2)) = some (.slice A n c) ∧ RStr W 0 A n s.done ∧ n ≤ c)

set_option maxRecDepth 100000 in
/-- A list of cases that came in. -/
theorem open_caseS {H : Type} {enc : TypeId × Value → H} {W : World} {v : Value} {d : DataW H} {p : List MemPlace} {fuel : Nat}
    (h : DataW.trod enc Try.prog W 0 (fun _ => true) true fuel 25 [v] = some (d, p)) (hz : W.noneFrozen p) :
    ∃ A n c ss, v = .slice A n c ∧ RCase W 0 A n ss ∧ n ≤ maxLen ∧ ∀ j, j < n → caseSz (nth ss j) := by
  rcases open_slice Try.underlying25 h with ⟨hcs, hx⟩ | ⟨a, len, cap, m, nn, D, Pl, hcs, _, hl, hm, hmm, hx, hi⟩
  · have hv : v = .slice none 0 0 := by simpa using hcs
    exact ⟨none, 0, 0, [], hv, RL.nil, by unfold maxLen; omega, fun j hj => absurd hj (by omega)⟩
  · have hv : v = .slice (some a) len cap := by simpa using hcs
    simp only [Prod.mk.injEq] at hx
    obtain ⟨_, rfl⟩ := hx
    have hlm : len ≤ m := by rw [hmm]; split <;> omega
    rw [Try.cellsLCase] at hi hz
    have each : ∀ i, ∃ s : Case, i < m → (caseW W a i s ∧ caseSz s) := fun i => by
      by_cases him : i < m
      · obtain ⟨cs', hc, ht⟩ := hi i him
        obtain ⟨_, hcl, hat⟩ := World.cells?_some hc
        obtain ⟨v0, v1, v2, rfl⟩ : ∃ v0 v1 v2, cs' = [v0, v1, v2] := by
          match cs', hcl with
          | [x, y, z], _ => exact ⟨x, y, z, rfl⟩
        obtain ⟨y0, y1, n1, hy, _, t0, t1⟩ := trod_struct2 Try.underlying93 ht
        simp only [Try.cellsStr, Try.cellsLRun, List.drop, List.take] at t0 t1
        obtain ⟨y2, y3, n2, hy2, _, t2, t3⟩ := trod_struct2 Try.underlying91 t1
        simp only [Try.cellsInt1, Try.cellsStrS, List.drop, List.take] at t2 t3
        simp only [Prod.mk.injEq] at hy
        obtain ⟨s, hs1, _, hs3⟩ := DataW.trod_string Try.underlying9 t0
        obtain ⟨st, hst, _⟩ := DataW.trod_int Try.underlying3 t2
        have hz1 : W.noneFrozen y3.2 := fun b off hb => hz b off (List.mem_append_right _ (List.mem_flatMap.2 ⟨i, List.mem_range.2 him, by rw [hy.2, hy2]; exact List.mem_append_right _ (List.mem_append_right _ hb)⟩))
        obtain ⟨A, n1, k1, xs, hv1, hrs, hcap, hn1, hsz⟩ := open_strC (d := y3.1) (p := y3.2) t3 hz1
        have g0 : v0 = .string s := by simpa using hs1
        have g1 : v1 = .int .i64 st := by simpa using hst
        subst g0; subst g1; subst hv1
        have c0 := hat 0 (by omega)
        have c1 := hat 1 (by omega)
        have c2 := hat 2 (by omega)
        rw [Go.Deep.add_add] at c0 c1 c2
        exact ⟨⟨s, st, xs⟩, fun _ => ⟨⟨c0, c1, ⟨A, n1, k1, c2, hrs, hcap⟩⟩, hs3, by show xs.length ≤ _; rw [hrs.1]; exact hn1, fun j hj => hsz j (by rw [← hrs.1]; exact hj)⟩⟩
      · exact ⟨default, fun h => absurd h him⟩
    obtain ⟨G, hG⟩ : ∃ G : Nat → Case, ∀ i, i < m → (caseW W a i (G i) ∧ caseSz (G i)) := ⟨fun i => Classical.choose (each i), fun i => Classical.choose_spec (each i)⟩
    have hnth : ∀ k, k < len → nth ((List.range len).map G) k = G k := fun k hk => by rw [nth_eq (by simpa using hk)]; simp
    refine ⟨some a, len, cap, (List.range len).map G, hv, ⟨by simp, fun h0 => ?_⟩, Nat.le_trans hl hm, fun j hj => by rw [hnth j hj]; exact (hG j (by omega)).2⟩
    obtain ⟨b, off, spot⟩ := a
    have hspot : spot = none := by simpa [Addr.add] using World.cell?_spot (hG 0 (by omega)).1.1
    subst hspot
    refine ⟨b, off, rfl, Nat.zero_le _, World.block_lt_of_cell? W _ (hG 0 (by omega)).1.1, fun k hk => ?_⟩
    rw [hnth k hk]
    obtain ⟨⟨c0, c1, ⟨A, n1, k1, c2, hrs, hcap⟩⟩, _⟩ := hG k (by omega)
    rw [add_plain] at c0 c1 c2
    have hfr : ∀ j, j < 3 → W.frozen? ⟨b, off + (k * 3 + j), none⟩ = false := fun j hj => hz b (off + (k * 3 + j)) (List.mem_append_left _ (MemPlace.mem_row.2 ⟨k * 3 + j, (by
      show k * 3 + j < m * 3
      omega), rfl⟩))
    exact ⟨⟨c0, hfr 0 (by omega)⟩, ⟨c1, hfr 1 (by omega)⟩, ⟨A, n1, k1, ⟨c2, hfr 2 (by omega)⟩, hrs, hcap⟩⟩

set_option maxRecDepth 100000 in
/-- A run that came in. -/
theorem open_run {H : Type} {enc : TypeId × Value → H} {W : World} {base : Nat} {v : Value} {d : DataW H} {p : List MemPlace} {fuel : Nat} (hw : Value.okWide Try.prog W .any base 91 v)
    (h : DataW.trod enc Try.prog W 0 (fun _ => true) true fuel 91 (Value.cells v).toList = some (d, p)) (hz : W.noneFrozen p) :
    ∃ st A n c xs, v = .agg #[.int .i64 st, .slice A n c] ∧ RStr W 0 A n xs ∧ n ≤ c ∧ n ≤ maxLen ∧ ∀ j, j < n → (nth xs j).size ≤ maxLen := by
  obtain ⟨cs, rfl, hcs⟩ := okWide_struct Try.underlying91 hw
  have h2 : cs.size = 2 := hcs.trans (by kernel_rfl)
  obtain ⟨x, y, rfl⟩ : ∃ x y, cs = #[x, y] := by
    obtain ⟨l⟩ := cs
    match l, h2 with
    | [x, y], _ => exact ⟨x, y, rfl⟩
  obtain ⟨ys, n, hx, hf⟩ := open_struct_fields Try.underlying91 (by kernel_rfl) h
  simp only [Prod.mk.injEq] at hx
  obtain ⟨_, rfl⟩ := hx
  obtain ⟨y0, e0, t0⟩ := hf 0 _ x rfl rfl
  obtain ⟨y1, e1, t1⟩ := hf 1 _ y rfl rfl
  obtain ⟨st, hv1, _⟩ := DataW.trod_int Try.underlying3 t0
  have g0 : x = .int .i64 st := by simpa using hv1
  subst g0
  obtain ⟨A, m, c, xs, hv, hr, hc, hn, hsz⟩ := open_strC (d := y1.1) (p := y1.2) t1 (fun b off hb => hz b off (List.mem_flatMap.2 ⟨y1, List.mem_of_getElem? e1, hb⟩))
  subst hv
  exact ⟨st, A, m, c, xs, rfl, hr, hc, hn, hsz⟩
end Go.Proofs.Ytakeijgoonagcaa
