/- Contracts of functions and plain lemmas, joined. No condition but those that each states. -/
import Derived.Deep.RegionHeld3
import Derived.Lib.ItoaNum
import Derived.Test.YthdfefgianokgaaDoorShelf
import Derived.Shelf.Strings.Builder1
import Derived.Shelf.Strings.Builder2
import Derived.Test.YthdfefgianokgaaDoorZA
import Derived.Test.YthdfefgianokgaaDoorZB

/- What the exact laws need beside the functions: sizes, copies, equality, marks. -/
namespace Go.Proofs.YthdfefgianokgaaDoor
open Go.RowKit

def decL : Nat → Nat → List UInt8 → List UInt8
  | 0, _, acc => acc
  | f + 1, k, acc => if k = 0 then acc else decL f (k / 10) ((48 + UInt8.ofNat (k % 10)) :: acc)
def markS (k : Nat) : Str := ⟨(109 :: decL k k []).toArray⟩

theorem conv1 (W : World) (b : Nat) (n : Int) (h : W.heap[b]? = some (.cells #[.int .u8 n] 5 (0, 0))) :
    (convert 22 9 (.slice (some ⟨b, 0, none⟩) 1 1)).run Tryd.prog W = .ok (.string ⟨#[UInt8.ofNat n.toNat]⟩) W := by
  rw [run_convert_bytes_string W _ _ _ _ _ _ Tryd.underlying22 Tryd.underlying5 Tryd.underlying9]
  rw [run_bytesToString W ⟨b, 0, none⟩ 1 1 [n]]
  · rfl
  · have hc := (blk_cl (k := 0) h rfl).1
    exact run_loadCells_list (P := Tryd.prog) (w := W) ⟨b, 0, none⟩ [.int .u8 n] (fun j v hv => by
      match j, hv with
      | 0, hv =>
        have : v = .int .u8 n := by simpa using hv.symm
        subst this
        exact hc)

theorem bcat (a b : List UInt8) : (⟨a.toArray⟩ : ByteArray) ++ ⟨b.toArray⟩ = ⟨(a ++ b).toArray⟩ := by
  apply ByteArray.ext; simp
theorem str_congr {a b : Str} (h : a = b) : Value.string a = Value.string b := by rw [h]

set_option maxRecDepth 100000 in
theorem markText_any (k : Nat) (w : World) (h1 : 1 ≤ k) (h2 : k ≤ 1099511627776) :
    Calls Tryd.prog 63 #[.int .i64 (k : Int)] w fun e w' => e = .returned (.string (markS k)) ∧ Below w.heap.size w w' := by
  go_enter Tryd.func63, Tryd.ntmps63
  go_wp2_with fail
  go_loopw [0, 3] (fun j o wr => ∃ jn f : Nat, ∃ acc : List UInt8, jn ≤ f ∧ acc.length + jn ≤ 1099511627776 ∧ j = .int .i64 (jn : Int) ∧ o = .string ⟨acc.toArray⟩ ∧ decL f jn acc = decL k k [] ∧ Below w.heap.size w wr) (fun j _ _ => (intOf j).toNat)
  case atStart => exact ⟨k, k, [], Nat.le_refl _, by simpa using h2, rfl, rfl, rfl, Below.refl _ _⟩
  case round =>
    obtain ⟨jn, f, acc, hf, hj, rfl, rfl, hd, hb⟩ := hrel
    have HD := Lib.hid hd; clear hd
    have HB := Lib.hid hb; clear hb
    by_cases h0 : 0 < jn
    · have hcv := conv1 (wr.alloc (.cells #[.int .u8 (48 + (jn : Int) % 10)] 5)) wr.heap.size (48 + (jn : Int) % 10) (heap_new rfl)
      go_wp2_with fail
      go_roundw
      case rel =>
        obtain ⟨f', rfl⟩ : ∃ f', f = f' + 1 := ⟨f - 1, by omega⟩
        refine ⟨jn / 10, f', (48 + UInt8.ofNat (jn % 10)) :: acc, by omega, by simp; omega, by go_num, str_congr (bcat [_] acc), ?_, HB.out.alloc HB.out.size _⟩
        rw [← HD.out, decL, if_neg (by omega)]
      case measure => simp [intOf]; omega
    · have h0' : (jn : Int) < 1 := by omega
      go_wp2_with fail
      go_ret
      refine ⟨ret_s ?_, HB.out⟩
      have hz : jn = 0 := by omega
      have hd := HD.out
      subst hz
      unfold markS
      have e : decL f 0 acc = acc := by cases f <;> simp [decL]
      rw [← hd, e]
      exact bcat [109] acc

def marksS (k n : Nat) : List Str := (List.range n).map fun j => markS (k + j)
theorem marksS_len (k n : Nat) : (marksS k n).length = n := by simp [marksS]
theorem marksS_at {k n j : Nat} (hj : j < n) : nth (marksS k n) j = markS (k + j) := by
  rw [nth_eq (by rw [marksS_len]; exact hj)]; simp [marksS]

set_option maxRecDepth 100000 in
theorem markStringS_any (A : Option Addr) (n c k : Nat) (xs : List Str) (lo hi : Nat) (w : World) (hr : RH strE w lo hi A n xs) (hn : n ≤ 1048576) (h1 : 1 ≤ k) (h2 : k ≤ 549755813888) (hhi : hi ≤ w.heap.size) :
    Calls Tryd.prog 38 #[.slice A n c, .int .i64 (k : Int)] w fun e w' => e = .returned (.int .i64 ((k + n : Nat) : Int)) ∧ RH strE w' lo hi A n (marksS k n) ∧ Out lo hi w w' := by
  have HR := Lib.hid hr; clear hr
  go_enter Tryd.func38, Tryd.ntmps38
  go_wp2_with fail
  go_loopw [1, 5] (fun q i wr => ∃ j m : Nat, ∃ ys : List Str, j ≤ n ∧ i = .int .i64 (j : Int) ∧ q = .int .i64 (m : Int) ∧ m = k + j ∧ RH strE wr lo hi A n ys ∧ (∀ l, l < j → nth ys l = markS (k + l)) ∧ Out lo hi w wr) (fun _ i _ => n - (intOf i).toNat)
  case atStart => exact ⟨0, k, xs, Nat.zero_le _, rfl, rfl, rfl, HR.out, fa_zero, Out.refl⟩
  case round =>
    obtain ⟨j, m, ys, hj, rfl, rfl, hm, hys, hp, hb⟩ := hrel
    have HM := Lib.hid hm
    have HP := Lib.hid hp; clear hp
    have HB := Lib.hid hb; clear hb
    have HY := Lib.hid hys; clear hys
    have hm1 : 1 ≤ m := by omega
    have hm2 : m ≤ 1099511627776 := by omega
    have hm3 : (m : Int) ≤ 1099511627776 := by omega
    clear hm
    by_cases hlt : j < n
    · obtain ⟨b, off, rfl, ⟨hb1, hb3⟩, hc⟩ := RStr.hat HY.out hlt
      have hwr : hi ≤ wr.heap.size := Nat.le_trans hhi HB.out.size
      have hb2 : b < wr.heap.size := by omega
      obtain ⟨c1, c2⟩ := hc j hlt
      clear hc
      go_wp2_with fail
      refine (markText_any m _ hm1 hm2).mono ?_
      rintro e w1 ⟨rfl, hbw⟩
      have d1 := (hbw.cell (p := ⟨b, off + j, none⟩) hb2).trans c1
      have d2 := (hbw.frozen (p := ⟨b, off + j, none⟩) hb2).trans c2
      clear c1 c2
      have HBW := Lib.hid hbw; clear hbw
      go_wp2_with fail
      go_roundw
      case rel =>
        refine ⟨j + 1, m + 1, ys.set j (markS m), by omega, by go_num, by go_num, by rw [HM.out, Nat.add_assoc], RStr.hset (HY.out.below HBW.out hwr) hlt (markS m), ?_, (HB.out.trans (Out.of_below HBW.out)).set_ hb1 hb3 _ _⟩
        intro l hl
        rw [nth_set (by rw [HY.out.1]; exact hlt)]
        by_cases e : l = j
        · rw [if_pos e, e, HM.out]
        · rw [if_neg e]; exact HP.out l (by omega)
      case measure => simp [intOf]; omega
    · go_wp2_with fail
      go_ret
      refine ⟨ret_i (by rw [HM.out, show j = n by omega]), ?_, HB.out⟩
      have e : ys = marksS k n := list_ext (by rw [HY.out.1, marksS_len]) (fun l hl => by rw [HP.out l (by rw [HY.out.1] at hl; omega), marksS_at (by rw [HY.out.1] at hl; exact hl)])
      rw [← e]; exact HY.out

set_option maxRecDepth 100000 in
theorem heldStringS_any (A : Option Addr) (n c k : Nat) (lo : Nat) (w : World) (hr : RStr w lo A n (marksS k n)) (hn : n ≤ 1048576) (h1 : 1 ≤ k) (h2 : k ≤ 549755813888) :
    Calls Tryd.prog 39 #[.slice A n c, .int .i64 (k : Int)] w fun e w' => e = .returned (.int .i64 ((k + n : Nat) : Int)) ∧ Below w.heap.size w w' := by
  have HR := Lib.hid hr; clear hr
  go_enter Tryd.func39, Tryd.ntmps39
  go_wp2_with fail
  go_loopw [1, 5] (fun q i wr => ∃ j m : Nat, j ≤ n ∧ i = .int .i64 (j : Int) ∧ q = .int .i64 (m : Int) ∧ m = k + j ∧ Below w.heap.size w wr) (fun _ i _ => n - (intOf i).toNat)
  case atStart => exact ⟨0, k, Nat.zero_le _, rfl, rfl, rfl, Below.refl _ _⟩
  case round =>
    obtain ⟨j, m, hj, rfl, rfl, hm, hb⟩ := hrel
    have HM := Lib.hid hm
    have HB := Lib.hid hb; clear hb
    have hm1 : 1 ≤ m := by omega
    have hm2 : m ≤ 1099511627776 := by omega
    have hm3 : (m : Int) ≤ 1099511627776 := by omega
    clear hm
    by_cases hlt : j < n
    · obtain ⟨b, off, rfl, ⟨hb1, hb2⟩, hc⟩ := RStr.at_ (HR.out.below HB.out) hlt
      obtain ⟨c1, c2⟩ := hc j hlt
      clear hc c2
      rw [marksS_at hlt, ← HM.out] at c1
      go_wp2_with fail
      go_region_held3 (fun w' => w'.cell? ⟨b, off + j, none⟩ = some (.string (markS m)))
        (first | go_keep | (rw [hbw.cell (p := ⟨b, off + j, none⟩) (by simpa using hb2)]; assumption))
        (first | (go_at_call 63; refine (markText_any m _ hm1 hm2).mono ?_; rintro e w1 ⟨rfl, hbw⟩))
      go_wp2_with fail
      go_roundw
      case rel => exact ⟨j + 1, m + 1, by omega, by go_num, by go_num, by rw [HM.out, Nat.add_assoc], HB.out.drew.trans (hbw.mono HB.out.size)⟩
      case measure => simp [intOf]; omega
    · go_wp2_with fail
      go_ret
      exact ⟨ret_i (by rw [HM.out, show j = n by omega]), HB.out⟩

/-! ### ints -/
def marksI (k n : Nat) : List Int := (List.range n).map fun j => ((k + j : Nat) : Int)
theorem marksI_len (k n : Nat) : (marksI k n).length = n := by simp [marksI]
theorem marksI_at {k n j : Nat} (hj : j < n) : nth (marksI k n) j = ((k + j : Nat) : Int) := by
  rw [nth_eq (by rw [marksI_len]; exact hj)]; simp [marksI]

def eqIB (xs ys : List Int) : Bool := decide (xs = ys)
/-- A made list, before it is filled. -/
theorem made_at {z : Array Value} {m n k i : Nat} (hz : z.size = m) (hk : k < n) (hi : i < m) : (madeCells z (n * m)).toList[k * m + i]? = z[i]? := by
  have h1 : k * m + i < n * m := by
    have : (k + 1) * m ≤ n * m := Nat.mul_le_mul_right _ hk
    rw [Nat.succ_mul] at this; omega
  have h2 : (k * m + i) % m = i := by rw [Nat.mul_comm, Nat.mul_add_mod]; exact Nat.mod_eq_of_lt hi
  simp [madeCells, hz, h1, h2, hi]
theorem own_made {w : World} {base : Nat} {e : TypeId} {m : Nat} {v : Value} {n : Nat} {z : Array Value} (hz : z.size = m) (h : w.ownsRow base e m v n (madeCells z (n * m)).toList) :
    ∃ A c, v = .slice A n c ∧ (0 < n → ∃ b, A = some ⟨b, 0, none⟩ ∧ base ≤ b ∧ b < w.heap.size ∧ ∀ k, k < n → ∀ i u, i < m → z[i]? = some u → Cl w b (k * m + i) u) := by
  obtain ⟨A, c, hv, hf⟩ := own_form h
  refine ⟨A, c, hv, fun hn => ?_⟩
  obtain ⟨b, e1, h1, h2, hc⟩ := hf hn
  exact ⟨b, e1, h1, h2, fun k hk i u hi hu => hc _ u (by rw [made_at hz hk hi]; exact hu)⟩
theorem nth_rep {α : Type} [Inhabited α] {n k : Nat} {x : α} (hk : k < n) : nth (List.replicate n x) k = x := by
  rw [nth_eq (by simpa using hk)]; simp
theorem own_fresh_int {w : World} {base : Nat} {e : TypeId} {v : Value} {n : Nat} (h : w.ownsRow base e 1 v n (madeCells #[.int .i64 0] n).toList) :
    ∃ A c, v = .slice A n c ∧ RInt w base A n (List.replicate n 0) := by
  obtain ⟨A, c, hv, hf⟩ := own_made (m := 1) (z := #[.int .i64 0]) rfl (by rw [Nat.mul_one]; exact h)
  refine ⟨A, c, hv, by simp, fun hn => ?_⟩
  obtain ⟨b, e1, h1, h2, hc⟩ := hf hn
  refine ⟨b, 0, e1, h1, h2, fun k hk => ?_⟩
  rw [nth_rep hk]
  have := hc k hk 0 _ (by omega) rfl
  simpa [intE] using this
theorem own_fresh_str {w : World} {base : Nat} {e : TypeId} {v : Value} {n : Nat} (h : w.ownsRow base e 1 v n (madeCells #[.string ⟨#[]⟩] n).toList) :
    ∃ A c, v = .slice A n c ∧ RStr w base A n (List.replicate n ⟨#[]⟩) := by
  obtain ⟨A, c, hv, hf⟩ := own_made (m := 1) (z := #[.string ⟨#[]⟩]) rfl (by rw [Nat.mul_one]; exact h)
  refine ⟨A, c, hv, by simp, fun hn => ?_⟩
  obtain ⟨b, e1, h1, h2, hc⟩ := hf hn
  refine ⟨b, 0, e1, h1, h2, fun k hk => ?_⟩
  rw [nth_rep hk]
  have := hc k hk 0 _ (by omega) rfl
  simpa [strE] using this
theorem own_fresh_guard {w : World} {base : Nat} {e : TypeId} {v : Value} {n : Nat} (h : w.ownsRow base e 3 v n (madeCells #[.string ⟨#[]⟩, .int .i64 0, .int .i64 0] (n * 3)).toList) :
    ∃ A c, v = .slice A n c ∧ RGuard w base A n (List.replicate n ⟨⟨#[]⟩, 0, 0⟩) := by
  obtain ⟨A, c, hv, hf⟩ := own_made (m := 3) (z := #[.string ⟨#[]⟩, .int .i64 0, .int .i64 0]) rfl h
  refine ⟨A, c, hv, by simp, fun hn => ?_⟩
  obtain ⟨b, e1, h1, h2, hc⟩ := hf hn
  refine ⟨b, 0, e1, h1, h2, fun k hk => ?_⟩
  rw [nth_rep hk, Nat.zero_add]
  exact ⟨hc k hk 0 _ (by omega) rfl, hc k hk 1 _ (by omega) rfl, hc k hk 2 _ (by omega) rfl⟩

end Go.Proofs.YthdfefgianokgaaDoor

/- Decimals of the reference. -/
namespace Go.Proofs.YthdfefgianokgaaDoor
open Go.RowKit

def digit (i : Nat) : UInt8 := UInt8.ofNat (48 + i)
def decS (i : Nat) : Str := if i < 10 then ⟨#[digit i]⟩ else ⟨#[digit (i / 10)]⟩ ++ ⟨#[digit (i % 10)]⟩

set_option maxRecDepth 100000 in
theorem l6Dec1_any (i : Nat) (hi : i < 10) (w : World) :
    Calls Tryd.prog 51 #[.int .i64 (i : Int)] w fun e w' => e = .returned (.string ⟨#[digit i]⟩) ∧ Below w.heap.size w w' := by
  have c1 : decide ((i : Int) < -9223372036854775807) = false := decide_eq_false (by omega)
  have c2 : decide ((i : Int) < 0) = false := decide_eq_false (by omega)
  have c3 : decide ((i : Int) < 10) = true := decide_eq_true (by omega)
  have hcv := conv1 (w.alloc (.cells #[.int .u8 (48 + (i : Int))] 5)) w.heap.size (48 + (i : Int)) (heap_new rfl)
  have hd : UInt8.ofNat (48 + (i : Int)).toNat = digit i := by
    unfold digit
    rw [show (48 + (i : Int)).toNat = 48 + i by omega]
  rw [hd] at hcv
  go_enter Tryd.func51, Tryd.ntmps51
  go_wp2_with fail
  go_ret
  exact ⟨rfl, (Below.refl _ _).alloc (Nat.le_refl _) _⟩
end Go.Proofs.YthdfefgianokgaaDoor

/- Decimals of the reference: two digits. -/
namespace Go.Proofs.YthdfefgianokgaaDoor
open Go.RowKit

section
variable {P : Program} {ops : Array Oper} {Q : Exit → Act → World → Prop} {md : Region.Mode} {S S' : World → Prop}
/-- The condition may grow on the way. -/
theorem wpAnyH_mono (hss : ∀ w, S' w → S w) : ∀ (fuel : Nat) (listed : Array Bool) (a : Act) (w : World), wpAnyH P md ops Q S' fuel listed a w → wpAnyH P md ops Q S fuel listed a w
  | 0, _, _, _, h => h
  | fuel + 1, _, _, _, h => ⟨h.1, fun i hi => wpOp_mono (fun a' w' h' => ⟨hss w' h'.1, wpAnyH_mono hss fuel _ a' w' h'.2⟩) (h.2 i hi)⟩
theorem wpAnyH_takeE0 {i : Nat} {oi : Oper} {v : Value} {d : Option Tmp} {fuel : Nat} {listed : Array Bool} {a : Act} {w : World} (hi : ops[i]? = some oi) (hd : oi.dst = d)
    (hs : Region.noSelect ops = true) (hf : Region.free md ops listed i = true) (hr : (Region.ready md ops listed).contains i = true)
    (hQ : ∀ c a w, Q (.panic c) (a.put d v) w → Q (.panic c) a w) (hy : YieldsIf P ops S oi v a) (hS : S w)
    (h : wpAnyH P md ops Q S fuel (listed.setIfInBounds i true) (a.put d v) w) : wpAnyH P md ops Q S (fuel + 1) listed a w := by
  subst hd
  exact wpAnyH_take hi hs hf hr hQ hy hS h
end

set_option maxRecDepth 100000 in
set_option maxHeartbeats 1000000 in
theorem l6Dec2_any (i : Nat) (h10 : 10 ≤ i) (hi : i < 100) (w : World) :
    Calls Tryd.prog 51 #[.int .i64 (i : Int)] w fun e w' => e = .returned (.string (decS i)) ∧ Below w.heap.size w w' := by
  have c1 : decide ((i : Int) < -9223372036854775807) = false := decide_eq_false (by omega)
  have c2 : decide ((i : Int) < 0) = false := decide_eq_false (by omega)
  have c3 : decide ((i : Int) < 10) = false := decide_eq_false (by omega)
  go_enter Tryd.func51, Tryd.ntmps51
  go_wp2_with fail
  refine wp_region_held_drew (S := fun w' => Below w.heap.size w w') (by kernel_rfl) (Below.refl _ _).drew (fun hH => ?_)
  refine wpAnyH_takeE0 (i := 0) (d := some 18) (v := ?v1) rfl (by rfl) (by kernel_rfl) (by kernel_rfl) (by kernel_rfl) (fun _ _ _ h => h) (Or.inl ⟨by rfl, ?y1⟩) hH ?r1
  case y1 => (intro w' hS; (try dsimp only at hS); go_simp; (try with_reducible rfl))
  (try simp only [Act.put, List.setIfInBounds_toArray, List.set_cons_zero, List.set_cons_succ])
  refine wpAnyH_takeE0 (i := 1) (d := some 19) (v := ?v2) rfl (by rfl) (by kernel_rfl) (by kernel_rfl) (by kernel_rfl) (fun _ _ _ h => h) (Or.inl ⟨by rfl, ?y2⟩) hH ?r2
  case y2 => (intro w' hS; (try dsimp only at hS); go_simp; (try with_reducible rfl))
  (try simp only [Act.put, List.setIfInBounds_toArray, List.set_cons_zero, List.set_cons_succ])
  refine wpAnyH_takeE0 (i := 3) (d := some 21) (v := ?v3) rfl (by rfl) (by kernel_rfl) (by kernel_rfl) (by kernel_rfl) (fun _ _ _ h => h) (Or.inl ⟨by rfl, ?y3⟩) hH ?r3
  case y3 => (intro w' hS; (try dsimp only at hS); go_simp; (try with_reducible rfl))
  (try simp only [Act.put, List.setIfInBounds_toArray, List.set_cons_zero, List.set_cons_succ])
  refine wpAnyH_takeE0 (i := 4) (d := some 22) (v := ?v4) rfl (by rfl) (by kernel_rfl) (by kernel_rfl) (by kernel_rfl) (fun _ _ _ h => h) (Or.inl ⟨by rfl, ?y4⟩) hH ?r4
  case y4 => (intro w' hS; (try dsimp only at hS); go_simp; (try with_reducible rfl))
  (try simp only [Act.put, List.setIfInBounds_toArray, List.set_cons_zero, List.set_cons_succ])
  refine wpAnyH_takeE0 (i := 5) (d := some 23) (v := ?v5) rfl (by rfl) (by kernel_rfl) (by kernel_rfl) (by kernel_rfl) (fun _ _ _ h => h) (Or.inl ⟨by rfl, ?y5⟩) hH ?r5
  case y5 => (intro w' hS; (try dsimp only at hS); go_simp; (try with_reducible rfl))
  (try simp only [Act.put, List.setIfInBounds_toArray, List.set_cons_zero, List.set_cons_succ])
  refine wpAnyH_takeE0 (i := 6) (d := some 24) (v := ?v6) rfl (by rfl) (by kernel_rfl) (by kernel_rfl) (by kernel_rfl) (fun _ _ _ h => h) (Or.inl ⟨by rfl, ?y6⟩) hH ?r6
  case y6 => (intro w' hS; (try dsimp only at hS); go_simp; (try with_reducible rfl))
  (try simp only [Act.put, List.setIfInBounds_toArray, List.set_cons_zero, List.set_cons_succ])
  have hw1 : IntKind.i64.wrap ((i : Int) / 10) = ((i / 10 : Nat) : Int) := by
    have h : ∀ j : Fin 10, IntKind.i64.wrap (j.val : Int) = (j.val : Int) := by decide
    rw [show ((i : Int) / 10) = ((i / 10 : Nat) : Int) by omega]
    exact h ⟨i / 10, by omega⟩
  have hw2 : IntKind.u8.wrap (IntKind.i64.wrap (48 + (i : Int).tmod 10)) = ((48 + i % 10 : Nat) : Int) := by
    have h : ∀ j : Fin 10, IntKind.u8.wrap (IntKind.i64.wrap (48 + (j.val : Int))) = ((48 + j.val : Nat) : Int) := by decide
    rw [Int.tmod_eq_emod_of_nonneg (by omega), show ((i : Int) % 10) = ((i % 10 : Nat) : Int) by omega]
    exact h ⟨i % 10, by omega⟩
  have hdec : (⟨#[digit (i / 10)]⟩ : Str) ++ (⟨#[UInt8.ofNat (48 + (i : Int) % 10).toNat]⟩ : Str) = decS i := by
    unfold decS
    rw [if_neg (by omega), show (48 + (i : Int) % 10).toNat = 48 + i % 10 by omega]
    rfl
  rw [hw1, hw2]
  refine wpAnyH_ready (rs := [2, 7]) (by kernel_rfl) (by simp) ?_
  refine AllReadyH.cons rfl (fun K hK => ?_) ?_
  · go_wp2_with fail
    go_at_call 51
    refine (l6Dec1_any (i / 10) (by omega) _).mono ?_
    rintro e w1 ⟨rfl, hb1⟩
    go_wp2_with fail
    refine hK.out _ _ (((Below.refl w.heap.size w).drew).trans hb1) (fun hH2 => ?_)
    clear hK K hH
    have hH := hH2
    (try simp only [Act.put, List.setIfInBounds_toArray, List.set_cons_zero, List.set_cons_succ])
    refine wpAnyH_ready (rs := [7]) (by kernel_rfl) (by simp) ?_
    refine AllReadyH.cons rfl (fun K hK => ?_) AllReadyH.nil
    go_simp
    refine hK.out _ _ (hH.alloc hH.size _) (fun hH2 => ?_)
    clear hK K hH
    have hH := And.intro hH2 (heap_new (w := w1) (b := w1.heap.size) (o := .cells #[.int .u8 (48 + (i : Int) % 10)] 5) rfl)
    refine wpAnyH_mono (S' := fun w' => Below w.heap.size w w' ∧ w'.heap[w1.heap.size]? = some (.cells #[.int .u8 (48 + (i : Int) % 10)] 5 (0, 0))) (fun w h => h.1) _ _ _ _ ?_
    refine wpAnyH_takeE0 (i := 8) (d := some 26) (v := ?v18) rfl (by rfl) (by kernel_rfl) (by kernel_rfl) (by kernel_rfl) (fun _ _ _ h => h) (Or.inl ⟨by rfl, ?y18⟩) hH ?r18
    case y18 => (intro w' hS; (try dsimp only at hS); have hcv := conv1 w' w1.heap.size (48 + (i : Int) % 10) hS.2; go_simp; (try with_reducible rfl))
    (try simp only [Act.put, List.setIfInBounds_toArray, List.set_cons_zero, List.set_cons_succ])
    refine wpAnyH_takeE0 (i := 9) (d := some 27) (v := ?v19) rfl (by rfl) (by kernel_rfl) (by kernel_rfl) (by kernel_rfl) (fun _ _ _ h => h) (Or.inl ⟨by rfl, ?y19⟩) hH ?r19
    case y19 => (intro w' hS; (try dsimp only at hS); go_simp; (try with_reducible rfl))
    (try simp only [Act.put, List.setIfInBounds_toArray, List.set_cons_zero, List.set_cons_succ])
    refine wpAnyH_takeE0 (i := 10) (d := some 2) (v := ?v20) rfl (by rfl) (by kernel_rfl) (by kernel_rfl) (by kernel_rfl) (fun _ _ _ h => h) (Or.inl ⟨by rfl, ?y20⟩) hH ?r20
    case y20 => (intro w' hS; (try dsimp only at hS); go_simp; (try with_reducible rfl))
    (try simp only [Act.put, List.setIfInBounds_toArray, List.set_cons_zero, List.set_cons_succ])
    refine wpAnyH_done (by kernel_rfl) ?_ _
    go_wp2_with fail
    go_ret
    exact ⟨rfl, hH.1⟩
  · refine AllReadyH.cons rfl (fun K hK => ?_) AllReadyH.nil
    go_simp
    refine hK.out _ _ ((Below.refl w.heap.size w).drew.alloc (Nat.le_refl _) _) (fun hH2 => ?_)
    clear hK K hH
    have hH := And.intro hH2 (heap_new (w := w.drew) (b := w.heap.size) (o := .cells #[.int .u8 (48 + (i : Int) % 10)] 5) rfl)
    refine wpAnyH_mono (S' := fun w' => Below w.heap.size w w' ∧ w'.heap[w.heap.size]? = some (.cells #[.int .u8 (48 + (i : Int) % 10)] 5 (0, 0))) (fun w h => h.1) _ _ _ _ ?_
    refine wpAnyH_takeE0 (i := 8) (d := some 26) (v := ?v28) rfl (by rfl) (by kernel_rfl) (by kernel_rfl) (by kernel_rfl) (fun _ _ _ h => h) (Or.inl ⟨by rfl, ?y28⟩) hH ?r28
    case y28 => (intro w' hS; (try dsimp only at hS); have hcv := conv1 w' w.heap.size (48 + (i : Int) % 10) hS.2; go_simp; (try with_reducible rfl))
    (try simp only [Act.put, List.setIfInBounds_toArray, List.set_cons_zero, List.set_cons_succ])
    (try simp only [Act.put, List.setIfInBounds_toArray, List.set_cons_zero, List.set_cons_succ])
    refine wpAnyH_ready (rs := [2]) (by kernel_rfl) (by simp) ?_
    refine AllReadyH.cons rfl (fun K hK => ?_) AllReadyH.nil
    go_wp2_with fail
    go_at_call 51
    refine (l6Dec1_any (i / 10) (by omega) _).mono ?_
    rintro e w1 ⟨rfl, hb1⟩
    go_wp2_with fail
    refine hK.out _ _ ⟨hH.1.trans (hb1.mono hH.1.size), (hb1.block _ (heap_lt hH.2)).trans hH.2⟩ (fun hH2 => ?_)
    clear hK K hH
    have hH := hH2
    (try simp only [Act.put, List.setIfInBounds_toArray, List.set_cons_zero, List.set_cons_succ])
    refine wpAnyH_takeE0 (i := 9) (d := some 27) (v := ?v29) rfl (by rfl) (by kernel_rfl) (by kernel_rfl) (by kernel_rfl) (fun _ _ _ h => h) (Or.inl ⟨by rfl, ?y29⟩) hH ?r29
    case y29 => (intro w' hS; (try dsimp only at hS); go_simp; (try with_reducible rfl))
    (try simp only [Act.put, List.setIfInBounds_toArray, List.set_cons_zero, List.set_cons_succ])
    refine wpAnyH_takeE0 (i := 10) (d := some 2) (v := ?v30) rfl (by rfl) (by kernel_rfl) (by kernel_rfl) (by kernel_rfl) (fun _ _ _ h => h) (Or.inl ⟨by rfl, ?y30⟩) hH ?r30
    case y30 => (intro w' hS; (try dsimp only at hS); go_simp; (try with_reducible rfl))
    (try simp only [Act.put, List.setIfInBounds_toArray, List.set_cons_zero, List.set_cons_succ])
    refine wpAnyH_done (by kernel_rfl) ?_ _
    go_wp2_with fail
    go_ret
    exact ⟨rfl, hH.1⟩
theorem l6Dec_any (i : Nat) (hi : i < 100) (w : World) :
    Calls Tryd.prog 51 #[.int .i64 (i : Int)] w fun e w' => e = .returned (.string (decS i)) ∧ Below w.heap.size w w' := by
  by_cases h : i < 10
  · have e : decS i = ⟨#[digit i]⟩ := by unfold decS; rw [if_pos h]
    rw [e]
    exact l6Dec1_any i h w
  · exact l6Dec2_any i (by omega) hi w
end Go.Proofs.YthdfefgianokgaaDoor

/- Texts of flows. No program in sight. -/
namespace Go.Proofs.YthdfefgianokgaaDoor
open Go.RowKit

def lineS (s : Step) : Str := stepS s ++ ⟨#[10]⟩
def headS (v : Nat) : Str := (⟨#[102, 108, 111, 119, 32]⟩ ++ decS v) ++ ⟨#[10]⟩
/-- The head and the first k lines. -/
def linesS (v : Nat) (ss : List Step) : Nat → Str
  | 0 => headS v
  | k + 1 => linesS v ss k ++ lineS (nth ss k)
theorem cnt_app (a b : Str) (c : UInt8) : (bs (a ++ b)).count c = (bs a).count c + (bs b).count c := by
  rw [bs_app, List.count_append]
theorem cnt_zero {l : Bytes} {b : UInt8} (h : ∀ c ∈ l, c ≠ b) : l.count b = 0 := List.count_eq_zero.2 fun hb => h b hb rfl
theorem digit_ne (i : Nat) (h : i < 10) : digit i ≠ 10 := by
  have : ∀ i : Fin 10, digit i.val ≠ 10 := by decide
  exact this ⟨i, h⟩
theorem dec_cnt (v : Nat) (h : v < 100) : (bs (decS v)).count 10 = 0 := by
  unfold decS
  split
  · rename_i h1
    have := digit_ne v h1
    simp [bs, this]
  · rename_i h1
    have h2 := digit_ne (v / 10) (by omega)
    have h3 := digit_ne (v % 10) (by omega)
    rw [cnt_app]
    simp [bs, h2, h3]
theorem names_ten {xs : List Str} (h : ∀ j, j < xs.length → nameB (nth xs j) = true) : ∀ c ∈ bs (namesS xs), c ≠ 10 := by
  intro c hc
  rw [bs_names] at hc
  split at hc
  · simp at hc; subst hc; decide
  · refine join_bytes (P := fun c => c ≠ 10) (by decide) (xs.map bs) (fun x hx => ?_) c hc
    obtain ⟨s, hs, rfl⟩ := List.mem_map.1 hx
    obtain ⟨j, hj, rfl⟩ := nth_of_mem hs
    exact name_no (h j hj) 10 (by decide)
theorem step_cnt {t : Step} (h : stepB t = true) : (bs (stepS t)).count 10 = 0 := by
  obtain ⟨_, _, hnm⟩ := stepB_sizes h
  have hname : nameB t.name = true := by
    unfold stepB at h
    simp only [Bool.and_eq_true] at h
    exact h.1.1.2
  rw [bs_step]
  refine cnt_zero fun c hc => ?_
  rcases List.mem_append.1 hc with hc | hc
  · exact name_no hname 10 (by decide) c hc
  · rcases List.mem_cons.1 hc with rfl | hc
    · decide
    · rcases List.mem_append.1 hc with hc | hc
      · exact names_ten hnm c hc
      · simp at hc
        rw [hc.2]
        decide
theorem lines_cnt {v : Nat} (hv : v < 100) {ss : List Step} : ∀ k, (∀ j, j < k → stepB (nth ss j) = true) → (bs (linesS v ss k)).count 10 = k + 1
  | 0, _ => by
    show (bs (headS v)).count 10 = 1
    unfold headS
    rw [cnt_app, cnt_app, dec_cnt v hv]
    rfl
  | k + 1, h => by
    show (bs (linesS v ss k ++ lineS (nth ss k))).count 10 = k + 1 + 1
    unfold lineS
    rw [cnt_app, cnt_app, lines_cnt hv k (fun j hj => h j (by omega)), step_cnt (h k (by omega))]
    rfl
theorem lines_size {v : Nat} (hv : v < 100) {ss : List Step} : ∀ k, (∀ j, j < k → stepB (nth ss j) = true) → (linesS v ss k).size ≤ 8 + k * 101
  | 0, _ => by
    show (headS v).size ≤ 8
    unfold headS decS
    split
    · rw [bsz_app, bsz_app]; show 5 + 1 + 1 ≤ 8; omega
    · rw [bsz_app, bsz_app, bsz_app]; show 5 + (1 + 1) + 1 ≤ 8; omega
  | k + 1, h => by
    have h1 := lines_size hv k (fun j hj => h j (by omega))
    have h2 := (mark_ex (h k (by omega)))
    obtain ⟨_, _, hm⟩ := h2
    have h3 := hm.small
    show (linesS v ss k ++ lineS (nth ss k)).size ≤ _
    unfold lineS
    rw [bsz_app, bsz_app]
    show _ + (_ + 1) ≤ _
    omega
/-- The text ends with the last step's line. -/
theorem ext_tail (a z : Str) : (a ++ z : Str).extract ((a ++ z : Str).size - z.size) (a ++ z : Str).size = z := by
  have hs : (a ++ z : Str).size = a.size + z.size := bsz_app a z
  have h := Lib.extract_data (a ++ z) ((a ++ z : Str).size - z.size) (a ++ z : Str).size
  rw [hs] at h ⊢
  have e1 : a.size + z.size - z.size = a.size := by omega
  rw [e1] at h ⊢
  have e2 : a.size + z.size - a.size = z.size := by omega
  rw [e2, bl_app, List.drop_left' (show a.data.toList.length = a.size from rfl), List.take_of_length_le (show z.data.toList.length ≤ z.size from Nat.le_refl _)] at h
  rw [← of_bs ((a ++ z).extract a.size (a.size + z.size)), ← of_bs z]
  exact congrArg ofBs h
/-- A step the other way round: another text behind the same head. -/
theorem flip_ne {t : Step} (r r' : Bytes) : bs (stepS t) ++ 10 :: r ≠ bs (stepS { t with undo := !t.undo }) ++ 10 :: r' := by
  rw [bs_step, bs_step]
  intro e
  cases h : t.undo
  · rw [h] at e
    simp at e
  · rw [h] at e
    simp at e
theorem lines_split (v : Nat) (ss : List Step) : ∀ k, ∃ r, bs (linesS v ss (k + 1)) = bs (headS v) ++ (bs (stepS (nth ss 0)) ++ 10 :: r)
  | 0 => ⟨[], by
    show bs (headS v ++ lineS (nth ss 0)) = _
    unfold lineS
    rw [bs_app, bs_app]
    rfl⟩
  | k + 1 => by
    obtain ⟨r, h⟩ := lines_split v ss k
    refine ⟨r ++ bs (lineS (nth ss (k + 1))), ?_⟩
    show bs (linesS v ss (k + 1) ++ lineS (nth ss (k + 1))) = _
    rw [bs_app, h]
    simp
theorem lines_ne {v k k' : Nat} {ss ss' : List Step} (e : nth ss' 0 = { nth ss 0 with undo := !(nth ss 0).undo }) : linesS v ss (k + 1) ≠ linesS v ss' (k' + 1) := by
  intro h
  obtain ⟨r, h1⟩ := lines_split v ss k
  obtain ⟨r', h2⟩ := lines_split v ss' k'
  rw [← h, h1, e] at h2
  exact flip_ne r r' (List.append_cancel_left h2)
/-- The first step the other way round. -/
def flip0 : List Step → List Step
  | [] => []
  | s :: r => { s with undo := !s.undo } :: r
theorem flip0_len : ∀ ss : List Step, (flip0 ss).length = ss.length
  | [] => rfl
  | _ :: _ => rfl
theorem flip0_names : ∀ ss : List Step, namesOf (flip0 ss) = namesOf ss
  | [] => rfl
  | _ :: _ => rfl
theorem flip0_at : ∀ (ss : List Step) (j : Nat), (nth (flip0 ss) j).name = (nth ss j).name ∧ (nth (flip0 ss) j).after = (nth ss j).after ∧ stepB (nth (flip0 ss) j) = stepB (nth ss j)
  | [], _ => ⟨rfl, rfl, rfl⟩
  | _ :: _, 0 => ⟨rfl, rfl, rfl⟩
  | _ :: _, _ + 1 => ⟨rfl, rfl, rfl⟩
theorem flip0_rdy (done : List Str) : ∀ ss : List Step, rdyL (flip0 ss) done = rdyL ss done
  | [] => rfl
  | s :: r => by
    show rdyL ({ s with undo := !s.undo } :: r) done = rdyL (s :: r) done
    unfold rdyL
    rw [List.filter_cons, List.filter_cons]
    have e : rdyB done { s with undo := !s.undo } = rdyB done s := rfl
    rw [e]
    split <;> rfl
theorem flip0_ordTo (ss : List Step) : ∀ k, ordTo (flip0 ss) k = ordTo ss k
  | 0 => rfl
  | k + 1 => by
    show ordStep (flip0 ss) (ordTo (flip0 ss) k) = ordStep ss (ordTo ss k)
    rw [flip0_ordTo ss k]
    unfold ordStep
    rw [flip0_rdy]
theorem flip0_flowB (v : Int) (ss : List Step) : flowB ⟨v, flip0 ss⟩ = flowB ⟨v, ss⟩ := by
  have hst : stepAt (flip0 ss) = stepAt ss := by
    funext j
    unfold stepAt
    rw [(flip0_at ss j).1, (flip0_at ss j).2.1, (flip0_at ss j).2.2, (flip0_at ss (j - 1)).1, flip0_names]
  have ho : ordL (flip0 ss) = ordL ss := by
    unfold ordL
    rw [flip0_len, flip0_ordTo]
  unfold flowB
  show (allN (flip0 ss).length (stepAt (flip0 ss)) && inB v 1 99 && inB (flip0 ss).length 1 8 && decide ((ordL (flip0 ss)).length = (flip0 ss).length)) = _
  rw [hst, ho, flip0_len]
/-- What strconv.Itoa writes, below a hundred. -/
theorem dec_itoa (i : Nat) (h : i < 100) : (⟨(Lib.decDigits i).toArray⟩ : Str) = decS i := by
  unfold decS digit
  by_cases h1 : i < 10
  · rw [if_pos h1, Lib.decDigits, dif_pos h1]
  · rw [if_neg h1, Lib.decDigits, dif_neg h1, Lib.decDigits, dif_pos (by omega)]
    exact (bcat [_] [_]).symm
theorem strCells_app (a b : Str) : Lib.strCells (a ++ b) = Lib.strCells a ++ Lib.strCells b := by
  unfold Lib.strCells
  rw [bl_app, List.map_append]
/-- A flow's text. -/
def flowTextS (f : Flow) : Str := if flowB f then linesS f.ver.toNat f.steps f.steps.length else ⟨#[]⟩
end Go.Proofs.YthdfefgianokgaaDoor

/- strings.Builder's WriteString at this program: the shelf's layer by hand (its own command finds no number for the type string there). -/
namespace Go.Proofs.YthdfefgianokgaaDoor
open Go.RowKit

def wsRen : Go.Shelf.Ren := ⟨fun | 166 => 47 | 240 => 68 | 276 => 82 | n => n, fun | 70 => 65 | 3 => 3 | 0 => 0 | 4 => 4 | 9 => 9 | 20 => 20 | 72 => 67 | 37 => 22 | 164 => 97 | 75 => 69 | 80 => 73 | 5 => 5 | n => n, fun | n => n⟩
theorem wsLays : Go.Proofs.Lays.n166 Tryd.prog wsRen := {
  mixed := by kernel_rfl
  f166 := Tryd.func47.trans (congrArg some (by kernel_rfl))
  f240 := Tryd.func68.trans (congrArg some (by kernel_rfl))
  f276 := Tryd.func82.trans (congrArg some (by kernel_rfl))
  t0 := Tryd.underlying0
  a0 := Tryd.isAgg0
  z0 := Tryd.sizeOf0
  v0 := Tryd.zeroValue0
  t3 := Tryd.underlying3
  a3 := Tryd.isAgg3
  z3 := Tryd.sizeOf3
  v3 := Tryd.zeroValue3
  t4 := Tryd.underlying4
  a4 := Tryd.isAgg4
  z4 := Tryd.sizeOf4
  v4 := Tryd.zeroValue4
  t9 := Tryd.underlying9
  a9 := Tryd.isAgg9
  z9 := Tryd.sizeOf9
  v9 := Tryd.zeroValue9
  t20 := Tryd.underlying20
  a20 := Tryd.isAgg20
  z20 := Tryd.sizeOf20
  v20 := Tryd.zeroValue20
  t37 := Tryd.underlying22
  a37 := Tryd.isAgg22
  z37 := Tryd.sizeOf22
  v37 := Tryd.zeroValue22
  t70 := Tryd.underlying65
  a70 := Tryd.isAgg65
  z70 := Tryd.sizeOf65
  v70 := Tryd.zeroValue65
  t72 := Tryd.underlying67
  a72 := Tryd.isAgg67
  z72 := Tryd.sizeOf67
  v72 := Tryd.zeroValue67
  t75 := Tryd.underlying69
  a75 := Tryd.isAgg69
  z75 := Tryd.sizeOf69
  v75 := Tryd.zeroValue69
  t164 := Tryd.underlying97
  a164 := Tryd.isAgg97
  z164 := Tryd.sizeOf97
  v164 := Tryd.zeroValue97 }
theorem wsExtra : Builder.Extra Tryd.prog wsRen := {
  sizeBuilder := by kernel_rfl
  liesBuilder := by kernel_rfl
  t5 := Tryd.underlying5
  a5 := Tryd.isAgg5
  z5 := Tryd.sizeOf5
  v5 := Tryd.zeroValue5
  infoByte := by kernel_rfl
  cellsByte := by kernel_rfl
  sizeByte := by kernel_rfl
  neB5 := by decide }
/-- (*strings.Builder).WriteString. -/
theorem writeString_any (B b : Nat) (bs : List Value) (s : ByteArray) (w : World) (h : Lib.IsBuilder 67 5 B b bs w) (hlen : bs.length + s.size ≤ 140737488355328) (hBw : B ≤ w.heap.size) :
    Calls Tryd.prog 47 #[.pointer (some ⟨b, 0, none⟩), .string s] w fun e w' => e = .returned (.tuple #[.int .i64 s.size, .nilIface]) ∧ (Lib.BuilderAt 67 5 B b (.pointer (some ⟨b, 0, none⟩)) (bs ++ Lib.strCells s) w' ∧ Below B w w') :=
  Any.Builder_WriteString wsLays wsExtra B b bs s w h hlen hBw
end Go.Proofs.YthdfefgianokgaaDoor

/- Drawing a flow whose steps' lists have room. -/
namespace Go.Proofs.YthdfefgianokgaaDoor
open Go.RowKit

def FlowDC (w : World) (e : Ending) (w' : World) : Prop :=
  ∃ (v : Int) (A : Option Addr) (n c : Nat) (ss : List Step), e = .returned (.agg #[.int .i64 v, .slice A n c]) ∧ RStep w' w.heap.size A n ss ∧ okSteps ss ∧ 1 ≤ n ∧ n ≤ 6 ∧ Below w.heap.size w w' ∧ CapS w' A n

set_option maxRecDepth 100000 in
theorem drawFlowText_any (A : Option Addr) (n c : Nat) (w : World) (hr : RByte w A n) (hc : n ≤ c) (hn : n ≤ 1048576) : Calls Tryd.prog 21 #[.slice A n c] w (FlowDC w) := by
  have HR := Lib.hid (hr.alloc (.cells #[.int .i64 0, .slice none 0 0] 38)); clear hr
  go_enter Tryd.func21, Tryd.ntmps21
  go_wp2_with fail
  refine (open_any _ _ _ _ HR.out hc hn).mono ?_
  rintro e w1 ⟨rfl, hrd, hb1⟩
  have hsz : (w.alloc (.cells #[.int .i64 0, .slice none 0 0] 38)).heap.size = w.heap.size + 1 := by simp
  rw [hsz] at hrd hb1 ⊢
  have hd0 : Dr 79 w1 (w.heap.size + 1) 0 w1 := ⟨On.refl _ _, 0, Nat.le_refl _, hrd⟩
  have hl1 := hrd.lt
  have HRES := Lib.hid ((hb1.block w.heap.size (Nat.lt_succ_self _)).trans (heap_new (o := .cells #[.int .i64 0, .slice none 0 0] 38) rfl))
  have HB1 := Lib.hid (((Below.refl w.heap.size w).alloc (Nat.le_refl _) (.cells #[.int .i64 0, .slice none 0 0] 38)).trans (hb1.mono (Nat.le_succ _)))
  clear hrd hb1 hsz
  go_wp2_with fail
  refine (l91FlowC_any w1 _ _ _ hd0 (by omega)).mono ?_
  rintro e w2 ⟨v, A2, n2, c2, ss, rfl, hs, hok, h1, h6, hd, hon, hcp⟩
  have HCP := Lib.hid hcp; clear hcp
  have HS := Lib.hid (hs.lower (show w.heap.size + 1 ≤ w1.heap.size by omega)); clear hs
  have HR2 := Lib.hid (hon.blk HRES.out (by omega))
  have HB2 := Lib.hid (HB1.out.trans ((hon.low (Nat.le_of_lt hl1)).mono (Nat.le_succ _)))
  have HOK := Lib.hid hok; clear hok
  clear hon hd hd0
  have r0a := (blk_cl (k := 0) HR2.out rfl).1
  have r0b := (blk_cl (k := 0) HR2.out rfl).2
  have r1a := (blk_cl (k := 1) HR2.out rfl).1
  have r1b := (blk_cl (k := 1) HR2.out rfl).2
  go_wp2_with fail
  have hres := set21 (u := .slice A2 n2 c2) (set20 (u := .int .i64 v) HR2.out)
  have e0 := (blk_cl (k := 0) hres rfl).1
  have e1 := (blk_cl (k := 1) hres rfl).1
  exact bodyPost_ret (v := .agg #[.int .i64 v, .slice A2 n2 c2]) (by simp [results, Tryd.results21, go_sem, e0, e1]) rfl ⟨_, _, _, _, _, rfl, ((HS.out.setLow (Nat.lt_succ_self _)).setLow (Nat.lt_succ_self _)).lower (Nat.le_succ _), HOK.out, h1, h6, (HB2.out.setCell (p := ⟨w.heap.size, 0, none⟩) (Nat.le_refl _) _).setCell (p := ⟨w.heap.size, 1, none⟩) (Nat.le_refl _) _, (HCP.out.setPlain2 HS.out (Nat.lt_succ_self _)).setPlain2 (HS.out.setLow (Nat.lt_succ_self _)) (Nat.lt_succ_self _)⟩
end Go.Proofs.YthdfefgianokgaaDoor

/- The reference's text of a flow. -/
namespace Go.Proofs.YthdfefgianokgaaDoor
open Go.RowKit

theorem flow_step_ok {f : Flow} (h : flowB f = true) : ∀ j, j < f.steps.length → stepB (nth f.steps j) = true := fun j hj => by
  have := (flowB_iff.1 h).1 j hj
  unfold stepAt at this
  simp only [Bool.and_eq_true] at this
  exact this.1.1
theorem flow_ver {f : Flow} (h : flowB f = true) : ∃ v : Nat, f.ver = (v : Int) ∧ v < 100 := by
  have := (flowB_iff.1 h).2.1
  exact ⟨f.ver.toNat, by omega, by omega⟩
theorem dec_size {v : Nat} : (decS v).size ≤ 2 := by
  unfold decS
  split
  · show 1 ≤ 2; omega
  · rw [bsz_app]; show 1 + 1 ≤ 2; omega

set_option maxRecDepth 100000 in
set_option maxHeartbeats 1000000 in
theorem flowTextS_any (A : Option Addr) (n c : Nat) (f : Flow) (lo : Nat) (w : World) (hr : RStep w lo A n f.steps) (hok : okSteps f.steps) :
    Calls Tryd.prog 23 #[.agg #[.int .i64 f.ver, .slice A n c]] w fun e w' => e = .returned (.string (flowTextS f)) ∧ Below w.heap.size w w' := by
  have HL := Lib.hid (show f.steps.length = n from hr.1)
  have HR := Lib.hid hr; clear hr
  have HO := Lib.hid hok; clear hok
  have HX0 := Lib.hid (heap_new (w := w) (o := .cells #[.int .i64 f.ver, .slice A n c] 38) rfl)
  have HB0 := Lib.hid ((Below.refl w.heap.size w).alloc (Nat.le_refl _) (.cells #[.int .i64 f.ver, .slice A n c] 38))
  cases h : flowB f
  · have HE := Lib.hid (show flowTextS f = ⟨#[]⟩ by unfold flowTextS; rw [if_neg (by rw [h]; simp)])
    go_enter Tryd.func23, Tryd.ntmps23
    go_wp2_with fail
    refine (flowS_any _ _ _ f _ _ (HR.out.alloc _) HO.out).mono ?_
    rintro e w1 ⟨rfl, hb⟩
    rw [h]
    clear h
    go_wp2_with fail
    go_ret
    exact ⟨ret_s HE.out.symm, HB0.out.trans (hb.mono (by simp))⟩
  obtain ⟨v, hv, hv2⟩ := flow_ver h
  have HST := Lib.hid (flow_step_ok h)
  have HE := Lib.hid (show flowTextS f = linesS v f.steps n by unfold flowTextS; rw [if_pos h, HL.out, hv]; rfl)
  have hn8 : n ≤ 8 := by have := (flowB_iff.1 h).2.2.1.2; rw [HL.out] at this; exact this
  have hdz := dec_size (v := v)
  have HV := Lib.hid hv; clear hv
  go_enter Tryd.func23, Tryd.ntmps23
  go_wp2_with fail
  refine (flowS_any _ _ _ f _ _ (HR.out.alloc _) HO.out).mono ?_
  rintro e w1 ⟨rfl, hb⟩
  rw [h]
  clear h
  have HX := Lib.hid ((hb.block w.heap.size (by simp)).trans HX0.out)
  have HB := Lib.hid (HB0.out.trans (hb.mono (by simp)))
  clear hb
  rw [HV.out] at HX
  have b0 := (blk_cl (k := 0) HX.out rfl).1
  go_wp2_with fail
  refine (l6Dec_any v hv2 _).mono ?_
  rintro e w2 ⟨rfl, hb2⟩
  have HX2 := Lib.hid ((hb2.block w.heap.size (heap_lt HX.out)).trans HX.out)
  have HB2 := Lib.hid (HB.out.trans (hb2.mono HB.out.size))
  have HV2 := Lib.hid hv2
  have HH0 := Lib.hid (show Value.string (((⟨#[102, 108, 111, 119, 32]⟩ : Str) ++ decS v) ++ ⟨#[10]⟩) = .string (linesS v f.steps 0) from rfl)
  clear hb2 b0 HX HX0 HB0
  generalize decS v = dv at *
  go_wp2_with fail
  go_loopw [3, 4] (fun o i wr => ∃ k : Nat, k ≤ n ∧ i = .int .i64 (k : Int) ∧ o = .string (linesS v f.steps k) ∧ wr.heap[w.heap.size]? = some (.cells #[.int .i64 (v : Int), .slice A n c] 38 (0, 0)) ∧ Below w.heap.size w wr) (fun _ i _ => n - (intOf i).toNat)
  case atStart => exact ⟨0, Nat.zero_le _, rfl, HH0.out, HX2.out, HB2.out⟩
  case round =>
    obtain ⟨k, hk, rfl, rfl, hx, hb⟩ := hrel
    have HXR := Lib.hid hx; clear hx
    have HBR := Lib.hid hb; clear hb
    have b1 := (blk_cl (k := 1) HXR.out rfl).1
    by_cases hlt : k < n
    · obtain ⟨b, off, rfl, ⟨_, hbr⟩, hc⟩ := RStep.at_ (HR.out.below HBR.out) hlt
      obtain ⟨A', n', c', ⟨c1, c2, c3⟩, ha, _⟩ := hc k hlt
      clear hc
      have q1 := lines_size HV2.out k (fun j hj => HST.out j (by rw [HL.out]; omega))
      have q2 := (stepS_small (HST.out k (by rw [HL.out]; exact hlt))).1
      have q3 : k * 101 ≤ 8 * 101 := Nat.mul_le_mul_right _ (by omega)
      have HSB := Lib.hid (HST.out k (by rw [HL.out]; exact hlt))
      have HJ := Lib.hid (show linesS v f.steps (k + 1) = linesS v f.steps k ++ (stepS (nth f.steps k) ++ ⟨#[10]⟩) from rfl)
      go_wp2_with fail
      refine (l41Step_any _ _ _ (nth f.steps k) _ _ ha HSB.out).mono ?_
      rintro e w4 ⟨rfl, hb4⟩
      have HB4 := Lib.hid (HBR.out.trans (hb4.mono HBR.out.size))
      have HX4 := Lib.hid ((hb4.block w.heap.size (heap_lt HXR.out)).trans HXR.out)
      clear hb4
      go_wp2_with fail
      go_roundw
      case rel => exact ⟨k + 1, by omega, by go_num, by rw [HJ.out, ← ByteArray.append_assoc], HX4.out, HB4.out⟩
      case measure => simp [intOf]; omega
    · obtain rfl : k = n := by omega
      go_wp2_with fail
      go_ret
      exact ⟨ret_s HE.out.symm, HBR.out⟩
end Go.Proofs.YthdfefgianokgaaDoor

/- The program's text of a flow. -/
namespace Go.Proofs.YthdfefgianokgaaDoor
open Go.RowKit

theorem builder_below {B b : Nat} {p : Value} {bs : List Value} {w w' : World} (h : Lib.BuilderAt 67 5 B b p bs w) (hb : Below w.heap.size w w') : Lib.BuilderAt 67 5 B b p bs w' := by
  obtain ⟨h0, v, h1, h2, h3⟩ := h
  exact ⟨h0, v, (hb.block b (heap_lt h1)).trans h1, row_below h2 hb, h3⟩

set_option maxRecDepth 100000 in
set_option maxHeartbeats 1000000 in
theorem flowTextI_any (A : Option Addr) (n c : Nat) (f : Flow) (lo : Nat) (w : World) (hr : RStep w lo A n f.steps) (hok : okSteps f.steps) (hcap : CapS w A n) :
    Calls Tryd.prog 22 #[.agg #[.int .i64 f.ver, .slice A n c]] w fun e w' => e = .returned (.string (flowTextS f)) ∧ Below w.heap.size w w' := by
  have HL := Lib.hid (show f.steps.length = n from hr.1)
  have HR := Lib.hid hr; clear hr
  have HO := Lib.hid hok; clear hok
  have HC := Lib.hid hcap; clear hcap
  have HX0 := Lib.hid (heap_new (w := w) (o := .cells #[.int .i64 f.ver, .slice A n c] 38) rfl)
  have HB0 := Lib.hid ((Below.refl w.heap.size w).alloc (Nat.le_refl _) (.cells #[.int .i64 f.ver, .slice A n c] 38))
  cases h : flowB f
  · have HE := Lib.hid (show flowTextS f = ⟨#[]⟩ by unfold flowTextS; rw [if_neg (by rw [h]; simp)])
    go_enter Tryd.func22, Tryd.ntmps22
    go_wp2_with fail
    refine (flowI_any _ _ _ f _ _ (HR.out.alloc _) HO.out).mono ?_
    rintro e w1 ⟨rfl, hb⟩
    rw [h]
    clear h
    go_wp2_with fail
    go_ret
    exact ⟨ret_s HE.out.symm, HB0.out.trans (hb.mono (by simp))⟩
  obtain ⟨v, hv, hv2⟩ := flow_ver h
  have HST := Lib.hid (flow_step_ok h)
  have HE := Lib.hid (show flowTextS f = linesS v f.steps n by unfold flowTextS; rw [if_pos h, HL.out, hv]; rfl)
  have hn8 : n ≤ 8 := by have := (flowB_iff.1 h).2.2.1.2; rw [HL.out] at this; exact this
  have hdz := dec_size (v := v)
  have HV := Lib.hid hv; clear hv
  go_enter Tryd.func22, Tryd.ntmps22
  go_wp2_with fail
  refine (flowI_any _ _ _ f _ _ (HR.out.alloc _) HO.out).mono ?_
  rintro e w1 ⟨rfl, hb⟩
  rw [h]
  clear h
  have HX := Lib.hid ((hb.block w.heap.size (by simp)).trans HX0.out)
  have HB := Lib.hid (HB0.out.trans (hb.mono (by simp)))
  clear hb
  rw [HV.out] at HX
  have HX1 := Lib.hid (heap_old (o := .cells #[.pointer none, .slice none 0 0] 67) HX.out)
  have HB1 := Lib.hid (HB.out.alloc HB.out.size (.cells #[.pointer none, .slice none 0 0] 67))
  have HBU := Lib.hid (Lib.fresh_isBuilder 67 5 w1)
  have b0 := (blk_cl (k := 0) HX1.out rfl).1
  go_wp2_with fail
  refine (Tryd.strconv_Itoa_small v hv2 _).mono ?_
  rintro e w2 ⟨rfl, rfl⟩
  rw [dec_itoa v hv2]
  have HV2 := Lib.hid hv2
  have hs0 : w.heap.size ≤ w1.heap.size := HB.out.size
  go_wp2_with fail
  refine (writeString_any w1.heap.size w1.heap.size [] _ _ HBU.out (by rw [bsz_app, bsz_app]; show 0 + (5 + _ + 1) ≤ _; omega) (by simp)).mono ?_
  rintro e w3 ⟨rfl, hbu, hb3⟩
  have HX3 := Lib.hid ((hb3.block w.heap.size (heap_lt HX.out)).trans HX1.out)
  have HB3 := Lib.hid (HB1.out.trans (hb3.mono hs0))
  have HU3 := Lib.hid (show Lib.BuilderAt 67 5 w1.heap.size w1.heap.size (.pointer (some ⟨w1.heap.size, 0, none⟩)) (Lib.strCells (linesS v f.steps 0)) w3 from hbu)
  have HS3 := Lib.hid hb3.size
  clear hb3 hbu b0
  have b1 := (blk_cl (k := 1) HX3.out rfl).1
  go_wp2_with fail
  go_loopw [18] (fun i wr => ∃ k : Nat, k ≤ n ∧ i = .int .i64 (k : Int) ∧ Lib.BuilderAt 67 5 w1.heap.size w1.heap.size (.pointer (some ⟨w1.heap.size, 0, none⟩)) (Lib.strCells (linesS v f.steps k)) wr ∧ Below w.heap.size w wr ∧ w1.heap.size ≤ wr.heap.size) (fun i _ => n - (intOf i).toNat)
  case atStart => exact ⟨0, Nat.zero_le _, rfl, HU3.out, HB3.out, by have := HU3.out.lt; omega⟩
  case round =>
    obtain ⟨k, hk, rfl, hbu, hb, hsz⟩ := hrel
    have HUR := Lib.hid hbu; clear hbu
    have HBR := Lib.hid hb; clear hb
    by_cases hlt : k < n
    · obtain ⟨b, off, rfl, ⟨_, hbr⟩, hc⟩ := RStep.at_ (HR.out.below HBR.out) hlt
      obtain ⟨A', n', c', ⟨c1, c2, c3⟩, ha, _⟩ := hc k hlt
      clear hc
      have HLE := Lib.hid ((HC.out.below HBR.out).le hlt c2)
      have q1 := lines_size HV2.out k (fun j hj => HST.out j (by rw [HL.out]; omega))
      have q2 := (stepS_small (HST.out k (by rw [HL.out]; exact hlt))).1
      have q3 : k * 101 ≤ 8 * 101 := Nat.mul_le_mul_right _ (by omega)
      have HSB := Lib.hid (HST.out k (by rw [HL.out]; exact hlt))
      have HJ := Lib.hid (show linesS v f.steps (k + 1) = linesS v f.steps k ++ (stepS (nth f.steps k) ++ ⟨#[10]⟩) from rfl)
      have HA := Lib.hid (ha.alloc (.cells #[.string (nth f.steps k).name, .slice A' n' c', .bool (nth f.steps k).undo] 25)); clear ha
      have HT := Lib.hid (show textS (nth f.steps k) = stepS (nth f.steps k) by unfold textS; rw [if_pos HSB.out])
      have HBA := Lib.hid ((Below.refl wr.heap.size wr).alloc (Nat.le_refl _) (.cells #[.string (nth f.steps k).name, .slice A' n' c', .bool (nth f.steps k).undo] 25))
      go_wp2_with fail
      refine (stepTextI_any _ _ _ (nth f.steps k) _ _ HA.out (HO.out.2 k (by rw [HL.out]; exact hlt)) HLE.out).mono ?_
      rintro e w4 ⟨rfl, hb4⟩
      rw [HT.out]
      have HB4 := Lib.hid (HBA.out.trans (hb4.mono HBA.out.size)); clear hb4
      have HU4 := Lib.hid (builder_below HUR.out HB4.out)
      have hs4 : w1.heap.size ≤ w4.heap.size := by have := HB4.out.size; omega
      go_wp2_with fail
      refine (writeString_any w1.heap.size w1.heap.size _ _ _ (.inr HU4.out) (by rw [Lib.strCells_length, bsz_app]; show _ + (_ + 1) ≤ _; omega) hs4).mono ?_
      rintro e w5 ⟨rfl, hbu5, hb5⟩
      have HU5 := Lib.hid (show Lib.BuilderAt 67 5 w1.heap.size w1.heap.size (.pointer (some ⟨w1.heap.size, 0, none⟩)) (Lib.strCells (linesS v f.steps (k + 1))) w5 by rw [HJ.out, strCells_app]; exact hbu5)
      have HB5 := Lib.hid ((HBR.out.trans (HB4.out.mono HBR.out.size)).trans (hb5.mono hs0))
      have hs5 := hb5.size
      clear hbu5 hb5
      go_wp2_with fail
      go_roundw
      case rel => exact ⟨k + 1, by omega, by go_num, HU5.out, HB5.out, by omega⟩
      case measure => simp [intOf]; omega
    · obtain rfl : k = n := by omega
      go_wp2_with fail
      refine (Tryd.Builder_String_any w1.heap.size w1.heap.size (linesS v f.steps k).data.toList _ (.inr HUR.out) hsz).mono ?_
      rintro e w6 ⟨rfl, hb6⟩
      go_wp2_with fail
      go_ret
      exact ⟨ret_s HE.out.symm, HBR.out.trans (hb6.mono hs0)⟩
end Go.Proofs.YthdfefgianokgaaDoor
