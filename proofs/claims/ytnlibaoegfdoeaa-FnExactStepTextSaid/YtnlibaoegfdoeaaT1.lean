/- Texts of steps: both. -/
import Derived.Test.YtnlibaoegfdoeaaShelf
import Derived.Test.YtnlibaoegfdoeaaF5
import Derived.Lib.Join
namespace Go.Proofs.Ytnlibaoegfdoeaa
open Go.RowKit

/-- The first k names with commas between them. -/
def jnS (xs : List Str) : Nat → Str
  | 0 => ⟨#[]⟩
  | k + 1 => (if 0 < k then jnS xs k ++ ⟨#[44]⟩ else jnS xs k) ++ nth xs k
def namesS (xs : List Str) : Str := if xs.length = 0 then ⟨#[45]⟩ else jnS xs xs.length
def stepS (s : Step) : Str := if s.undo then s.name ++ ⟨#[58]⟩ ++ namesS s.after else (s.name ++ ⟨#[58]⟩ ++ namesS s.after) ++ ⟨#[33]⟩
def textS (s : Step) : Str := if stepB s then stepS s else ⟨#[]⟩

theorem bl_app (a b : Str) : (a ++ b).data.toList = a.data.toList ++ b.data.toList := by simp
theorem bsz_app (a b : Str) : (a ++ b).size = a.size + b.size := by simp
theorem join_snoc (l : List (List UInt8)) (z sep : List UInt8) (h : l ≠ []) : Lib.join (l ++ [z]) sep = Lib.join l sep ++ sep ++ z := by
  cases l with
  | nil => exact absurd rfl h
  | cons x r =>
    rw [List.cons_append, Lib.join_cons, Lib.join_cons]
    simp [Lib.joinTail]
theorem jnS_list {xs : List Str} : ∀ k, k < xs.length → (jnS xs (k + 1)).data.toList = Lib.join ((xs.take (k + 1)).map (·.data.toList)) [44]
  | 0, h => by
    rw [take_nth h]
    show (jnS xs 0 ++ nth xs 0).data.toList = _
    rw [bl_app]
    simp [Lib.join_one, jnS]
  | k + 1, h => by
    rw [take_nth h, List.map_append]
    show ((if 0 < k + 1 then jnS xs (k + 1) ++ ⟨#[44]⟩ else jnS xs (k + 1)) ++ nth xs (k + 1)).data.toList = _
    rw [if_pos (by omega), bl_app, bl_app, jnS_list k (by omega)]
    have hne : (xs.take (k + 1)).map (·.data.toList) ≠ [] := by
      intro e
      have h2 : ((xs.take (k + 1)).map (·.data.toList)).length = 0 := by rw [e]; rfl
      rw [List.length_map, List.length_take] at h2
      omega
    show _ = Lib.join ((xs.take (k + 1)).map (·.data.toList) ++ [(nth xs (k + 1)).data.toList]) [44]
    rw [join_snoc _ _ _ hne]
theorem jnS_join {xs : List Str} (h : 0 < xs.length) : (⟨(Lib.join (xs.map (·.data.toList)) [44]).toArray⟩ : Str) = jnS xs xs.length := by
  have := jnS_list (xs := xs) (xs.length - 1) (by omega)
  rw [show xs.length - 1 + 1 = xs.length by omega, List.take_length] at this
  rw [← this]
theorem jnS_size {xs : List Str} {m : Nat} (h : ∀ j, j < xs.length → (nth xs j).size ≤ m) : ∀ k, k ≤ xs.length → (jnS xs k).size ≤ k * (m + 1)
  | 0, _ => Nat.zero_le _
  | k + 1, hk => by
    have h1 := jnS_size h k (by omega)
    have h2 := h k (by omega)
    show ((if 0 < k then jnS xs k ++ ⟨#[44]⟩ else jnS xs k) ++ nth xs k).size ≤ _
    rw [bsz_app, Nat.succ_mul]
    have h3 : (⟨#[44]⟩ : Str).size = 1 := rfl
    split
    · rw [bsz_app]; omega
    · omega

set_option maxRecDepth 100000 in
theorem namesTextI_any (A : Option Addr) (n c : Nat) (xs : List Str) (lo : Nat) (w : World) (hr : RStr w lo A n xs) (hc : n ≤ c) (hn : n ≤ 1000) (hs : ∀ j, j < n → (nth xs j).size ≤ 1000) :
    Calls Try.prog 62 #[.slice A n c] w fun e w' => e = .returned (.string (namesS xs)) ∧ Below w.heap.size w w' := by
  have HR := Lib.hid hr; clear hr
  have HS := Lib.hid hs; clear hs
  by_cases h0 : n < 1
  · have hz : ((n : Int) == 0) = true := by rw [beq_iff_eq]; omega
    have HE := Lib.hid (show namesS xs = ⟨#[45]⟩ by unfold namesS; rw [if_pos (by rw [HR.out.1]; omega)])
    go_enter Try.func62, Try.ntmps62
    go_wp2_with fail
    go_ret
    exact ⟨ret_s HE.out.symm, Below.refl _ _⟩
  · have hz : ((n : Int) == 0) = false := by rw [beq_eq_false_iff_ne]; omega
    obtain ⟨b, off, rfl, ⟨_, hb⟩, hcs⟩ := RStr.at_ HR.out (k := 0) (by omega)
    have hl := HR.out.1
    subst hl
    have HE := Lib.hid (show namesS xs = jnS xs xs.length by unfold namesS; rw [if_neg (by omega)])
    have HJ := Lib.hid (jnS_join (xs := xs) (by omega))
    have HCS : Hid (∀ (j : Nat) x, xs[j]? = some x → w.cell? ⟨b, off + j, none⟩ = some (.string x)) := fun j x hx => by
      obtain ⟨hj, e⟩ := List.getElem?_eq_some_iff.1 hx
      have := (hcs j hj).1
      rw [nth_eq hj, e] at this
      exact this
    clear hcs
    have HLEN : Hid ((Lib.join (xs.map (·.data.toList)) [44]).length ≤ 140737488355328) := by
      have h1 := jnS_size (xs := xs) (m := 1000) HS.out xs.length (Nat.le_refl _)
      rw [← HJ.out] at h1
      have h2 : xs.length * 1001 ≤ 1000 * 1001 := Nat.mul_le_mul_right _ hn
      have h3 : (⟨(Lib.join (xs.map (·.data.toList)) [44]).toArray⟩ : Str).size = (Lib.join (xs.map (·.data.toList)) [44]).length := by simp [ByteArray.size]
      rw [h3] at h1
      show _ ≤ 140737488355328
      omega
    go_enter Try.func62, Try.ntmps62
    go_wp2_with fail
    refine (Try.strings_Join b off c xs ⟨#[44]⟩ _ HCS.out hb (by omega) hc HLEN.out).mono ?_
    rintro e w1 ⟨rfl, hb1⟩
    have HB1 := Lib.hid hb1; clear hb1
    rw [show (Lib.join (xs.map (·.data.toList)) (⟨#[44]⟩ : ByteArray).data.toList) = Lib.join (xs.map (·.data.toList)) [44] from rfl, HJ.out]
    go_wp2_with fail
    go_ret
    exact ⟨ret_s HE.out.symm, HB1.out⟩

set_option maxRecDepth 100000 in
theorem l41Names_any (A : Option Addr) (n c : Nat) (xs : List Str) (lo : Nat) (w : World) (hr : RStr w lo A n xs) (hn : n ≤ 1000) (hs : ∀ j, j < n → (nth xs j).size ≤ 1000) :
    Calls Try.prog 85 #[.slice A n c] w fun e w' => e = .returned (.string (namesS xs)) ∧ w = w' := by
  have HR := Lib.hid hr; clear hr
  have HS := Lib.hid hs; clear hs
  by_cases h0 : n < 1
  · have hz : ((n : Int) == 0) = true := by rw [beq_iff_eq]; omega
    have HE := Lib.hid (show namesS xs = ⟨#[45]⟩ by unfold namesS; rw [if_pos (by rw [HR.out.1]; omega)])
    go_enter Try.func85, Try.ntmps85
    go_wp2_with fail
    go_ret
    exact ⟨ret_s HE.out.symm, rfl⟩
  · have hz : ((n : Int) == 0) = false := by rw [beq_eq_false_iff_ne]; omega
    have HE := Lib.hid (show namesS xs = jnS xs n by unfold namesS; rw [if_neg (by rw [HR.out.1]; omega), HR.out.1])
    go_enter Try.func85, Try.ntmps85
    go_wp2_with fail
    go_loop [3, 4] (fun o i => ∃ k : Nat, k ≤ n ∧ i = .int .i64 k ∧ o = .string (jnS xs k)) (fun _ i => n - (intOf i).toNat)
    case atStart => exact ⟨0, Nat.zero_le _, rfl, rfl⟩
    case round =>
      obtain ⟨k, hk, rfl, rfl⟩ := hrel
      by_cases hlt : k < n
      · obtain ⟨b, off, rfl, _, hcs⟩ := RStr.at_ HR.out hlt
        have c1 := (hcs k hlt).1
        clear hcs
        have q1 : (jnS xs k).size ≤ 1001000 := by
          have h1 := jnS_size (xs := xs) (m := 1000) (fun j hj => HS.out j (by rw [← HR.out.1]; exact hj)) k (by rw [HR.out.1]; omega)
          have h2 : k * 1001 ≤ 1000 * 1001 := Nat.mul_le_mul_right _ (by omega)
          omega
        have q2 := HS.out k hlt
        have HJ := Lib.hid (show jnS xs (k + 1) = (if 0 < k then jnS xs k ++ ⟨#[44]⟩ else jnS xs k) ++ nth xs k from rfl)
        by_cases hk0 : 0 < k
        · have hki : decide ((0 : Int) < (k : Int)) = true := by simp; omega
          have hkn : decide (0 < k) = true := by simp; omega
          go_wp2_with fail
          go_round
          case rel => exact ⟨k + 1, by omega, by go_num, by rw [HJ.out, if_pos hk0]⟩
          case measure => simp [intOf]; omega
        · have hki : decide ((0 : Int) < (k : Int)) = false := by simp; omega
          have hkn : decide (0 < k) = false := by simp; omega
          go_wp2_with fail
          go_round
          case rel => exact ⟨k + 1, by omega, by go_num, by rw [HJ.out, if_neg hk0]⟩
          case measure => simp [intOf]; omega
      · obtain rfl : k = n := by omega
        go_wp2_with fail
        go_ret
        exact ⟨ret_s HE.out.symm, rfl⟩

theorem namesS_size {xs : List Str} (h4 : xs.length ≤ 4) (h : ∀ j, j < xs.length → nameB (nth xs j) = true) : (namesS xs).size ≤ 24 := by
  unfold namesS
  split
  · show 1 ≤ 24; omega
  · have := jnS_size (xs := xs) (m := 5) (fun j hj => by
      have := h j hj
      unfold nameB at this
      simp only [Bool.and_eq_true, decide_eq_true_eq] at this
      omega) xs.length (Nat.le_refl _)
    have h2 : xs.length * (5 + 1) ≤ 4 * 6 := Nat.mul_le_mul_right _ h4
    omega
theorem nameB_size {s : Str} (h : nameB s = true) : 1 ≤ s.size ∧ s.size ≤ 5 := by
  unfold nameB at h
  simp only [Bool.and_eq_true, decide_eq_true_eq] at h
  omega
theorem stepB_sizes {s : Step} (h : stepB s = true) : s.after.length ≤ 4 ∧ (1 ≤ s.name.size ∧ s.name.size ≤ 5) ∧ ∀ j, j < s.after.length → nameB (nth s.after j) = true := by
  unfold stepB at h
  simp only [Bool.and_eq_true, decide_eq_true_eq] at h
  refine ⟨h.2, nameB_size h.1.1.2, fun j hj => ?_⟩
  have := allN_iff.1 h.1.1.1 j hj
  unfold ascAt at this
  simp only [Bool.and_eq_true] at this
  exact this.1

set_option maxRecDepth 100000 in
theorem stepTextI_any (A : Option Addr) (n c : Nat) (s : Step) (lo : Nat) (w : World) (hr : RStr w lo A n s.after) (hok : okStep s) (hc : n ≤ c) :
    Calls Try.prog 33 #[.agg #[.string s.name, .slice A n c, .bool s.undo]] w fun e w' => e = .returned (.string (textS s)) ∧ Below w.heap.size w w' := by
  have HR := Lib.hid hr; clear hr
  have HO := Lib.hid hok; clear hok
  cases h : stepB s
  · have HE := Lib.hid (show textS s = ⟨#[]⟩ by unfold textS; rw [if_neg (by rw [h]; simp)])
    go_enter Try.func33, Try.ntmps33
    go_wp2_with fail
    refine (stepI_any _ _ _ s _ _ (HR.out.alloc _) HO.out).mono ?_
    rintro e w1 ⟨rfl, hb⟩
    rw [h]
    clear h
    go_wp2_with fail
    go_ret
    exact ⟨ret_s HE.out.symm, ((Below.refl _ _).alloc (Nat.le_refl _) _).trans (hb.mono (by simp))⟩
  · have HE := Lib.hid (show textS s = stepS s by unfold textS; rw [if_pos h])
    obtain ⟨hn4, hz, hnm⟩ := stepB_sizes h
    have HNM := Lib.hid hnm; clear hnm
    have hn4' : n ≤ 4 := by rw [← HR.out.1]; exact hn4
    go_enter Try.func33, Try.ntmps33
    go_wp2_with fail
    refine (stepI_any _ _ _ s _ _ (HR.out.alloc _) HO.out).mono ?_
    rintro e w1 ⟨rfl, hb⟩
    rw [h]
    have q1 := hz.2
    have q2 := namesS_size hn4 HNM.out
    clear h hn4 hz
    have HB := Lib.hid (((Below.refl w.heap.size w).alloc (Nat.le_refl _) (.cells #[.string s.name, .slice A n c, .bool s.undo] 47)).trans (hb.mono (by simp)))
    have HX := Lib.hid ((hb.block w.heap.size (by simp)).trans (heap_new (w := w) (o := .cells #[.string s.name, .slice A n c, .bool s.undo] 47) rfl))
    clear hb
    have hwx := heap_lt HX.out
    have HNT := Lib.hid (fun x : Bl w1 => namesTextI_any A n c s.after _ x.to ((HR.out.below HB.out).below x.below) hc (by omega) (fun j hj => by have := (nameB_size (HNM.out j (by rw [HR.out.1]; exact hj))).2; omega))
    have X0 : ∀ x : Bl w1, x.to.cell? ⟨w.heap.size, 0, none⟩ = some (.string s.name) := fun x => (blk_cl (k := 0) ((x.below.block _ hwx).trans HX.out) rfl).1
    have X1 : ∀ x : Bl w1, x.to.cell? ⟨w.heap.size, 1, none⟩ = some (.slice A n c) := fun x => (blk_cl (k := 1) ((x.below.block _ hwx).trans HX.out) rfl).1
    go_wp2_with fail
    refine region_bl (by kernel_rfl) (by kernel_rfl) ?_
    repeat (go_big_quiet_step ((go_at_call 62; exact q_bl (HNT.out _))))
    refine wpQuiet_nil ?_
    intro _ hw'
    obtain ⟨x, rfl⟩ := hw'
    have x2 := (blk_cl (k := 2) ((x.below.block _ hwx).trans HX.out) rfl).1
    have HB2 := Lib.hid (HB.out.trans (x.below.mono HB.out.size))
    clear X0 X1 HNT
    cases hu : s.undo
    · have HS := Lib.hid (show stepS s = (s.name ++ ⟨#[58]⟩ ++ namesS s.after) ++ ⟨#[33]⟩ by unfold stepS; rw [if_neg (by rw [hu]; simp)])
      rw [show (#[Value.string s.name, Value.slice A n c, Value.bool s.undo] : Array Value)[2] = .bool s.undo from rfl, hu] at x2
      go_wp2_with fail
      go_ret
      exact ⟨ret_s (by rw [HE.out, HS.out]), HB2.out⟩
    · have HS := Lib.hid (show stepS s = s.name ++ ⟨#[58]⟩ ++ namesS s.after by unfold stepS; rw [if_pos hu])
      rw [show (#[Value.string s.name, Value.slice A n c, Value.bool s.undo] : Array Value)[2] = .bool s.undo from rfl, hu] at x2
      go_wp2_with fail
      go_ret
      exact ⟨ret_s (by rw [HE.out, HS.out]), HB2.out⟩

set_option maxRecDepth 100000 in
theorem l41Step_any (A : Option Addr) (n c : Nat) (s : Step) (lo : Nat) (w : World) (hr : RStr w lo A n s.after) (h : stepB s = true) :
    Calls Try.prog 64 #[.agg #[.string s.name, .slice A n c, .bool s.undo]] w fun e w' => e = .returned (.string (stepS s)) ∧ Below w.heap.size w w' := by
  have HR := Lib.hid hr; clear hr
  obtain ⟨hn4, hz, hnm⟩ := stepB_sizes h
  have q1 := hz.2
  have q2 := namesS_size hn4 hnm
  have HNM := Lib.hid hnm; clear hnm h
  have hn4' : n ≤ 4 := by rw [← HR.out.1]; exact hn4
  have HB := Lib.hid ((Below.refl w.heap.size w).alloc (Nat.le_refl _) (.cells #[.string s.name, .slice A n c, .bool s.undo] 47))
  have HX := Lib.hid (heap_new (w := w) (o := .cells #[.string s.name, .slice A n c, .bool s.undo] 47) rfl)
  have HRA := Lib.hid (HR.out.alloc (.cells #[.string s.name, .slice A n c, .bool s.undo] 47))
  go_enter Try.func64, Try.ntmps64
  go_wp2_with fail
  generalize ewk : w.alloc (.cells #[.string s.name, .slice A n c, .bool s.undo] 47) = wk at *
  have hwx := heap_lt HX.out
  have HNT := Lib.hid (fun x : Bl wk => l41Names_any A n c s.after _ x.to (HRA.out.below x.below) (by omega) (fun j hj => by have := (nameB_size (HNM.out j (by rw [HR.out.1]; exact hj))).2; omega))
  have X0 : ∀ x : Bl wk, x.to.cell? ⟨w.heap.size, 0, none⟩ = some (.string s.name) := fun x => (blk_cl (k := 0) ((x.below.block _ hwx).trans HX.out) rfl).1
  have X1 : ∀ x : Bl wk, x.to.cell? ⟨w.heap.size, 1, none⟩ = some (.slice A n c) := fun x => (blk_cl (k := 1) ((x.below.block _ hwx).trans HX.out) rfl).1
  clear ewk
  refine region_bl (by kernel_rfl) (by kernel_rfl) ?_
  repeat (go_big_quiet_step ((go_at_call 85; exact q_bl_same (HNT.out _))))
  refine wpQuiet_nil ?_
  intro _ hw'
  obtain ⟨x, rfl⟩ := hw'
  have x2 := (blk_cl (k := 2) ((x.below.block _ hwx).trans HX.out) rfl).1
  have HB2 := Lib.hid (HB.out.trans (x.below.mono HB.out.size))
  clear X0 X1 HNT
  cases hu : s.undo
  · have HS := Lib.hid (show stepS s = (s.name ++ ⟨#[58]⟩ ++ namesS s.after) ++ ⟨#[33]⟩ by unfold stepS; rw [if_neg (by rw [hu]; simp)])
    rw [show (#[Value.string s.name, Value.slice A n c, Value.bool s.undo] : Array Value)[2] = .bool s.undo from rfl, hu] at x2
    go_wp2_with fail
    go_ret
    exact ⟨ret_s (by rw [HS.out]), HB2.out⟩
  · have HS := Lib.hid (show stepS s = s.name ++ ⟨#[58]⟩ ++ namesS s.after by unfold stepS; rw [if_pos hu])
    rw [show (#[Value.string s.name, Value.slice A n c, Value.bool s.undo] : Array Value)[2] = .bool s.undo from rfl, hu] at x2
    go_wp2_with fail
    go_ret
    exact ⟨ret_s (by rw [HS.out]), HB2.out⟩

set_option maxRecDepth 100000 in
theorem stepTextS_any (A : Option Addr) (n c : Nat) (s : Step) (lo : Nat) (w : World) (hr : RStr w lo A n s.after) (hok : okStep s) :
    Calls Try.prog 34 #[.agg #[.string s.name, .slice A n c, .bool s.undo]] w fun e w' => e = .returned (.string (textS s)) ∧ Below w.heap.size w w' := by
  have HR := Lib.hid hr; clear hr
  have HO := Lib.hid hok; clear hok
  cases h : stepB s
  · have HE := Lib.hid (show textS s = ⟨#[]⟩ by unfold textS; rw [if_neg (by rw [h]; simp)])
    go_enter Try.func34, Try.ntmps34
    go_wp2_with fail
    refine (stepS_any _ _ _ s _ _ (HR.out.alloc _) HO.out).mono ?_
    rintro e w1 ⟨rfl, hb⟩
    rw [h]
    clear h
    go_wp2_with fail
    go_ret
    exact ⟨ret_s HE.out.symm, ((Below.refl _ _).alloc (Nat.le_refl _) _).trans (hb.mono (by simp))⟩
  · have HE := Lib.hid (show textS s = stepS s by unfold textS; rw [if_pos h])
    have HS := Lib.hid h
    go_enter Try.func34, Try.ntmps34
    go_wp2_with fail
    refine (stepS_any _ _ _ s _ _ (HR.out.alloc _) HO.out).mono ?_
    rintro e w1 ⟨rfl, hb⟩
    rw [h]
    clear h
    have HB := Lib.hid (((Below.refl w.heap.size w).alloc (Nat.le_refl _) (.cells #[.string s.name, .slice A n c, .bool s.undo] 47)).trans (hb.mono (by simp)))
    have HX := Lib.hid ((hb.block w.heap.size (by simp)).trans (heap_new (w := w) (o := .cells #[.string s.name, .slice A n c, .bool s.undo] 47) rfl))
    clear hb
    have b0 := (blk_cl (k := 0) HX.out rfl).1
    have b1 := (blk_cl (k := 1) HX.out rfl).1
    have b2 := (blk_cl (k := 2) HX.out rfl).1
    go_wp2_with fail
    refine (l41Step_any _ _ _ s _ _ (HR.out.below HB.out) HS.out).mono ?_
    rintro e w2 ⟨rfl, hb2⟩
    go_wp2_with fail
    go_ret
    exact ⟨ret_s HE.out.symm, HB.out.trans (hb2.mono HB.out.size)⟩
end Go.Proofs.Ytnlibaoegfdoeaa
