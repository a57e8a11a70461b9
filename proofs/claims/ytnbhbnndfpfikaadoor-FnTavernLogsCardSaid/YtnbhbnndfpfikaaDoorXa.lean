/- What some functions of the program and of Go's library return, called with these arguments: each contract is proved for every world in which the table of powers of ten is as it was laid. -/
import Derived.Test.YtnbhbnndfpfikaaDoorProg
import Derived.Test.YtnbhbnndfpfikaaDoorShelf
import Derived.Test.YtnbhbnndfpfikaaDoorWWords
import Derived.Test.YtnbhbnndfpfikaaDoorWMore
import Derived.Shelf.SlicesE.IndexFunc
import Derived.WalkSmall
namespace Go.Proofs.YtnbhbnndfpfikaaDoor.X
open Go.RowKit Go.Proofs.YtnbhbnndfpfikaaDoorW.PrintWords Go.Proofs.YtnbhbnndfpfikaaDoorW.PrintLast Go.Proofs.YtnbhbnndfpfikaaDoorW.PrintMore
set_option linter.unusedVariables false
set_option linter.unusedSimpArgs false
def Glob (w : World) : Prop := Lib.TabIs Tryd.prog w "internal/strconv.uint64pow10" .u64 Lib.pow10Tab ∧ 3 < w.heap.size
theorem Glob.below {w w' : World} (h : Glob w) (hb : Below w.heap.size w w') : Glob w' :=
  ⟨var?_below (g := 3) hb (by kernel_rfl) h.2 h.1, Nat.lt_of_lt_of_le h.2 hb.size⟩
theorem Glob.drewN {w : World} (h : Glob w) (n : Nat) : Glob (w.drewN n) := h.below (pw_below_drewN (Below.refl _ _) n)
theorem grow_below {w : World} (k : Nat) (os : Array Obj) : Below w.heap.size w (Go.Sort.grow (w.drewN k) os) :=
  ⟨rfl, rfl, rfl, by show w.heap.size ≤ (w.heap ++ os).size; rw [Array.size_append]; omega, fun j hj => by
    show (w.heap ++ os)[j]? = w.heap[j]?
    rw [Array.getElem?_append_left hj]⟩
theorem itoa_small (n : Int) (h0 : 0 ≤ n) (h1 : n < 10) : Lib.itoa n = [UInt8.ofNat (48 + n.toNat)] := by
  obtain ⟨m, rfl⟩ := Int.eq_ofNat_of_zero_le h0
  rw [Lib.itoa_nonneg, Lib.decDigits_one (by omega)]; simp
theorem itoa_big (n : Int) (h1 : 10 ≤ n) : Lib.itoa n = Lib.itoa (n / 10) ++ Lib.itoa (n % 10) := by
  obtain ⟨m, rfl⟩ := Int.eq_ofNat_of_zero_le (show 0 ≤ n by omega)
  rw [show ((m : Int) / 10) = ((m / 10 : Nat) : Int) by omega, show ((m : Int) % 10) = ((m % 10 : Nat) : Int) by omega, Lib.itoa_nonneg, Lib.itoa_nonneg, Lib.itoa_nonneg, Lib.decDigits_one (i := m % 10) (by omega)]
  conv => lhs; rw [Lib.decDigits, dif_neg (by omega)]
theorem itoa_minus (n : Int) (h1 : 1 ≤ n) : Lib.itoa (-n) = 45 :: Lib.itoa n := by
  obtain ⟨m, rfl⟩ := Int.eq_ofNat_of_zero_le (show 0 ≤ n by omega)
  rw [Lib.itoa_neg m (by omega), Lib.itoa_nonneg]
theorem nDigits_le (k : Nat) : ∀ u, u < 10 ^ (k + 1) → Lib.nDigits u ≤ k + 1 := by
  induction k with
  | zero => intro u h; rw [Lib.nDigits, dif_pos (by simpa using h)]; omega
  | succ k ih =>
    intro u h
    rw [Lib.nDigits]
    split
    · omega
    · have := ih (u / 10) (by rw [Nat.div_lt_iff_lt_mul (by omega)]; rw [Nat.pow_succ] at h; exact h)
      omega
theorem itoa_len (n : Int) (h0 : -9223372036854775808 ≤ n) (h1 : n ≤ 9223372036854775807) : (Lib.itoa n).length ≤ 20 := by
  unfold Lib.itoa
  have hn : (10 : Nat) ^ (18 + 1) = 10000000000000000000 := by decide
  split
  · rw [List.length_cons, Lib.decDigits_length]
    have := nDigits_le 18 n.natAbs (by omega)
    omega
  · rw [Lib.decDigits_length]
    have := nDigits_le 18 n.toNat (by omega)
    omega
theorem digit_piece (n : Int) (h0 : 0 ≤ n) (h1 : n < 10) : (⟨#[48, 49, 50, 51, 52, 53, 54, 55, 56, 57]⟩ : ByteArray).extract n.toNat (n + 1).toNat = ⟨(Lib.itoa n).toArray⟩ := by
  rw [itoa_small n h0 h1]
  obtain ⟨m, rfl⟩ := Int.eq_ofNat_of_zero_le h0
  have : m = 0 ∨ m = 1 ∨ m = 2 ∨ m = 3 ∨ m = 4 ∨ m = 5 ∨ m = 6 ∨ m = 7 ∨ m = 8 ∨ m = 9 := by omega
  rcases this with rfl | rfl | rfl | rfl | rfl | rfl | rfl | rfl | rfl | rfl <;> rfl
theorem app_arr (a b : List UInt8) : (⟨a.toArray⟩ : ByteArray) ++ ⟨b.toArray⟩ = ⟨(a ++ b).toArray⟩ := by
  apply ByteArray.ext
  simp
theorem num_size (n : Int) (h0 : -9223372036854775808 ≤ n) (h1 : n ≤ 9223372036854775807) : (⟨(Lib.itoa n).toArray⟩ : ByteArray).size ≤ 20 := by
  have := itoa_len n h0 h1
  show (Lib.itoa n).toArray.size ≤ 20
  simpa using this
def numB (n : Int) : ByteArray := ⟨(Lib.itoa n).toArray⟩
theorem numB_size (n : Int) (h0 : -9223372036854775808 ≤ n) (h1 : n ≤ 9223372036854775807) : (numB n).size ≤ 20 := num_size n h0 h1
theorem numB_minus (n : Int) (h1 : 1 ≤ n) : (⟨#[45]⟩ : ByteArray) ++ numB n = numB (-n) := by
  unfold numB; rw [itoa_minus n h1]; exact app_arr [45] _
theorem numB_big (n : Int) (h1 : 10 ≤ n) : numB (n / 10) ++ numB (n % 10) = numB n := by
  unfold numB; rw [app_arr, itoa_big n h1]
theorem numB_neg (n : Int) (h1 : n ≤ -10) : numB (n.tdiv 10) ++ numB (-(n.tmod 10)) = numB n := by
  have e1 : n.tdiv 10 = -((-n) / 10) := by
    have h := Int.neg_tdiv (a := -n) (b := 10)
    rw [Int.neg_neg, Int.tdiv_eq_ediv_of_nonneg (a := -n) (by omega)] at h
    exact h
  have e2 : -(n.tmod 10) = (-n) % 10 := by
    have h := Int.neg_tmod (a := -n) (b := 10)
    rw [Int.neg_neg, Int.tmod_eq_emod_of_nonneg (a := -n) (by omega)] at h
    rw [h, Int.neg_neg]
  have h := numB_big (-n) (by omega)
  have h3 := numB_minus (-n) (by omega)
  have h4 := numB_minus ((-n) / 10) (by omega)
  rw [Int.neg_neg] at h3
  rw [e1, e2, ← h4, ← h3, ← h]
  apply ByteArray.ext
  simp
theorem tdiv_abs (n : Int) (h : n ≤ -10) : n.tdiv 10 < 0 ∧ 10 * n.tdiv 10 ≤ 9 + n ∧ n ≤ 10 * n.tdiv 10 ∧ 0 ≤ -(n.tmod 10) ∧ -(n.tmod 10) < 10 := by
  have e1 : n.tdiv 10 = -((-n) / 10) := by
    have h := Int.neg_tdiv (a := -n) (b := 10)
    rw [Int.neg_neg, Int.tdiv_eq_ediv_of_nonneg (a := -n) (by omega)] at h
    exact h
  have e2 : -(n.tmod 10) = (-n) % 10 := by
    have h := Int.neg_tmod (a := -n) (b := 10)
    rw [Int.neg_neg, Int.tmod_eq_emod_of_nonneg (a := -n) (by omega)] at h
    rw [h, Int.neg_neg]
  rw [e2, e1]
  omega
theorem ret_str {a b : ByteArray} (h : a = b) : Ending.returned (.string a) = .returned (.string b) := by rw [h]
set_option maxHeartbeats 1000000 in
set_option maxRecDepth 100000 in
theorem l1Num_any (m : Nat) : ∀ (n : Int) (w : World), 2 * n.natAbs + (if n < 0 then 1 else 0) ≤ m → -9223372036854775808 ≤ n → n ≤ 9223372036854775807 →
    Calls Tryd.prog 63 #[.int .i64 n] w fun e w' => e = .returned (.string (numB n)) ∧ ∃ k, w' = w.drewN k := by
  induction m using Nat.strongRecOn with
  | _ m ih =>
    intro n w hm h0 h1
    by_cases hneg : n < 0
    · by_cases hten : -10 < n
      · have hc := ih (m - 1) (by rw [if_pos hneg] at hm; omega) (-n) w (by rw [if_pos hneg] at hm; rw [if_neg (by omega)]; omega) (by omega) (by omega)
        have hb := numB_minus (-n) (by omega)
        rw [Int.neg_neg] at hb
        have Hb := Lib.hid hb
        have hz := numB_size (-n) (by omega) (by omega)
        have hz' : 1 + (numB (-n)).size ≤ 9223372036854775807 := by omega
        have hc' := Lib.hid hc
        clear hb ih hm hz hc
        go_enter Tryd.func63, Tryd.ntmps63
        go_wp2_with (go_at_call 63; refine (hc'.out).mono ?_; rintro e w' ⟨rfl, k, rfl⟩)
        go_ret
        exact ⟨ret_str Hb.out, _, rfl⟩
      · have hd := tdiv_abs n (by omega)
        have hc1 := fun w => ih (m - 1) (by rw [if_pos hneg] at hm; omega) (n.tdiv 10) w (by rw [if_pos hneg] at hm; rw [if_pos (by omega)]; omega) (by omega) (by omega)
        have hc2 := fun w => ih (m - 1) (by rw [if_pos hneg] at hm; omega) (-(n.tmod 10)) w (by rw [if_pos hneg] at hm; rw [if_neg (by omega)]; omega) (by omega) (by omega)
        have Hb := Lib.hid (numB_neg n (by omega))
        have hz := numB_size (n.tdiv 10) (by omega) (by omega)
        have hz2 := numB_size (-(n.tmod 10)) (by omega) (by omega)
        have hz' : (numB (n.tdiv 10)).size + (numB (-(n.tmod 10))).size ≤ 9223372036854775807 := by omega
        have hc1' := Lib.hid hc1
        have hc2' := Lib.hid hc2
        clear ih hm hc1 hc2 hz hz2
        go_enter Tryd.func63, Tryd.ntmps63
        go_wp2_with fail
        refine (hc1'.out _).mono ?_
        rintro e w' ⟨rfl, k, rfl⟩
        go_wp2_with fail
        refine (hc2'.out _).mono ?_
        rintro e w' ⟨rfl, k, rfl⟩
        go_wp2_with fail
        go_ret
        exact ⟨ret_str Hb.out, _, rfl⟩
    · by_cases hten : n < 10
      · have Hp := Lib.hid (digit_piece n (by omega) hten)
        have q0 : (0 ≤ n) = True := eq_true (by omega)
        have q1 : (n ≤ n + 1) = True := eq_true (by omega)
        have q2 : (n + 1 ≤ 10) = True := eq_true (by omega)
        clear ih hm
        go_enter Tryd.func63, Tryd.ntmps63
        go_wp2_with fail
        go_ret
        exact ⟨ret_str Hp.out, 0, rfl⟩
      · have hc1 := fun w => ih (m - 1) (by rw [if_neg hneg] at hm; omega) (n / 10) w (by rw [if_neg hneg] at hm; rw [if_neg (by omega)]; omega) (by omega) (by omega)
        have Hb := Lib.hid (numB_big n (by omega))
        have hp : (⟨#[48, 49, 50, 51, 52, 53, 54, 55, 56, 57]⟩ : ByteArray).extract (n % 10).toNat (n % 10 + 1).toNat = numB (n % 10) := digit_piece (n % 10) (by omega) (by omega)
        have hz := numB_size (n / 10) (by omega) (by omega)
        have hc1' := Lib.hid hc1
        have e1 : IntKind.i64.wrap (n.tdiv 10) = n / 10 := by rw [Int.tdiv_eq_ediv_of_nonneg (by omega)]; exact IntWalk.i64_in _ (by omega)
        have e2 : n.tmod 10 = n % 10 := Int.tmod_eq_emod_of_nonneg (by omega)
        have e3 : IntKind.i64.wrap (n % 10 + 1) = n % 10 + 1 := IntWalk.i64_in _ (by omega)
        have q0 : (0 ≤ n % 10) = True := eq_true (by omega)
        have q1 : (n % 10 ≤ n % 10 + 1) = True := eq_true (by omega)
        have q2 : (n % 10 + 1 ≤ 10) = True := eq_true (by omega)
        have hz2 := numB_size (n % 10) (by omega) (by omega)
        have Hz : (9223372036854775807 < (numB (n / 10)).size + (numB (n % 10)).size) = False := eq_false (by omega)
        have d1 : decide (n < 0) = false := decide_eq_false hneg
        have d2 : decide (n < 10) = false := decide_eq_false hten
        clear ih hm hc1 hz hz2 hneg hten h0 h1
        go_enter Tryd.func63, Tryd.ntmps63
        go_wp2_with fail
        go_quiet (first | (go_at_call 63; exact Calls.quiet_of (hc1'.out _)))
        go_wp2
        go_ret
        exact ⟨ret_str Hb.out, _, rfl⟩
theorem numB_data (n : Int) : (numB n).data.toList = Lib.itoa n := by simp [numB]
def spec_l1Num.f (a0 : Int) : Option ByteArray := if -9223372036854775808 ≤ a0 then (if a0 ≤ 9223372036854775807 then some (numB a0) else none) else none
theorem spec_l1Num.calls (a0 : Int) (r : ByteArray) (w : World) (h : spec_l1Num.f a0 = some r) :
    Calls Tryd.prog 63 #[.int .i64 a0] w fun e w' => e = .returned (.string r) ∧ Below w.heap.size w w' := by
  unfold spec_l1Num.f at h
  split at h
  · split at h
    · rename_i h0 h1
      cases h
      exact (l1Num_any _ a0 w (Nat.le_refl _) h0 h1).mono fun e w' ⟨he, k, hw⟩ => ⟨he, by rw [hw]; exact pw_below_drewN (Below.refl _ _) k⟩
    · cases h
  · cases h
def strconv_Itoa.f (a0 : Int) : Option ByteArray := if -9223372036854775808 ≤ a0 then (if a0 ≤ 9223372036854775807 then some (numB a0) else none) else none
theorem strconv_Itoa.calls (a0 : Int) (r : ByteArray) (w : World) (hG : Glob w) (h : strconv_Itoa.f a0 = some r) :
    Calls Tryd.prog 61 #[.int .i64 a0] w fun e w' => e = .returned (.string r) ∧ Below w.heap.size w w' := by
  unfold strconv_Itoa.f at h
  split at h
  · split at h
    · rename_i h0 h1
      cases h
      exact (Tryd.strconv_Itoa a0 h0 h1 w hG.1).mono fun e w' ⟨he, k, os, hw⟩ => ⟨he, by rw [hw]; exact grow_below k os⟩
    · cases h
  · cases h
def hasByte (s : ByteArray) (c : UInt8) : Bool := decide (0 ≤ Lib.indexByte s.data.toList c)
def strings_Contains.f (a0 a1 : ByteArray) : Option Bool := if a1.size = 1 then some (hasByte a0 (a1.data.toList.headD 0)) else none
theorem one_byte (a : ByteArray) (h : a.size = 1) : a = ⟨#[a.data.toList.headD 0]⟩ := by
  apply ByteArray.ext
  have h2 : a.data.toList.length = 1 := by rw [data_length]; exact h
  match hl : a.data.toList, h2 with
  | [c], _ => apply Array.toList_inj.1; rw [hl]; rfl
theorem strings_Contains.calls (a0 a1 : ByteArray) (r : Bool) (w : World) (h : strings_Contains.f a0 a1 = some r) :
    Calls Tryd.prog 69 #[.string a0, .string a1] w fun e w' => e = .returned (.bool r) ∧ Below w.heap.size w w' := by
  unfold strings_Contains.f at h
  split at h
  · rename_i h1
    cases h
    have hb := one_byte a1 h1
    generalize a1.data.toList.headD 0 = c at hb ⊢
    subst hb
    exact (Tryd.strings_Contains_one a0 c w).mono fun e w' ⟨he, hw⟩ => ⟨he, by rw [hw]; exact Below.refl _ _⟩
  · cases h
theorem indexByte_lt (s : List UInt8) (c : UInt8) : Lib.indexByte s c < s.length := by
  by_cases h : 0 ≤ Lib.indexByte s c
  · obtain ⟨o, ho⟩ := Int.eq_ofNat_of_zero_le h
    have := (Lib.indexByte_some ho).1
    have := (List.getElem?_eq_some_iff.1 this).1
    omega
  · omega
def cutB (s : ByteArray) (c : UInt8) : ByteArray × ByteArray × Bool :=
  if 0 ≤ Lib.indexByte s.data.toList c then (s.extract 0 (Lib.indexByte s.data.toList c).toNat, s.extract ((Lib.indexByte s.data.toList c).toNat + 1) s.size, true) else (s, ⟨#[]⟩, false)
set_option maxHeartbeats 1000000 in
set_option maxRecDepth 100000 in
theorem stringslite_Cut_one (s : ByteArray) (c : UInt8) (w : World) (hs : s.size ≤ 9223372036854775807) :
    Calls Tryd.prog 92 #[.string s, .string ⟨#[c]⟩] w fun e w' => e = .returned (.tuple #[.string (cutB s c).1, .string (cutB s c).2.1, .bool (cutB s c).2.2]) ∧ ∃ k, w' = w.drewN k := by
  have hc := Tryd.stringslite_Index_one s c w
  have hlt := indexByte_lt s.data.toList c
  rw [data_length] at hlt
  have hge := Lib.indexByte_ge s.data.toList c
  by_cases h : 0 ≤ Lib.indexByte s.data.toList c
  · have Hcut : Hid (cutB s c = (s.extract 0 (Lib.indexByte s.data.toList c).toNat, s.extract ((Lib.indexByte s.data.toList c).toNat + 1) s.size, true)) := by
      show cutB s c = _
      unfold cutB; rw [if_pos h]
    generalize Lib.indexByte s.data.toList c = i at *
    obtain ⟨k, rfl⟩ := Int.eq_ofNat_of_zero_le h
    have hc' := Lib.hid hc
    have e1 : IntKind.i64.wrap ((k : Int) + 1) = ((k + 1 : Nat) : Int) := IntWalk.i64_in _ (by omega)
    have q0 : (k ≤ s.size) = True := eq_true (by omega)
    have q1 : (k + 1 ≤ s.size) = True := eq_true (by omega)
    have q2 : ((0 : Int) ≤ (k : Int) + 1) = True := eq_true (by omega)
    have q3 : ((k : Int) + 1 ≤ (s.size : Int)) = True := eq_true (by omega)
    have q4 : ((k : Int) + 1).toNat = k + 1 := by omega
    clear hc hge hlt
    go_enter Tryd.func92, Tryd.ntmps92
    go_wp2_with (go_at_call 104; refine (hc'.out).mono ?_; rintro e w' ⟨rfl, rfl⟩)
    go_quiet (fail)
    go_wp2
    go_ret3
    exact ⟨by rw [Hcut.out]; rfl, _, rfl⟩
  · have Hcut : Hid (cutB s c = (s, ⟨#[]⟩, false)) := by
      show cutB s c = _
      unfold cutB; rw [if_neg h]
    generalize Lib.indexByte s.data.toList c = i at *
    have hc' := Lib.hid hc
    clear hc hge hlt
    go_enter Tryd.func92, Tryd.ntmps92
    go_wp2_with (go_at_call 104; refine (hc'.out).mono ?_; rintro e w' ⟨rfl, rfl⟩)
    go_ret3
    exact ⟨by rw [Hcut.out]; rfl, 0, rfl⟩
end Go.Proofs.YtnbhbnndfpfikaaDoor.X
