/- impl.ParseInt returns the number that a text is the decimal of; strconv.Atoi undoes strconv.Itoa. -/
import Derived.Test.YtnbhbnndfpfikaaDoorXa
import Derived.Test.YtnbhbnndfpfikaaDoorXp
import Derived.Lib.AtoiTie
namespace Go.Proofs.YtnbhbnndfpfikaaDoor.X
open Go.RowKit Go.Proofs.YtnbhbnndfpfikaaDoorW.PrintWords Go.Proofs.YtnbhbnndfpfikaaDoorW.PrintLast Go.Proofs.YtnbhbnndfpfikaaDoorW.PrintMore
set_option linter.unusedVariables false
set_option linter.unusedSimpArgs false

theorem digitVal_dec (d : Nat) (h : d < 10) : Lib.digitVal (UInt8.ofNat (48 + d)) = some d := by
  have : d = 0 ∨ d = 1 ∨ d = 2 ∨ d = 3 ∨ d = 4 ∨ d = 5 ∨ d = 6 ∨ d = 7 ∨ d = 8 ∨ d = 9 := by omega
  rcases this with rfl | rfl | rfl | rfl | rfl | rfl | rfl | rfl | rfl | rfl <;> rfl
theorem decFrom_app (l1 l2 : List UInt8) : ∀ acc, Lib.decFrom acc (l1 ++ l2) = (Lib.decFrom acc l1).bind fun n => Lib.decFrom n l2 := by
  induction l1 with
  | nil => intro acc; rfl
  | cons b l ih =>
    intro acc
    simp only [List.cons_append, Lib.decFrom]
    cases Lib.digitVal b with
    | none => rfl
    | some d => exact ih _
theorem decFrom_dec : ∀ (u : Nat), Lib.decFrom 0 (Lib.decDigits u) = some u := by
  intro u
  induction u using Nat.strongRecOn with
  | _ u ih =>
    rw [Lib.decDigits]
    by_cases h : u < 10
    · rw [dif_pos h]
      simp only [Lib.decFrom, digitVal_dec u h]
      simp
    · rw [dif_neg h, decFrom_app, ih (u / 10) (by omega)]
      simp only [Option.bind_some, Lib.decFrom, digitVal_dec (u % 10) (by omega)]
      congr 1; omega
theorem dec_ne (u : Nat) : ∃ d r, d < 10 ∧ Lib.decDigits u = UInt8.ofNat (48 + d) :: r := by
  induction u using Nat.strongRecOn with
  | _ u ih =>
    rw [Lib.decDigits]
    by_cases h : u < 10
    · rw [dif_pos h]; exact ⟨u, [], h, rfl⟩
    · rw [dif_neg h]
      obtain ⟨d, r, hd, e⟩ := ih (u / 10) (by omega)
      exact ⟨d, r ++ [UInt8.ofNat (48 + u % 10)], hd, by rw [e]; rfl⟩
theorem decNat_dec (u : Nat) : Lib.decNat (Lib.decDigits u) = some u := by
  obtain ⟨d, r, hd, e⟩ := dec_ne u
  unfold Lib.decNat
  rw [if_neg (by rw [e]; simp)]
  exact decFrom_dec u
theorem atoi_itoa (n : Int) : Lib.atoi (Lib.itoa n) = some n := by
  unfold Lib.itoa
  by_cases h : n < 0
  · rw [if_pos h]
    simp only [Lib.atoi, beq_self_eq_true, if_true, decNat_dec]
    simp; omega
  · rw [if_neg h]
    obtain ⟨d, r, hd, e⟩ := dec_ne n.toNat
    have h45 : (UInt8.ofNat (48 + d) == 45) = false := by
      have : d = 0 ∨ d = 1 ∨ d = 2 ∨ d = 3 ∨ d = 4 ∨ d = 5 ∨ d = 6 ∨ d = 7 ∨ d = 8 ∨ d = 9 := by omega
      rcases this with rfl | rfl | rfl | rfl | rfl | rfl | rfl | rfl | rfl | rfl <;> rfl
    have h43 : (UInt8.ofNat (48 + d) == 43) = false := by
      have : d = 0 ∨ d = 1 ∨ d = 2 ∨ d = 3 ∨ d = 4 ∨ d = 5 ∨ d = 6 ∨ d = 7 ∨ d = 8 ∨ d = 9 := by omega
      rcases this with rfl | rfl | rfl | rfl | rfl | rfl | rfl | rfl | rfl | rfl <;> rfl
    rw [e]
    simp only [Lib.atoi, h45, h43]
    rw [← e, decNat_dec]
    simp; omega

theorem atoiAll_itoa (n : Int) (h0 : -9223372036854775808 ≤ n) (h1 : n ≤ 9223372036854775807) (hl : (Lib.itoa n).length ≤ 18) : Lib.atoiAll (Lib.itoa n) = .ok n := by
  rw [Lib.atoiAll_short _ hl, atoi_itoa]
  rfl
theorem itoa_inj {n m : Int} (h : Lib.itoa n = Lib.itoa m) : n = m := by
  have := atoi_itoa n
  rw [h, atoi_itoa] at this
  exact (Option.some.inj this).symm
theorem numB_inj {n m : Int} (h : numB n = numB m) : n = m := by
  have h2 := congrArg (fun b : ByteArray => b.data.toList) h
  exact itoa_inj (by simpa [numB] using h2)
/-- The number whose decimal a text is. -/
def parseV (s : ByteArray) : Int × Bool := match Lib.atoiAll s.data.toList with
  | .ok n => if -999999 ≤ n ∧ n ≤ 999999 ∧ numB n = s then (n, true) else (0, false)
  | _ => (0, false)
theorem in_dec (n : Int) (w : World) : Calls Tryd.prog 60 #[.int .i64 n] w fun e w' => e = .returned (.bool (decide (-999999 ≤ n ∧ n ≤ 999999))) ∧ ∃ k, w' = w.drewN k := by
  have hin : ∀ (a b c : Int) (w : World), Calls Tryd.prog 75 #[.int .i64 a, .int .i64 b, .int .i64 c] w fun e w' => e = .returned (.bool (decide (b ≤ a ∧ a ≤ c))) ∧ ∃ k, w' = w.drewN k := by
    intro a b c w
    by_cases h1 : b ≤ a
    · by_cases h2 : a ≤ c
      · go_enter Tryd.func75, Tryd.ntmps75
        go_wp2
        all_goals (try go_region)
        all_goals (try go_wp2)
        all_goals go_ret
        all_goals exact ⟨by simp [h1, h2], by first | exact ⟨0, rfl⟩ | exact ⟨1, rfl⟩⟩
      · go_enter Tryd.func75, Tryd.ntmps75
        go_wp2
        all_goals (try go_region)
        all_goals (try go_wp2)
        all_goals go_ret
        all_goals exact ⟨by simp [h1, h2], by first | exact ⟨0, rfl⟩ | exact ⟨1, rfl⟩⟩
    · go_enter Tryd.func75, Tryd.ntmps75
      go_wp2
      all_goals (try go_region)
      all_goals (try go_wp2)
      all_goals go_ret
      all_goals exact ⟨by simp only [decide_eq_true_eq] <;> simp [h1] <;> intros <;> omega, by first | exact ⟨0, rfl⟩ | exact ⟨1, rfl⟩⟩
  go_enter Tryd.func60, Tryd.ntmps60
  go_wp2_with (go_at_call 75; refine (hin _ _ _ _).mono ?_; rintro e w' ⟨rfl, q, rfl⟩)
  go_ret
  exact ⟨by simp, q, rfl⟩
theorem atoi_below {w w' : World} {e : TypeId} (h : w' = w ∨ ∃ t, w' = Lib.bytesWorld w e t) : Below w.heap.size w w' := by
  rcases h with rfl | ⟨t, rfl⟩
  · exact Below.refl _ _
  · exact bytes_below (Below.refl _ w) (Nat.le_refl _) _ _
theorem toList_inj {a b : ByteArray} (h : a.toList = b.toList) : a = b := (toList_eq_iff a b).1 h
def impl_ParseInt.f (s : ByteArray) : Option (Int × Bool) := if s.size ≤ 1000000000 then some (parseV s) else none
set_option maxHeartbeats 4000000 in
theorem impl_ParseInt.calls (s : ByteArray) (r1 : Int) (r2 : Bool) (w : World) (hG : Glob w) (h : impl_ParseInt.f s = some (r1, r2)) :
    Calls Tryd.prog 27 #[.string s] w fun e w' => e = .returned (.tuple #[.int .i64 r1, .bool r2]) ∧ Below w.heap.size w w' := by
  unfold impl_ParseInt.f at h
  by_cases hs : s.size ≤ 1000000000
  case neg => rw [if_neg hs] at h; cases h
  rw [if_pos hs] at h
  have hp : parseV s = (r1, r2) := Option.some.inj h
  clear h
  unfold parseV at hp
  rcases ha : Lib.atoiAll s.data.toList with n | _ | _
  · rw [ha] at hp
    have hb := Lib.atoiAll_bounds ha
    have hcon := fun W => Tryd.strconv_Atoi_ok s (by omega) n ha W
    have hd := fun W => in_dec n W
    have Hc := Lib.hid hcon
    clear hcon ha
    by_cases hin : -999999 ≤ n ∧ n ≤ 999999
    · rw [decide_eq_true hin] at hd
      have Hd := Lib.hid hd
      have hi := fun W (hG : Glob W) => strconv_Itoa.calls n (numB n) W hG (by unfold strconv_Itoa.f; rw [if_pos hb.1, if_pos hb.2])
      have Hi := Lib.hid hi
      have HG := Lib.hid hG
      clear hd hi hG
      by_cases he : numB n = s
      · obtain ⟨rfl, rfl⟩ : n = r1 ∧ true = r2 := by simpa [hin.1, hin.2, he] using hp
        subst he
        clear hp hin
        go_enter Tryd.func27, Tryd.ntmps27
        go_wp2_with (first
          | (go_at_call 66; refine (Hc.out _).mono ?_; rintro e w1 ⟨rfl, h1⟩; have HB := Lib.hid (atoi_below h1); clear h1)
          | (go_at_call 60; refine (Hd.out _).mono ?_; rintro e w2 ⟨rfl, q, rfl⟩)
          | (go_at_call 61; refine (Hi.out _ (HG.out.below (pw_below_drewN HB.out _))).mono ?_; rintro e w3 ⟨rfl, hb3⟩; have HB3 := Lib.hid hb3; clear hb3))
        go_ret2
        exact ⟨rfl, (pw_below_drewN HB.out _).trans (HB3.out.mono (by simpa using HB.out.size))⟩
      · obtain ⟨rfl, rfl⟩ : 0 = r1 ∧ false = r2 := by simpa [hin.1, hin.2, he] using hp
        have he2 : ((numB n).toList == s.toList) = false := beq_eq_false_iff_ne.mpr (fun h => he (toList_inj h))
        clear hp hin he
        go_enter Tryd.func27, Tryd.ntmps27
        go_wp2_with (first
          | (go_at_call 66; refine (Hc.out _).mono ?_; rintro e w1 ⟨rfl, h1⟩; have HB := Lib.hid (atoi_below h1); clear h1)
          | (go_at_call 60; refine (Hd.out _).mono ?_; rintro e w2 ⟨rfl, q, rfl⟩)
          | (go_at_call 61; refine (Hi.out _ (HG.out.below (pw_below_drewN HB.out _))).mono ?_; rintro e w3 ⟨rfl, hb3⟩; have HB3 := Lib.hid hb3; clear hb3))
        go_ret2
        exact ⟨rfl, (pw_below_drewN HB.out _).trans (HB3.out.mono (by simpa using HB.out.size))⟩
    · rw [decide_eq_false hin] at hd
      have Hd := Lib.hid hd
      have hq : ¬ (-999999 ≤ n ∧ n ≤ 999999 ∧ numB n = s) := fun h => hin ⟨h.1, h.2.1⟩
      rw [show (match (Lib.NumEnd.ok n : Lib.NumEnd Int) with | .ok n => if -999999 ≤ n ∧ n ≤ 999999 ∧ numB n = s then (n, true) else ((0 : Int), false) | _ => (0, false)) = (0, false) from if_neg hq] at hp
      obtain ⟨rfl, rfl⟩ : 0 = r1 ∧ false = r2 := by simpa using hp
      clear hd hp hin hq
      go_enter Tryd.func27, Tryd.ntmps27
      go_wp2_with (first
          | (go_at_call 66; refine (Hc.out _).mono ?_; rintro e w1 ⟨rfl, h1⟩; have HB := Lib.hid (atoi_below h1); clear h1)
          | (go_at_call 60; refine (Hd.out _).mono ?_; rintro e w2 ⟨rfl, q, rfl⟩))
      go_ret2
      exact ⟨rfl, pw_below_drewN HB.out _⟩
  · rw [ha] at hp
    obtain ⟨rfl, rfl⟩ : 0 = r1 ∧ false = r2 := by simpa using hp
    obtain ⟨-, ev, h1, h2⟩ := hG.2.2.1
    have hcon := Any.strconv_Atoi_syntax Tryd.laysC172 s (by omega) ha ev w h1 h2
    change Calls Tryd.prog 66 _ _ _ at hcon
    have Hc := Lib.hid hcon
    clear hcon hp ha hG h1 h2
    go_enter Tryd.func27, Tryd.ntmps27
    go_wp2_with (go_at_call 66; refine (Hc.out).mono ?_; rintro e w' ⟨N, rfl, -, -, hb⟩)
    go_ret2
    exact ⟨rfl, hb⟩
  · rw [ha] at hp
    obtain ⟨rfl, rfl⟩ : 0 = r1 ∧ false = r2 := by simpa using hp
    obtain ⟨-, ev, h1, h2⟩ := hG.2.2.2
    have hcon := Tryd.strconv_Atoi_range s (by omega) ha ev w h1 h2
    have Hc := Lib.hid hcon
    clear hcon hp ha hG h1 h2
    go_enter Tryd.func27, Tryd.ntmps27
    go_wp2_with (go_at_call 66; refine (Hc.out).mono ?_; rintro e w' ⟨N, rfl, -, -, hb⟩)
    go_ret2
    exact ⟨rfl, hb⟩
end Go.Proofs.YtnbhbnndfpfikaaDoor.X
