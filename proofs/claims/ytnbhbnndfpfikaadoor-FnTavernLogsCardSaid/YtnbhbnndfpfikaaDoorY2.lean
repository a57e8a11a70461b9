/- What functions of the program return (each as a Lean function and its contract); written by a program of this session's over the kit's printer. -/
import Derived.Test.YtnbhbnndfpfikaaDoorY0
import Derived.Test.YtnbhbnndfpfikaaDoorXa
import Derived.Test.YtnbhbnndfpfikaaDoorXb
namespace Go.Proofs.YtnbhbnndfpfikaaDoor.X
open Go.RowKit Go.Proofs.YtnbhbnndfpfikaaDoorW.PrintWords Go.Proofs.YtnbhbnndfpfikaaDoorW.PrintLast Go.Proofs.YtnbhbnndfpfikaaDoorW.PrintMore
attribute [local go_sem] max2_int min2_int max_two min_two max_three min_three max_four min_four   -- for this text's walks alone
set_option linter.unusedVariables false
set_option linter.unusedSimpArgs false
def impl_checksum.l0 : Nat → ByteArray → Int → Int → Int → Option (Int)
  | 0, _, _, _, _ => none
  | k + 1, x0, x3, x6, x7 => if x7 < x6 then (if 0 ≤ x7 then (if x7 < (x0.size : Int) then (impl_checksum.l0 k x0 (Int.tmod (wrap64 ((wrap64 ((wrap64 (41 * x3)) + (wrap64 (bt x0 x7)))) + 1)) 999979) x6 (wrap64 (x7 + 1))) else (none)) else (none)) else (some x3)
def impl_checksum.f (k : Nat) (a0 : ByteArray) : Option (Int) := impl_checksum.l0 k a0 7 (a0.size : Int) 0
set_option maxHeartbeats 8000000 in
set_option maxRecDepth 100000 in
theorem impl_checksum.calls (k : Nat) (a0 : ByteArray) (r : Int) (w : World) (h : impl_checksum.f k a0 = some r) :
    Calls Tryd.prog 70 #[.string a0] w fun e w' => e = .returned (.int .i64 r) ∧ Drawn0 w w' := by
  have H : (impl_checksum.l0 k a0 7 (a0.size : Int) 0) = some r := h
  clear h
  have H' := zA H
  clear H
  go_enter Tryd.func70, Tryd.ntmps70
  go_wp2
  go_loopg [3, 7] k (fun kq v3 v7 w' => ∃ (x3_1 : Int) (x7_1 : Int), v3 = .int .i64 x3_1 ∧ v7 = .int .i64 x7_1 ∧ Aside0 (impl_checksum.l0 kq a0 x3_1 (a0.size : Int) x7_1 = some r) ∧ Aside0 (kq ≤ k) ∧ Drawn0 w w')
  case atStart => exact ⟨(7), (0), (by first | rfl | (simp; done) | (simp [*]; done)), (by first | rfl | (simp; done) | (simp [*]; done)), H', ⟨Nat.le_refl _⟩, by repeat (first | exact Drawn0.refl _ | apply Drawn0.step)⟩
  case round =>
    clear H'
    obtain ⟨x3_1, x7_1, rfl, rfl, HA, HK1, ⟨m1, rfl⟩⟩ := hrel
    cases gk with
    | zero => exact absurd HA.out (by simp [impl_checksum.l0])
    | succ k1 =>
      have H := HA.out
      clear HA
      simp only [impl_checksum.l0] at H
      by_cases c2 : x7_1 < (a0.size : Int)
      · rw [if_pos c2] at H
        have c2b0 : decide (x7_1 < (a0.size : Int)) = true := qE c2
        clear c2
        by_cases c3 : 0 ≤ x7_1
        · rw [if_pos c3] at H
          have c3b0 : decide (0 ≤ x7_1) = true := qE c3
          clear c3
          by_cases c4 : x7_1 < (a0.size : Int)
          · rw [if_pos c4] at H
            have c4b0 : decide (x7_1 < (a0.size : Int)) = true := qE c4
            clear c4
            have H' := zA H
            clear H
            have p5 : 0 ≤ (x7_1 : Int) := qF (by first | (with_reducible assumption) | assumption)
            have q5 : x7_1 < (a0.size : Int) := qF (by first | (with_reducible assumption) | assumption)
            have hx5 := bt_at a0 x7_1
            replace p5 := eq_true p5
            replace q5 := eq_true q5
            go_wp2
            go_roundg k1
            case measure => have := HK1.out; omega
            case rel => exact ⟨(Int.tmod (wrap64 ((wrap64 ((wrap64 (41 * x3_1)) + (wrap64 (bt a0 x7_1)))) + 1)) 999979), (wrap64 (x7_1 + 1)), (by first | rfl | (simp; done) | (simp [*]; done)), (by first | rfl | (simp; done) | (simp [*]; done)), H', ⟨by have := HK1.out; omega⟩, by repeat (first | exact Drawn0.refl _ | apply Drawn0.step)⟩
          · rw [if_neg c4] at H
            exact absurd H (by simp)
        · rw [if_neg c3] at H
          exact absurd H (by simp)
      · rw [if_neg c2] at H
        have c2b0 : decide (x7_1 < (a0.size : Int)) = false := qG c2
        clear c2
        obtain rfl := Option.some.inj H
        go_wp2
        go_ret
        exact ⟨by first | rfl | (simp; done) | (simp [*]; done), by repeat (first | exact Drawn0.refl _ | apply Drawn0.step)⟩
def impl_AppendChecksum.j0 : Nat → ByteArray → Bool → Option (ByteArray × Bool)
  | 0, _, _ => none
  | k + 1, x0, x11 => if x11 = true then (some ((⟨#[]⟩ : ByteArray), false)) else (if x0.size + 1 ≤ 9223372036854775807 then ((impl_checksum.f k x0).bind fun t102 => ((strconv_Itoa.f t102).bind fun t103 => (if x0.size + 1 + t103.size ≤ 9223372036854775807 then (if (x0.size + 1 + t103.size : Int) > 4000 then (some ((⟨#[]⟩ : ByteArray), false)) else (some ((x0 ++ (⟨#[35]⟩ : ByteArray)) ++ t103, true))) else (none)))) else (none))
def impl_AppendChecksum.f (k : Nat) (a0 : ByteArray) : Option (ByteArray × Bool) := if (a0.size : Int) > 4000 then (impl_AppendChecksum.j0 k a0 true) else ((strings_Contains.f a0 (⟨#[35]⟩ : ByteArray)).bind fun t101 => (impl_AppendChecksum.j0 k a0 t101))
set_option maxHeartbeats 8000000 in
set_option maxRecDepth 100000 in
theorem impl_AppendChecksum.calls (k : Nat) (a0 : ByteArray) (r1 : ByteArray) (r2 : Bool) (w : World) (hG : Glob w) (h : impl_AppendChecksum.f k a0 = some (r1, r2)) :
    Calls Tryd.prog 30 #[.string a0] w fun e w' => e = .returned (.tuple #[.string r1, .bool r2]) ∧ Below w.heap.size w w' := by
  have HB := zA (qO w.heap.size w)
  have H : (if (a0.size : Int) > 4000 then (impl_AppendChecksum.j0 k a0 true) else ((strings_Contains.f a0 (⟨#[35]⟩ : ByteArray)).bind fun t101 => (impl_AppendChecksum.j0 k a0 t101))) = some (r1, r2) := h
  clear h
  have HC2 := zA H
  clear H
  go_enter Tryd.func30, Tryd.ntmps30
  go_upto_region 1 with (fail)
  go_cut [11] (fun v11 wc => ∃ (kq : Nat) (x11_1 : Bool), v11 = .bool x11_1 ∧ Aside0 (impl_AppendChecksum.j0 kq a0 x11_1 = some (r1, r2)) ∧ Aside0 (kq ≤ k) ∧ Aside0 (Below w.heap.size w wc))
  case first =>
    have H := HC2.out
    clear HC2
    by_cases c3 : (a0.size : Int) > 4000
    · rw [if_pos c3] at H
      have c3b0 : decide (4000 < (a0.size : Int)) = true := qE c3
      have c3b1 : decide (4000 < a0.size) = true := qE (by omega)
      clear c3
      (first | rw [c3b0] | (simp only [i64_w, i32_w]; rw [c3b0]) | skip)
      have H' := zA H
      clear H
      go_wp2
      go_meet
      case rel => exact ⟨_, (true), (by first | rfl | (simp; done) | (simp [*]; done)), H', ⟨by first | omega | exact Nat.le_refl _⟩, ⟨by repeat (first | (with_reducible first | exact HB.out | apply zD | apply zB | apply zC) | exact HB.out)⟩⟩
    · rw [if_neg c3] at H
      have c3b0 : decide (4000 < (a0.size : Int)) = false := qG c3
      have c3b1 : decide (4000 < a0.size) = false := qG (by omega)
      clear c3
      (first | rw [c3b0] | (simp only [i64_w, i32_w]; rw [c3b0]) | skip)
      replace H := Option.bind_eq_some_iff.mp H
      obtain ⟨t101, A40, H⟩ := H
      replace H : (impl_AppendChecksum.j0 k a0 t101) = some (r1, r2) := H
      have A4 := zA A40
      clear A40
      have H' := zA H
      clear H
      go_wp2_with (first | (go_at_call 69; (with_reducible refine (strings_Contains.calls a0 (⟨#[35]⟩ : ByteArray) t101 _ A4.out).mono ?_); rintro e w5 ⟨rfl, hb⟩; have n0_ := zA (zL (by repeat (first | (with_reducible first | exact HB.out | apply zD | apply zB | apply zC) | exact HB.out)) hb); clear HB; have HB := n0_; clear n0_; (try clear hb); (try clear hb2); (try clear hk); (try clear hi)))
      go_meet
      case rel => exact ⟨_, (t101), (by first | rfl | (simp; done) | (simp [*]; done)), H', ⟨by first | omega | exact Nat.le_refl _⟩, ⟨by repeat (first | (with_reducible first | exact HB.out | apply zD | apply zB | apply zC) | exact HB.out)⟩⟩
  case rest =>
    clear HC2
    try clear p2
    try clear c3
    try clear c3b0
    try clear c3b1
    obtain ⟨kq, x11_1, rfl, HA, HJ1, HB⟩ := hcut
    cases kq with
    | zero => exact absurd HA.out (by simp [impl_AppendChecksum.j0])
    | succ kj1 =>
      have H := HA.out
      clear HA
      simp only [impl_AppendChecksum.j0] at H
      by_cases c6 : x11_1 = true
      · subst c6
        have H1 : (some ((⟨#[]⟩ : ByteArray), false)) = some (r1, r2) := by rw [if_pos rfl] at H; exact H
        clear H
        have H := H1
        clear H1
        simp only [Option.some.injEq, Prod.mk.injEq] at H
        obtain ⟨rfl, rfl⟩ := H
        go_wp2
        go_ret2
        exact ⟨by first | rfl | (simp [qH, qI] <;> rfl) | (simp [*, qH, qI] <;> rfl), by repeat (first | (with_reducible first | exact HB.out | apply zD | apply zB | apply zC) | exact HB.out)⟩
      · replace c6 := Bool.eq_false_iff.mpr c6
        subst c6
        have H1 : (if a0.size + 1 ≤ 9223372036854775807 then ((impl_checksum.f kj1 a0).bind fun t102 => ((strconv_Itoa.f t102).bind fun t103 => (if a0.size + 1 + t103.size ≤ 9223372036854775807 then (if (a0.size + 1 + t103.size : Int) > 4000 then (some ((⟨#[]⟩ : ByteArray), false)) else (some ((a0 ++ (⟨#[35]⟩ : ByteArray)) ++ t103, true))) else (none)))) else (none)) = some (r1, r2) := by rw [if_neg (show ¬ (false = true) by decide)] at H; exact H
        clear H
        have H := H1
        clear H1
        by_cases c7 : a0.size + 1 ≤ 9223372036854775807
        · rw [if_pos c7] at H
          have c7b0 := eq_true c7
          have c7b1 : decide (a0.size + 1 ≤ 9223372036854775807) = true := qE c7
          try have c7b2 : (9223372036854775807 < a0.size + 1) = False := eq_false (Nat.not_lt.2 c7)
          replace H := Option.bind_eq_some_iff.mp H
          obtain ⟨t102, A80, H⟩ := H
          replace H : ((strconv_Itoa.f t102).bind fun t103 => (if a0.size + 1 + t103.size ≤ 9223372036854775807 then (if (a0.size + 1 + t103.size : Int) > 4000 then (some ((⟨#[]⟩ : ByteArray), false)) else (some ((a0 ++ (⟨#[35]⟩ : ByteArray)) ++ t103, true))) else (none))) = some (r1, r2) := H
          have A8 := zA A80
          clear A80
          replace H := Option.bind_eq_some_iff.mp H
          obtain ⟨t103, A90, H⟩ := H
          replace H : (if a0.size + 1 + t103.size ≤ 9223372036854775807 then (if (a0.size + 1 + t103.size : Int) > 4000 then (some ((⟨#[]⟩ : ByteArray), false)) else (some ((a0 ++ (⟨#[35]⟩ : ByteArray)) ++ t103, true))) else (none)) = some (r1, r2) := H
          have A9 := zA A90
          clear A90
          by_cases c10 : a0.size + 1 + t103.size ≤ 9223372036854775807
          · rw [if_pos c10] at H
            have c10b0 := eq_true c10
            have c10b1 : decide (a0.size + 1 + t103.size ≤ 9223372036854775807) = true := qE c10
            try have c10b2 : (9223372036854775807 < a0.size + 1 + t103.size) = False := eq_false (Nat.not_lt.2 c10)
            by_cases c11 : (a0.size + 1 + t103.size : Int) > 4000
            · rw [if_pos c11] at H
              have c11b0 : decide (4000 < (a0.size + 1 + t103.size : Int)) = true := qE c11
              have c11b1 : decide (4000 < a0.size + 1 + t103.size) = true := qE (by omega)
              clear c11
              simp only [Option.some.injEq, Prod.mk.injEq] at H
              obtain ⟨rfl, rfl⟩ := H
              go_wp2_with (first | ((with_reducible refine zS (f := 70) rfl ?_); refine qW (some 15) rfl rfl Tryd.func70 (by kernel_rfl) rfl #[.string a0] rfl (by (try simp only [List.map_toArray, List.map_cons, List.map_nil]); first | done | rfl | (simp only [qN, qM]; rfl)) ?_; (with_reducible refine (impl_checksum.calls kj1 a0 t102 _ A8.out).mono ?_); rintro e w' ⟨rfl, ⟨nd, rfl⟩⟩; refine ⟨_, rfl, ?_⟩) | ((with_reducible refine zS (f := 61) rfl ?_); refine qW (some 16) rfl rfl Tryd.func61 (by kernel_rfl) rfl #[.int .i64 t102] rfl (by (try simp only [List.map_toArray, List.map_cons, List.map_nil]); first | done | rfl | (simp only [qN, qM]; rfl)) ?_; (with_reducible refine (strconv_Itoa.calls t102 t103 _ ?side1 A9.out).mono ?_); (case side1 => exact Glob.below hG (by repeat (first | (with_reducible first | exact HB.out | apply zD | apply zB | apply zC) | exact HB.out))); rintro e w12 ⟨rfl, hb⟩; refine ⟨_, rfl, ?_⟩; have n0_ := zA (zL (by repeat (first | (with_reducible first | exact HB.out | apply zD | apply zB | apply zC) | exact HB.out)) hb); clear HB; have HB := n0_; clear n0_; (try clear hb); (try clear hb2); (try clear hk); (try clear hi)))
              go_ret2
              exact ⟨by first | rfl | (simp [qH, qI] <;> rfl) | (simp [*, qH, qI] <;> rfl), by repeat (first | (with_reducible first | exact HB.out | apply zD | apply zB | apply zC) | exact HB.out)⟩
            · rw [if_neg c11] at H
              have c11b0 : decide (4000 < (a0.size + 1 + t103.size : Int)) = false := qG c11
              have c11b1 : decide (4000 < a0.size + 1 + t103.size) = false := qG (by omega)
              clear c11
              simp only [Option.some.injEq, Prod.mk.injEq] at H
              obtain ⟨rfl, rfl⟩ := H
              go_wp2_with (first | ((with_reducible refine zS (f := 70) rfl ?_); refine qW (some 15) rfl rfl Tryd.func70 (by kernel_rfl) rfl #[.string a0] rfl (by (try simp only [List.map_toArray, List.map_cons, List.map_nil]); first | done | rfl | (simp only [qN, qM]; rfl)) ?_; (with_reducible refine (impl_checksum.calls kj1 a0 t102 _ A8.out).mono ?_); rintro e w' ⟨rfl, ⟨nd, rfl⟩⟩; refine ⟨_, rfl, ?_⟩) | ((with_reducible refine zS (f := 61) rfl ?_); refine qW (some 16) rfl rfl Tryd.func61 (by kernel_rfl) rfl #[.int .i64 t102] rfl (by (try simp only [List.map_toArray, List.map_cons, List.map_nil]); first | done | rfl | (simp only [qN, qM]; rfl)) ?_; (with_reducible refine (strconv_Itoa.calls t102 t103 _ ?side1 A9.out).mono ?_); (case side1 => exact Glob.below hG (by repeat (first | (with_reducible first | exact HB.out | apply zD | apply zB | apply zC) | exact HB.out))); rintro e w13 ⟨rfl, hb⟩; refine ⟨_, rfl, ?_⟩; have n0_ := zA (zL (by repeat (first | (with_reducible first | exact HB.out | apply zD | apply zB | apply zC) | exact HB.out)) hb); clear HB; have HB := n0_; clear n0_; (try clear hb); (try clear hb2); (try clear hk); (try clear hi)))
              go_ret2
              exact ⟨by first | rfl | (simp [qH, qI] <;> rfl) | (simp [*, qH, qI] <;> rfl), by repeat (first | (with_reducible first | exact HB.out | apply zD | apply zB | apply zC) | exact HB.out)⟩
          · rw [if_neg c10] at H
            exact absurd H (by simp)
        · rw [if_neg c7] at H
          exact absurd H (by simp)
def impl_within.f (a0 : Int) (a1 : Int) (a2 : Int) : Option (Bool) := if a1 ≤ a0 then (some (decide (a0 ≤ a2))) else (some false)
set_option maxHeartbeats 8000000 in
set_option maxRecDepth 100000 in
theorem impl_within.calls (a0 : Int) (a1 : Int) (a2 : Int) (r : Bool) (w : World) (h : impl_within.f a0 a1 a2 = some r) :
    Calls Tryd.prog 75 #[.int .i64 a0, .int .i64 a1, .int .i64 a2] w fun e w' => e = .returned (.bool r) ∧ Drawn0 w w' := by
  have H : (if a1 ≤ a0 then (some (decide (a0 ≤ a2))) else (some false)) = some r := h
  clear h
  by_cases c4 : a1 ≤ a0
  · rw [if_pos c4] at H
    have c4b0 : decide (a1 ≤ a0) = true := qE c4
    clear c4
    obtain rfl := Option.some.inj H
    go_enter Tryd.func75, Tryd.ntmps75
    go_wp2
    go_ret
    exact ⟨by first | rfl | (simp; done) | (simp [*]; done), by repeat (first | exact Drawn0.refl _ | apply Drawn0.step)⟩
  · rw [if_neg c4] at H
    have c4b0 : decide (a1 ≤ a0) = false := qG c4
    clear c4
    obtain rfl := Option.some.inj H
    go_enter Tryd.func75, Tryd.ntmps75
    go_wp2
    go_ret
    exact ⟨by first | rfl | (simp; done) | (simp [*]; done), by repeat (first | exact Drawn0.refl _ | apply Drawn0.step)⟩
def impl_isCommand.f (a0 : ByteArray) : Option (Bool) := (impl_within.f (a0.size : Int) 1 160).bind fun t104 => (if t104 = true then ((impl_isPrinted.f a0).bind fun t105 => (if t105 = true then ((strings_Contains.f a0 (⟨#[64]⟩ : ByteArray)).bind fun t106 => (some (!t106))) else (some false))) else (some false))
set_option maxHeartbeats 8000000 in
set_option maxRecDepth 100000 in
theorem impl_isCommand.calls (a0 : ByteArray) (r : Bool) (w : World) (h : impl_isCommand.f a0 = some r) :
    Calls Tryd.prog 76 #[.string a0] w fun e w' => e = .returned (.bool r) ∧ Below w.heap.size w w' := by
  have HB := zA (qO w.heap.size w)
  have H : ((impl_within.f (a0.size : Int) 1 160).bind fun t104 => (if t104 = true then ((impl_isPrinted.f a0).bind fun t105 => (if t105 = true then ((strings_Contains.f a0 (⟨#[64]⟩ : ByteArray)).bind fun t106 => (some (!t106))) else (some false))) else (some false))) = some r := h
  clear h
  replace H := Option.bind_eq_some_iff.mp H
  obtain ⟨t104, A20, H⟩ := H
  replace H : (if t104 = true then ((impl_isPrinted.f a0).bind fun t105 => (if t105 = true then ((strings_Contains.f a0 (⟨#[64]⟩ : ByteArray)).bind fun t106 => (some (!t106))) else (some false))) else (some false)) = some r := H
  have A2 := zA A20
  clear A20
  by_cases c3 : t104 = true
  · subst c3
    have H1 : ((impl_isPrinted.f a0).bind fun t105 => (if t105 = true then ((strings_Contains.f a0 (⟨#[64]⟩ : ByteArray)).bind fun t106 => (some (!t106))) else (some false))) = some r := by rw [if_pos rfl] at H; exact H
    clear H
    have H := H1
    clear H1
    replace H := Option.bind_eq_some_iff.mp H
    obtain ⟨t105, A40, H⟩ := H
    replace H : (if t105 = true then ((strings_Contains.f a0 (⟨#[64]⟩ : ByteArray)).bind fun t106 => (some (!t106))) else (some false)) = some r := H
    have A4 := zA A40
    clear A40
    by_cases c5 : t105 = true
    · subst c5
      have H1 : ((strings_Contains.f a0 (⟨#[64]⟩ : ByteArray)).bind fun t106 => (some (!t106))) = some r := by rw [if_pos rfl] at H; exact H
      clear H
      have H := H1
      clear H1
      replace H := Option.bind_eq_some_iff.mp H
      obtain ⟨t106, A60, H⟩ := H
      replace H : (some (!t106)) = some r := H
      have A6 := zA A60
      clear A60
      obtain rfl := Option.some.inj H
      go_enter Tryd.func76, Tryd.ntmps76
      go_wp2_with (first | ((with_reducible refine zS (f := 75) rfl ?_); refine qW (some 5) rfl rfl Tryd.func75 (by kernel_rfl) rfl #[.int .i64 (a0.size : Int), .int .i64 1, .int .i64 160] rfl (by (try simp only [List.map_toArray, List.map_cons, List.map_nil]); first | done | rfl | (simp only [qN, qM]; rfl)) ?_; (with_reducible refine (impl_within.calls (a0.size : Int) 1 160 true _ A2.out).mono ?_); rintro e w' ⟨rfl, ⟨nd, rfl⟩⟩; refine ⟨_, rfl, ?_⟩) | (go_at_call 77; (with_reducible refine (impl_isPrinted.calls a0 true _ A4.out).mono ?_); rintro e w7 ⟨rfl, hb⟩; have n0_ := zA (zL (by repeat (first | (with_reducible first | exact HB.out | apply zD | apply zB | apply zC) | exact HB.out)) hb); clear HB; have HB := n0_; clear n0_; (try clear hb); (try clear hb2); (try clear hk); (try clear hi)) | (go_at_call 69; (with_reducible refine (strings_Contains.calls a0 (⟨#[64]⟩ : ByteArray) t106 _ A6.out).mono ?_); rintro e w8 ⟨rfl, hb⟩; have n0_ := zA (zL (by repeat (first | (with_reducible first | exact HB.out | apply zD | apply zB | apply zC) | exact HB.out)) hb); clear HB; have HB := n0_; clear n0_; (try clear hb); (try clear hb2); (try clear hk); (try clear hi)))
      go_ret
      exact ⟨by first | rfl | (simp [qH, qI] <;> rfl) | (simp [*, qH, qI] <;> rfl), by repeat (first | (with_reducible first | exact HB.out | apply zD | apply zB | apply zC) | exact HB.out)⟩
    · replace c5 := Bool.eq_false_iff.mpr c5
      subst c5
      have H1 : (some false) = some r := by rw [if_neg (show ¬ (false = true) by decide)] at H; exact H
      clear H
      have H := H1
      clear H1
      obtain rfl := Option.some.inj H
      go_enter Tryd.func76, Tryd.ntmps76
      go_wp2_with (first | ((with_reducible refine zS (f := 75) rfl ?_); refine qW (some 5) rfl rfl Tryd.func75 (by kernel_rfl) rfl #[.int .i64 (a0.size : Int), .int .i64 1, .int .i64 160] rfl (by (try simp only [List.map_toArray, List.map_cons, List.map_nil]); first | done | rfl | (simp only [qN, qM]; rfl)) ?_; (with_reducible refine (impl_within.calls (a0.size : Int) 1 160 true _ A2.out).mono ?_); rintro e w' ⟨rfl, ⟨nd, rfl⟩⟩; refine ⟨_, rfl, ?_⟩) | (go_at_call 77; (with_reducible refine (impl_isPrinted.calls a0 false _ A4.out).mono ?_); rintro e w9 ⟨rfl, hb⟩; have n0_ := zA (zL (by repeat (first | (with_reducible first | exact HB.out | apply zD | apply zB | apply zC) | exact HB.out)) hb); clear HB; have HB := n0_; clear n0_; (try clear hb); (try clear hb2); (try clear hk); (try clear hi)))
      go_ret
      exact ⟨by first | rfl | (simp [qH, qI] <;> rfl) | (simp [*, qH, qI] <;> rfl), by repeat (first | (with_reducible first | exact HB.out | apply zD | apply zB | apply zC) | exact HB.out)⟩
  · replace c3 := Bool.eq_false_iff.mpr c3
    subst c3
    have H1 : (some false) = some r := by rw [if_neg (show ¬ (false = true) by decide)] at H; exact H
    clear H
    have H := H1
    clear H1
    obtain rfl := Option.some.inj H
    go_enter Tryd.func76, Tryd.ntmps76
    go_wp2_with (first | ((with_reducible refine zS (f := 75) rfl ?_); refine qW (some 5) rfl rfl Tryd.func75 (by kernel_rfl) rfl #[.int .i64 (a0.size : Int), .int .i64 1, .int .i64 160] rfl (by (try simp only [List.map_toArray, List.map_cons, List.map_nil]); first | done | rfl | (simp only [qN, qM]; rfl)) ?_; (with_reducible refine (impl_within.calls (a0.size : Int) 1 160 false _ A2.out).mono ?_); rintro e w' ⟨rfl, ⟨nd, rfl⟩⟩; refine ⟨_, rfl, ?_⟩))
    go_ret
    exact ⟨by first | rfl | (simp [qH, qI] <;> rfl) | (simp [*, qH, qI] <;> rfl), by repeat (first | (with_reducible first | exact HB.out | apply zD | apply zB | apply zC) | exact HB.out)⟩
def impl_IsValidRecord.f (a0_0 : ByteArray) (a0_1 : ByteArray) : Option (Bool) := (impl_isCommand.f a0_0).bind fun t108 => (if t108 = true then (if (a0_1.size : Int) ≤ 250 then ((impl_isPrinted.f a0_1).bind fun t109 => (some t109)) else (some false)) else (some false))
set_option maxHeartbeats 8000000 in
set_option maxRecDepth 100000 in
theorem impl_IsValidRecord.calls (a0_0 : ByteArray) (a0_1 : ByteArray) (r : Bool) (w : World) (h : impl_IsValidRecord.f a0_0 a0_1 = some r) :
    Calls Tryd.prog 40 #[.agg #[.string a0_0, .string a0_1]] w fun e w' => e = .returned (.bool r) ∧ Below w.heap.size w w' := by
  have hu36 := Tryd.underlying36
  have HB := zA (qO w.heap.size w)
  have H : ((impl_isCommand.f a0_0).bind fun t108 => (if t108 = true then (if (a0_1.size : Int) ≤ 250 then ((impl_isPrinted.f a0_1).bind fun t109 => (some t109)) else (some false)) else (some false))) = some r := h
  clear h
  replace H := Option.bind_eq_some_iff.mp H
  obtain ⟨t108, A20, H⟩ := H
  replace H : (if t108 = true then (if (a0_1.size : Int) ≤ 250 then ((impl_isPrinted.f a0_1).bind fun t109 => (some t109)) else (some false)) else (some false)) = some r := H
  have A2 := zA A20
  clear A20
  by_cases c3 : t108 = true
  · subst c3
    have H1 : (if (a0_1.size : Int) ≤ 250 then ((impl_isPrinted.f a0_1).bind fun t109 => (some t109)) else (some false)) = some r := by rw [if_pos rfl] at H; exact H
    clear H
    have H := H1
    clear H1
    by_cases c4 : (a0_1.size : Int) ≤ 250
    · rw [if_pos c4] at H
      have c4b0 : decide ((a0_1.size : Int) ≤ 250) = true := qE c4
      have c4b1 : decide (a0_1.size ≤ 250) = true := qE (by omega)
      clear c4
      replace H := Option.bind_eq_some_iff.mp H
      obtain ⟨t109, A50, H⟩ := H
      replace H : (some t109) = some r := H
      have A5 := zA A50
      clear A50
      obtain rfl := Option.some.inj H
      go_enter Tryd.func40, Tryd.ntmps40
      go_wp2_with (first | ((with_reducible refine zZ (N := 1) rfl ?_); (try (refine gate_guard (by rfl) ?_; dsimp only)); refine zY ?hg (N := 1) ?hd (cs := #[.string a0_0, .string a0_1]) (t := 36) ?hr ?_; (case hd => rfl); (case hg => rfl); (case hr => first | (go_simp; done) | (go_simp; rfl)); intro gb107 hg w6 hbox hb; have n0_ := zA (zL (by repeat (first | (with_reducible first | exact HB.out | apply zD | apply zB | apply zC) | exact HB.out)) hb); have n1_ := zA (hbox); have n2_ := zA ((by rw [hg]; exact (zK (by repeat (first | (with_reducible first | exact HB.out | apply zD | apply zB | apply zC) | exact HB.out))) : w.heap.size ≤ gb107)); have n3_ := zA ((by rw [hg]; exact (zK (by repeat (first | (with_reducible first | exact HB.out | apply zD | apply zB | apply zC) | exact HB.out))) : w.heap.size ≤ gb107)); clear HB; have HB := n0_; have BK107 := n1_; have GW107 := n2_; have GE107 := n3_; clear n0_ n1_ n2_ n3_; clear hb hbox hg; have hcz7_0 : w6.cell? ⟨gb107, 0, none⟩ = some (.string a0_0) := (zJ BK107.out 0).trans rfl; have hcz7_1 : w6.cell? ⟨gb107, 1, none⟩ = some (.string a0_1) := (zJ BK107.out 1).trans rfl; have hfz7_0 := zI BK107.out 0; have hfz7_1 := zI BK107.out 1) | ((with_reducible refine zS (f := 76) rfl ?_); refine qW (some 5) rfl rfl Tryd.func76 (by kernel_rfl) rfl #[.string a0_0] rfl (by (try simp only [List.map_toArray, List.map_cons, List.map_nil]); first | done | rfl | (simp only [qN, qM]; rfl)) ?_; (with_reducible refine (impl_isCommand.calls a0_0 true _ A2.out).mono ?_); rintro e w8 ⟨rfl, hb⟩; refine ⟨_, rfl, ?_⟩; have n0_ := zA (zR (g := gb107) (o := .cells #[.string a0_0, .string a0_1] 36 (0, 0)) (by (with_reducible repeat (first | refine zF ?_ _ | refine zH ?_ | refine zG ?_ _)); exact BK107.out) hb); have n1_ := zA (zL (by repeat (first | (with_reducible first | exact HB.out | apply zD | apply zB | apply zC | refine zE ?_ GE107.out) | exact HB.out)) hb); clear BK107; clear HB; have BK107 := n0_; have HB := n1_; clear n0_ n1_; (try clear hb); (try clear hb2); (try clear hk); (try clear hi); have hcz9_0 : w8.cell? ⟨gb107, 0, none⟩ = some (.string a0_0) := (zJ BK107.out 0).trans rfl; have hcz9_1 : w8.cell? ⟨gb107, 1, none⟩ = some (.string a0_1) := (zJ BK107.out 1).trans rfl; have hfz9_0 := zI BK107.out 0; have hfz9_1 := zI BK107.out 1) | (go_at_call 77; (with_reducible refine (impl_isPrinted.calls a0_1 t109 _ A5.out).mono ?_); rintro e w10 ⟨rfl, hb⟩; have n0_ := zA (zR (g := gb107) (o := .cells #[.string a0_0, .string a0_1] 36 (0, 0)) (by (with_reducible repeat (first | refine zF ?_ _ | refine zH ?_ | refine zG ?_ _)); exact BK107.out) hb); have n1_ := zA (zL (by repeat (first | (with_reducible first | exact HB.out | apply zD | apply zB | apply zC | refine zE ?_ GE107.out) | exact HB.out)) hb); clear BK107; clear HB; have BK107 := n0_; have HB := n1_; clear n0_ n1_; (try clear hb); (try clear hb2); (try clear hk); (try clear hi)))
      go_ret
      exact ⟨by first | rfl | (simp [qH, qI] <;> rfl) | (simp [*, qH, qI] <;> rfl), by repeat (first | (with_reducible first | exact HB.out | apply zD | apply zB | apply zC | refine zE ?_ GE107.out) | exact HB.out)⟩
    · rw [if_neg c4] at H
      have c4b0 : decide ((a0_1.size : Int) ≤ 250) = false := qG c4
      have c4b1 : decide (a0_1.size ≤ 250) = false := qG (by omega)
      clear c4
      obtain rfl := Option.some.inj H
      go_enter Tryd.func40, Tryd.ntmps40
      go_wp2_with (first | ((with_reducible refine zZ (N := 1) rfl ?_); (try (refine gate_guard (by rfl) ?_; dsimp only)); refine zY ?hg (N := 1) ?hd (cs := #[.string a0_0, .string a0_1]) (t := 36) ?hr ?_; (case hd => rfl); (case hg => rfl); (case hr => first | (go_simp; done) | (go_simp; rfl)); intro gb107 hg w11 hbox hb; have n0_ := zA (zL (by repeat (first | (with_reducible first | exact HB.out | apply zD | apply zB | apply zC) | exact HB.out)) hb); have n1_ := zA (hbox); have n2_ := zA ((by rw [hg]; exact (zK (by repeat (first | (with_reducible first | exact HB.out | apply zD | apply zB | apply zC) | exact HB.out))) : w.heap.size ≤ gb107)); have n3_ := zA ((by rw [hg]; exact (zK (by repeat (first | (with_reducible first | exact HB.out | apply zD | apply zB | apply zC) | exact HB.out))) : w.heap.size ≤ gb107)); clear HB; have HB := n0_; have BK107 := n1_; have GW107 := n2_; have GE107 := n3_; clear n0_ n1_ n2_ n3_; clear hb hbox hg; have hcz12_0 : w11.cell? ⟨gb107, 0, none⟩ = some (.string a0_0) := (zJ BK107.out 0).trans rfl; have hcz12_1 : w11.cell? ⟨gb107, 1, none⟩ = some (.string a0_1) := (zJ BK107.out 1).trans rfl; have hfz12_0 := zI BK107.out 0; have hfz12_1 := zI BK107.out 1) | ((with_reducible refine zS (f := 76) rfl ?_); refine qW (some 5) rfl rfl Tryd.func76 (by kernel_rfl) rfl #[.string a0_0] rfl (by (try simp only [List.map_toArray, List.map_cons, List.map_nil]); first | done | rfl | (simp only [qN, qM]; rfl)) ?_; (with_reducible refine (impl_isCommand.calls a0_0 true _ A2.out).mono ?_); rintro e w13 ⟨rfl, hb⟩; refine ⟨_, rfl, ?_⟩; have n0_ := zA (zR (g := gb107) (o := .cells #[.string a0_0, .string a0_1] 36 (0, 0)) (by (with_reducible repeat (first | refine zF ?_ _ | refine zH ?_ | refine zG ?_ _)); exact BK107.out) hb); have n1_ := zA (zL (by repeat (first | (with_reducible first | exact HB.out | apply zD | apply zB | apply zC | refine zE ?_ GE107.out) | exact HB.out)) hb); clear BK107; clear HB; have BK107 := n0_; have HB := n1_; clear n0_ n1_; (try clear hb); (try clear hb2); (try clear hk); (try clear hi); have hcz14_0 : w13.cell? ⟨gb107, 0, none⟩ = some (.string a0_0) := (zJ BK107.out 0).trans rfl; have hcz14_1 : w13.cell? ⟨gb107, 1, none⟩ = some (.string a0_1) := (zJ BK107.out 1).trans rfl; have hfz14_0 := zI BK107.out 0; have hfz14_1 := zI BK107.out 1))
      go_ret
      exact ⟨by first | rfl | (simp [qH, qI] <;> rfl) | (simp [*, qH, qI] <;> rfl), by repeat (first | (with_reducible first | exact HB.out | apply zD | apply zB | apply zC | refine zE ?_ GE107.out) | exact HB.out)⟩
  · replace c3 := Bool.eq_false_iff.mpr c3
    subst c3
    have H1 : (some false) = some r := by rw [if_neg (show ¬ (false = true) by decide)] at H; exact H
    clear H
    have H := H1
    clear H1
    obtain rfl := Option.some.inj H
    go_enter Tryd.func40, Tryd.ntmps40
    go_wp2_with (first | ((with_reducible refine zZ (N := 1) rfl ?_); (try (refine gate_guard (by rfl) ?_; dsimp only)); refine zY ?hg (N := 1) ?hd (cs := #[.string a0_0, .string a0_1]) (t := 36) ?hr ?_; (case hd => rfl); (case hg => rfl); (case hr => first | (go_simp; done) | (go_simp; rfl)); intro gb107 hg w15 hbox hb; have n0_ := zA (zL (by repeat (first | (with_reducible first | exact HB.out | apply zD | apply zB | apply zC) | exact HB.out)) hb); have n1_ := zA (hbox); have n2_ := zA ((by rw [hg]; exact (zK (by repeat (first | (with_reducible first | exact HB.out | apply zD | apply zB | apply zC) | exact HB.out))) : w.heap.size ≤ gb107)); have n3_ := zA ((by rw [hg]; exact (zK (by repeat (first | (with_reducible first | exact HB.out | apply zD | apply zB | apply zC) | exact HB.out))) : w.heap.size ≤ gb107)); clear HB; have HB := n0_; have BK107 := n1_; have GW107 := n2_; have GE107 := n3_; clear n0_ n1_ n2_ n3_; clear hb hbox hg; have hcz16_0 : w15.cell? ⟨gb107, 0, none⟩ = some (.string a0_0) := (zJ BK107.out 0).trans rfl; have hcz16_1 : w15.cell? ⟨gb107, 1, none⟩ = some (.string a0_1) := (zJ BK107.out 1).trans rfl; have hfz16_0 := zI BK107.out 0; have hfz16_1 := zI BK107.out 1) | ((with_reducible refine zS (f := 76) rfl ?_); refine qW (some 5) rfl rfl Tryd.func76 (by kernel_rfl) rfl #[.string a0_0] rfl (by (try simp only [List.map_toArray, List.map_cons, List.map_nil]); first | done | rfl | (simp only [qN, qM]; rfl)) ?_; (with_reducible refine (impl_isCommand.calls a0_0 false _ A2.out).mono ?_); rintro e w17 ⟨rfl, hb⟩; refine ⟨_, rfl, ?_⟩; have n0_ := zA (zR (g := gb107) (o := .cells #[.string a0_0, .string a0_1] 36 (0, 0)) (by (with_reducible repeat (first | refine zF ?_ _ | refine zH ?_ | refine zG ?_ _)); exact BK107.out) hb); have n1_ := zA (zL (by repeat (first | (with_reducible first | exact HB.out | apply zD | apply zB | apply zC | refine zE ?_ GE107.out) | exact HB.out)) hb); clear BK107; clear HB; have BK107 := n0_; have HB := n1_; clear n0_ n1_; (try clear hb); (try clear hb2); (try clear hk); (try clear hi)))
    go_ret
    exact ⟨by first | rfl | (simp [qH, qI] <;> rfl) | (simp [*, qH, qI] <;> rfl), by repeat (first | (with_reducible first | exact HB.out | apply zD | apply zB | apply zC | refine zE ?_ GE107.out) | exact HB.out)⟩
end Go.Proofs.YtnbhbnndfpfikaaDoor.X
