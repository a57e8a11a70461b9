/- What functions of the program return (each as a Lean function and its contract); written by a program of this session's over the kit's printer. -/
import Derived.Test.YtnlcaihcnlpbpaaGreatDoorY0
import Derived.Test.YtnlcaihcnlpbpaaGreatDoorY3
import Derived.Test.YtnlcaihcnlpbpaaGreatDoorXa
namespace Go.Proofs.YtnlcaihcnlpbpaaGreatDoor.X
open Go.RowKit Go.Proofs.YtnlcaihcnlpbpaaGreatDoorW.PrintWords Go.Proofs.YtnlcaihcnlpbpaaGreatDoorW.PrintLast Go.Proofs.YtnlcaihcnlpbpaaGreatDoorW.PrintMore
attribute [local go_sem] max2_int min2_int max_two min_two max_three min_three max_four min_four   -- for this text's walks alone
set_option linter.unusedVariables false
set_option linter.unusedSimpArgs false

/-! ### spec_l1Sum: function 66 -/
def spec_l1Sum.l0 : Nat → ByteArray → Int → Int → Option (Int)
  | 0, _, _, _ => none
  | k + 1, x0, x3, x4 => if x4 < (x0.size : Int) then (if 0 ≤ x4 then (spec_l1Sum.l0 k x0 (Int.tmod (wrap64 ((wrap64 ((wrap64 (41 * x3)) + (wrap64 (bt x0 x4)))) + 1)) 999979) (wrap64 (x4 + 1))) else (none)) else (some x3)
def spec_l1Sum.f (k : Nat) (a0 : ByteArray) : Option (Int) := spec_l1Sum.l0 k a0 7 0
theorem spec_l1Sum.mono_l : ∀ k, (∀ y0 y1 y2, LeO (spec_l1Sum.l0 k y0 y1 y2) (spec_l1Sum.l0 (k + 1) y0 y1 y2))
  | 0 => fun _ _ _ r h => by simp [spec_l1Sum.l0] at h
  | k + 1 => by
    have ih0 := spec_l1Sum.mono_l k
    · intro y0 y1 y2
      unfold spec_l1Sum.l0
      repeat' first
      | (with_reducible exact ih0 _ _ _)
      | (with_reducible exact LeO.refl _)
      | (with_reducible exact LeO.none _)
      | (with_reducible refine LeO.ite ?_ ?_)
      | (with_reducible refine LeO.bind ?_ (fun _ => ?_))
      | exact ih0 _ _ _
      | exact LeO.none _
      | refine LeO.ite ?_ ?_
      | refine LeO.bind ?_ (fun _ => ?_)
theorem spec_l1Sum.mono : ∀ a0 k, LeO (spec_l1Sum.f k a0) (spec_l1Sum.f (k + 1) a0) := by
  intro a0 k
  have ih0 := spec_l1Sum.mono_l k
  unfold spec_l1Sum.f
  repeat' first
      | (with_reducible exact ih0 _ _ _)
      | (with_reducible exact LeO.refl _)
      | (with_reducible exact LeO.none _)
      | (with_reducible refine LeO.ite ?_ ?_)
      | (with_reducible refine LeO.bind ?_ (fun _ => ?_))
      | exact ih0 _ _ _
      | exact LeO.none _
      | refine LeO.ite ?_ ?_
      | refine LeO.bind ?_ (fun _ => ?_)
set_option maxHeartbeats 8000000 in
set_option maxRecDepth 100000 in
theorem spec_l1Sum.calls (k : Nat) (a0 : ByteArray) (r : Int) (w : World) (h : spec_l1Sum.f k a0 = some r) :
    Calls Tryz.prog 66 #[.string a0] w fun e w' => e = .returned (.int .i64 r) ∧ Drawn0 w w' := by
  have H : (spec_l1Sum.l0 k a0 7 0) = some r := h
  clear h
  have H' := Aside0.mk H
  clear H
  go_enter Tryz.func66, Tryz.ntmps66
  go_wp2
  go_loopg [3, 4] k (fun kq v3 v4 w' => ∃ (x3_1 : Int) (x4_1 : Int), v3 = .int .i64 x3_1 ∧ v4 = .int .i64 x4_1 ∧ Aside0 (spec_l1Sum.l0 kq a0 x3_1 x4_1 = some r) ∧ Aside0 (kq ≤ k) ∧ Drawn0 w w')
  case atStart => exact ⟨(7), (0), (by first | rfl | (simp; done) | (simp [*]; done)), (by first | rfl | (simp; done) | (simp [*]; done)), H', ⟨Nat.le_refl _⟩, by repeat (first | exact Drawn0.refl _ | apply Drawn0.step)⟩
  case round =>
    clear H'
    obtain ⟨x3_1, x4_1, rfl, rfl, HA, HK1, ⟨m1, rfl⟩⟩ := hrel
    cases gk with
    | zero => exact absurd HA.out (by simp [spec_l1Sum.l0])
    | succ k1 =>
      have H := HA.out
      clear HA
      simp only [spec_l1Sum.l0] at H
      by_cases c2 : x4_1 < (a0.size : Int)
      · rw [if_pos c2] at H
        have c2b0 : decide (x4_1 < (a0.size : Int)) = true := decide_eq_true c2
        clear c2
        by_cases c3 : 0 ≤ x4_1
        · rw [if_pos c3] at H
          have c3b0 : decide (0 ≤ x4_1) = true := decide_eq_true c3
          clear c3
          have H' := Aside0.mk H
          clear H
          have p4 : 0 ≤ (x4_1 : Int) := of_decide_eq_true (by first | (with_reducible assumption) | assumption)
          have q4 : x4_1 < (a0.size : Int) := of_decide_eq_true (by first | (with_reducible assumption) | assumption)
          have hx4 := bt_at a0 x4_1
          replace p4 := eq_true p4
          replace q4 := eq_true q4
          go_wp2
          go_roundg k1
          case measure => have := HK1.out; omega
          case rel => exact ⟨(Int.tmod (wrap64 ((wrap64 ((wrap64 (41 * x3_1)) + (wrap64 (bt a0 x4_1)))) + 1)) 999979), (wrap64 (x4_1 + 1)), (by first | rfl | (simp; done) | (simp [*]; done)), (by first | rfl | (simp; done) | (simp [*]; done)), H', ⟨by have := HK1.out; omega⟩, by repeat (first | exact Drawn0.refl _ | apply Drawn0.step)⟩
        · rw [if_neg c3] at H
          exact absurd H (by simp)
      · rw [if_neg c2] at H
        have c2b0 : decide (x4_1 < (a0.size : Int)) = false := decide_eq_false c2
        clear c2
        obtain rfl := Option.some.inj H
        go_wp2
        go_ret
        exact ⟨by first | rfl | (simp; done) | (simp [*]; done), by repeat (first | exact Drawn0.refl _ | apply Drawn0.step)⟩

/-! ### spec_l1Seal: function 57 -/
def spec_l1Seal.f (k : Nat) (a0 : ByteArray) : Option (ByteArray) := if a0.size + 1 ≤ 9223372036854775807 then ((spec_l1Sum.f k a0).bind fun t161 => ((spec_l1Num.f t161).bind fun t162 => (if a0.size + 1 + t162.size ≤ 9223372036854775807 then (some ((a0 ++ (⟨#[35]⟩ : ByteArray)) ++ t162)) else (none)))) else (none)
theorem spec_l1Seal.mono : ∀ a0 k, LeO (spec_l1Seal.f k a0) (spec_l1Seal.f (k + 1) a0) := by
  intro a0 k
  unfold spec_l1Seal.f
  repeat' first
      | (with_reducible exact spec_l1Sum.mono _ _)
      | (with_reducible exact LeO.refl _)
      | (with_reducible exact LeO.none _)
      | (with_reducible refine LeO.ite ?_ ?_)
      | (with_reducible refine LeO.bind ?_ (fun _ => ?_))
      | exact spec_l1Sum.mono _ _
      | exact LeO.none _
      | refine LeO.ite ?_ ?_
      | refine LeO.bind ?_ (fun _ => ?_)
set_option maxHeartbeats 8000000 in
set_option maxRecDepth 100000 in
theorem spec_l1Seal.calls (k : Nat) (a0 : ByteArray) (r : ByteArray) (w : World) (h : spec_l1Seal.f k a0 = some r) :
    Calls Tryz.prog 57 #[.string a0] w fun e w' => e = .returned (.string r) ∧ Below w.heap.size w w' := by
  have HB := Aside0.mk (Below.refl w.heap.size w)
  have H : (if a0.size + 1 ≤ 9223372036854775807 then ((spec_l1Sum.f k a0).bind fun t161 => ((spec_l1Num.f t161).bind fun t162 => (if a0.size + 1 + t162.size ≤ 9223372036854775807 then (some ((a0 ++ (⟨#[35]⟩ : ByteArray)) ++ t162)) else (none)))) else (none)) = some r := h
  clear h
  by_cases c2 : a0.size + 1 ≤ 9223372036854775807
  · rw [if_pos c2] at H
    have c2b0 := eq_true c2
    have c2b1 : decide (a0.size + 1 ≤ 9223372036854775807) = true := decide_eq_true c2
    try have c2b2 : (9223372036854775807 < a0.size + 1) = False := eq_false (Nat.not_lt.2 c2)
    replace H := Option.bind_eq_some_iff.mp H
    obtain ⟨t161, A30, H⟩ := H
    replace H : ((spec_l1Num.f t161).bind fun t162 => (if a0.size + 1 + t162.size ≤ 9223372036854775807 then (some ((a0 ++ (⟨#[35]⟩ : ByteArray)) ++ t162)) else (none))) = some r := H
    have A3 := Aside0.mk A30
    clear A30
    replace H := Option.bind_eq_some_iff.mp H
    obtain ⟨t162, A40, H⟩ := H
    replace H : (if a0.size + 1 + t162.size ≤ 9223372036854775807 then (some ((a0 ++ (⟨#[35]⟩ : ByteArray)) ++ t162)) else (none)) = some r := H
    have A4 := Aside0.mk A40
    clear A40
    by_cases c5 : a0.size + 1 + t162.size ≤ 9223372036854775807
    · rw [if_pos c5] at H
      have c5b0 := eq_true c5
      have c5b1 : decide (a0.size + 1 + t162.size ≤ 9223372036854775807) = true := decide_eq_true c5
      try have c5b2 : (9223372036854775807 < a0.size + 1 + t162.size) = False := eq_false (Nat.not_lt.2 c5)
      obtain rfl := Option.some.inj H
      go_enter Tryz.func57, Tryz.ntmps57
      go_wp2_with (first | ((with_reducible refine gate_callee (f := 66) rfl ?_); refine goesL_ (some 6) rfl rfl Tryz.func66 (by kernel_rfl) rfl #[.string a0] rfl (by (try simp only [List.map_toArray, List.map_cons, List.map_nil]); first | done | rfl | (simp only [List.length_drop, List.length_take]; rfl)) ?_; (with_reducible refine (spec_l1Sum.calls k a0 t161 _ A3.out).mono ?_); rintro e w' ⟨rfl, ⟨nd, rfl⟩⟩; refine ⟨_, rfl, ?_⟩) | ((with_reducible refine gate_callee (f := 44) rfl ?_); refine goesL_ (some 7) rfl rfl Tryz.func44 (by kernel_rfl) rfl #[.int .i64 t161] rfl (by (try simp only [List.map_toArray, List.map_cons, List.map_nil]); first | done | rfl | (simp only [List.length_drop, List.length_take]; rfl)) ?_; (with_reducible refine (spec_l1Num.calls t161 t162 _ A4.out).mono ?_); rintro e w6 ⟨rfl, hb⟩; refine ⟨_, rfl, ?_⟩; have n0_ := Aside0.mk (below_step (by repeat (first | (with_reducible first | exact HB.out | apply below_alloc | apply pw_below_drewN | apply below_drew1) | exact HB.out)) hb); clear HB; have HB := n0_; clear n0_; (try clear hb); (try clear hb2); (try clear hk); (try clear hi)))
      go_ret
      exact ⟨by first | rfl | (simp [errW_none, errW_some] <;> rfl) | (simp [*, errW_none, errW_some] <;> rfl), by repeat (first | (with_reducible first | exact HB.out | apply below_alloc | apply pw_below_drewN | apply below_drew1) | exact HB.out)⟩
    · rw [if_neg c5] at H
      exact absurd H (by simp)
  · rw [if_neg c2] at H
    exact absurd H (by simp)

/-! ### spec_l12Line: function 46 -/
def spec_l12Line.f (k : Nat) (a0 : Int) (a1_0 : ByteArray) (a1_1 : ByteArray) : Option (ByteArray) := (spec_l1Num.f a0).bind fun t164 => (if t164.size + 1 ≤ 9223372036854775807 then (if t164.size + 1 + a1_0.size ≤ 9223372036854775807 then (if t164.size + 1 + a1_0.size + 1 ≤ 9223372036854775807 then (if t164.size + 1 + a1_0.size + 1 + a1_1.size ≤ 9223372036854775807 then ((spec_l1Seal.f k ((((t164 ++ (⟨#[32]⟩ : ByteArray)) ++ a1_0) ++ (⟨#[64]⟩ : ByteArray)) ++ a1_1)).bind fun t165 => (if t165.size + 1 ≤ 9223372036854775807 then (some (t165 ++ (⟨#[10]⟩ : ByteArray))) else (none))) else (none)) else (none)) else (none)) else (none))
theorem spec_l12Line.mono : ∀ a0 a1 a2 k, LeO (spec_l12Line.f k a0 a1 a2) (spec_l12Line.f (k + 1) a0 a1 a2) := by
  intro a0 a1 a2 k
  unfold spec_l12Line.f
  repeat' first
      | (with_reducible exact spec_l1Seal.mono _ _)
      | (with_reducible exact LeO.refl _)
      | (with_reducible exact LeO.none _)
      | (with_reducible refine LeO.ite ?_ ?_)
      | (with_reducible refine LeO.bind ?_ (fun _ => ?_))
      | exact spec_l1Seal.mono _ _
      | exact LeO.none _
      | refine LeO.ite ?_ ?_
      | refine LeO.bind ?_ (fun _ => ?_)
def spec_l12Line.T1 : Bool × List (List Nat × List Nat) := (true, [([], []), ([0], [0]), ([1], [1]), ([], []), ([3], [3]), ([2, 4], [2, 4]), ([5], [5]), ([], []), ([7], [7]), ([6, 8], [6, 8]), ([9, 1], [9]), ([10], [10]), ([11, 10, 0, 1, 2, 3, 4, 5, 6, 7, 8, 9, 10, 11], [11])])
def spec_l12Line.B1 : List Nat := [0, 1, 3, 0, 8, 31, 63, 0, 128, 511, 1023, 2047, 4095]
theorem spec_l12Line.tab1 : rtab .any (opsOf Tryz.f46 1) = spec_l12Line.T1 := by kernel_rfl
theorem spec_l12Line.bits1 : waitsOk spec_l12Line.T1.2 spec_l12Line.B1 = true := by kernel_rfl
set_option maxHeartbeats 8000000 in
set_option maxRecDepth 100000 in
theorem spec_l12Line.calls (k : Nat) (a0 : Int) (a1_0 : ByteArray) (a1_1 : ByteArray) (r : ByteArray) (w : World) (h : spec_l12Line.f k a0 a1_0 a1_1 = some r) :
    Calls Tryz.prog 46 #[.int .i64 a0, .agg #[.string a1_0, .string a1_1]] w fun e w' => e = .returned (.string r) ∧ Below w.heap.size w w' := by
  have hu68 := Tryz.underlying68
  have HB := Aside0.mk (Below.refl w.heap.size w)
  have H : ((spec_l1Num.f a0).bind fun t164 => (if t164.size + 1 ≤ 9223372036854775807 then (if t164.size + 1 + a1_0.size ≤ 9223372036854775807 then (if t164.size + 1 + a1_0.size + 1 ≤ 9223372036854775807 then (if t164.size + 1 + a1_0.size + 1 + a1_1.size ≤ 9223372036854775807 then ((spec_l1Seal.f k ((((t164 ++ (⟨#[32]⟩ : ByteArray)) ++ a1_0) ++ (⟨#[64]⟩ : ByteArray)) ++ a1_1)).bind fun t165 => (if t165.size + 1 ≤ 9223372036854775807 then (some (t165 ++ (⟨#[10]⟩ : ByteArray))) else (none))) else (none)) else (none)) else (none)) else (none))) = some r := h
  clear h
  replace H := Option.bind_eq_some_iff.mp H
  obtain ⟨t164, A30, H⟩ := H
  replace H : (if t164.size + 1 ≤ 9223372036854775807 then (if t164.size + 1 + a1_0.size ≤ 9223372036854775807 then (if t164.size + 1 + a1_0.size + 1 ≤ 9223372036854775807 then (if t164.size + 1 + a1_0.size + 1 + a1_1.size ≤ 9223372036854775807 then ((spec_l1Seal.f k ((((t164 ++ (⟨#[32]⟩ : ByteArray)) ++ a1_0) ++ (⟨#[64]⟩ : ByteArray)) ++ a1_1)).bind fun t165 => (if t165.size + 1 ≤ 9223372036854775807 then (some (t165 ++ (⟨#[10]⟩ : ByteArray))) else (none))) else (none)) else (none)) else (none)) else (none)) = some r := H
  have A3 := Aside0.mk A30
  clear A30
  by_cases c4 : t164.size + 1 ≤ 9223372036854775807
  · rw [if_pos c4] at H
    have c4b0 := eq_true c4
    have c4b1 : decide (t164.size + 1 ≤ 9223372036854775807) = true := decide_eq_true c4
    try have c4b2 : (9223372036854775807 < t164.size + 1) = False := eq_false (Nat.not_lt.2 c4)
    by_cases c5 : t164.size + 1 + a1_0.size ≤ 9223372036854775807
    · rw [if_pos c5] at H
      have c5b0 := eq_true c5
      have c5b1 : decide (t164.size + 1 + a1_0.size ≤ 9223372036854775807) = true := decide_eq_true c5
      try have c5b2 : (9223372036854775807 < t164.size + 1 + a1_0.size) = False := eq_false (Nat.not_lt.2 c5)
      by_cases c6 : t164.size + 1 + a1_0.size + 1 ≤ 9223372036854775807
      · rw [if_pos c6] at H
        have c6b0 := eq_true c6
        have c6b1 : decide (t164.size + 1 + a1_0.size + 1 ≤ 9223372036854775807) = true := decide_eq_true c6
        try have c6b2 : (9223372036854775807 < t164.size + 1 + a1_0.size + 1) = False := eq_false (Nat.not_lt.2 c6)
        by_cases c7 : t164.size + 1 + a1_0.size + 1 + a1_1.size ≤ 9223372036854775807
        · rw [if_pos c7] at H
          have c7b0 := eq_true c7
          have c7b1 : decide (t164.size + 1 + a1_0.size + 1 + a1_1.size ≤ 9223372036854775807) = true := decide_eq_true c7
          try have c7b2 : (9223372036854775807 < t164.size + 1 + a1_0.size + 1 + a1_1.size) = False := eq_false (Nat.not_lt.2 c7)
          replace H := Option.bind_eq_some_iff.mp H
          obtain ⟨t165, A80, H⟩ := H
          replace H : (if t165.size + 1 ≤ 9223372036854775807 then (some (t165 ++ (⟨#[10]⟩ : ByteArray))) else (none)) = some r := H
          have A8 := Aside0.mk A80
          clear A80
          by_cases c9 : t165.size + 1 ≤ 9223372036854775807
          · rw [if_pos c9] at H
            have c9b0 := eq_true c9
            have c9b1 : decide (t165.size + 1 ≤ 9223372036854775807) = true := decide_eq_true c9
            try have c9b2 : (9223372036854775807 < t165.size + 1) = False := eq_false (Nat.not_lt.2 c9)
            obtain rfl := Option.some.inj H
            go_enter Tryz.func46, Tryz.ntmps46
            try go_wp2_with (first | ((with_reducible refine gate_dst (N := 3) rfl ?_); refine box_event ?hg (N := 3) ?hd (cs := #[.string a1_0, .string a1_1]) (t := 68) ?hr ?_; (case hd => rfl); (case hg => rfl); (case hr => first | (go_simp; done) | (go_simp; rfl)); intro gb163 hg w10 hbox hb; have n0_ := Aside0.mk (below_step (by repeat (first | (with_reducible first | exact HB.out | apply below_alloc | apply pw_below_drewN | apply below_drew1) | exact HB.out)) hb); have n1_ := Aside0.mk (hbox); have n2_ := Aside0.mk ((by rw [hg]; exact (below_size (by repeat (first | (with_reducible first | exact HB.out | apply below_alloc | apply pw_below_drewN | apply below_drew1) | exact HB.out))) : w.heap.size ≤ gb163)); have n3_ := Aside0.mk ((by rw [hg]; exact (below_size (by repeat (first | (with_reducible first | exact HB.out | apply below_alloc | apply pw_below_drewN | apply below_drew1) | exact HB.out))) : w.heap.size ≤ gb163)); clear HB; have HB := n0_; have BK163 := n1_; have GW163 := n2_; have GE163 := n3_; clear n0_ n1_ n2_ n3_; clear hb hbox hg))
            have n0_ := Aside0.mk (blk_drew BK163.out)
            have n1_ := Aside0.mk (below_drew1 HB.out)
            clear BK163
            clear HB
            have BK163 := n0_
            have HB := n1_
            clear n0_ n1_
            refine start_ (n := 13) (S := fun w' => w'.cell? ⟨gb163, 0, none⟩ = some (.string a1_0) ∧ w'.cell? ⟨gb163, 1, none⟩ = some (.string a1_1)) (ds := []) #[false, false, false, false, false, false, false, false, false, false, false, false, false] (by kernel_rfl) rfl rfl ⟨(blk_cell BK163.out 0).trans rfl, (blk_cell BK163.out 1).trans rfl⟩ (fun hHeld => ?_); refine with_tabW spec_l12Line.tab1 spec_l12Line.bits1 (fun HT_ HW_ => ?_)
            generalize w10.drew = w11 at BK163 HB hHeld ⊢
            refine pure_ (i := 0) (N := some 5) (v := ?_) (a' := ?_) #[true, false, false, false, false, false, false, false, false, false, false, false, false] rfl rfl (any_of HT_.out (by kernel_rfl)) (fun _ _ _ h => h) (Or.inl ⟨by rfl, ?_⟩) ?_ ?_
            rotate_left
            · intro w'
              go_simp
              with_reducible rfl
            rotate_left
            · simp only [Act.put, List.setIfInBounds_toArray, List.set_cons_zero, List.set_cons_succ, i64_w, i32_w]
              rfl
            refine pure_ (i := 3) (N := some 8) (v := ?_) (a' := ?_) #[true, false, false, true, false, false, false, false, false, false, false, false, false] rfl rfl (any_of HT_.out (by kernel_rfl)) (fun _ _ _ h => h) (Or.inl ⟨by rfl, ?_⟩) ?_ ?_
            rotate_left
            · intro w'
              go_simp
              with_reducible rfl
            rotate_left
            · simp only [Act.put, List.setIfInBounds_toArray, List.set_cons_zero, List.set_cons_succ, i64_w, i32_w]
              rfl
            refine pure_ (i := 7) (N := some 12) (v := ?_) (a' := ?_) #[true, false, false, true, false, false, false, true, false, false, false, false, false] rfl rfl (any_of HT_.out (by kernel_rfl)) (fun _ _ _ h => h) (Or.inl ⟨by rfl, ?_⟩) ?_ ?_
            rotate_left
            · intro w'
              go_simp
              with_reducible rfl
            rotate_left
            · simp only [Act.put, List.setIfInBounds_toArray, List.set_cons_zero, List.set_cons_succ, i64_w, i32_w]
              rfl
            refine take_ (i := 4) (N := some 9) (v := ?_) (a' := ?_) #[true, false, false, true, true, false, false, true, false, false, false, false, false] rfl rfl (take_ofW HT_.out HW_.out (by kernel_rfl)) (fun _ _ _ h => h) (Or.inl ⟨by rfl, ?_⟩) hHeld ?_ ?_
            rotate_left
            · rintro w' ⟨s0, s1⟩
              go_simp
              with_reducible rfl
            rotate_left
            · simp only [Act.put, List.setIfInBounds_toArray, List.set_cons_zero, List.set_cons_succ, i64_w, i32_w]
              rfl
            refine take_ (i := 8) (N := some 13) (v := ?_) (a' := ?_) #[true, false, false, true, true, false, false, true, true, false, false, false, false] rfl rfl (take_ofW HT_.out HW_.out (by kernel_rfl)) (fun _ _ _ h => h) (Or.inl ⟨by rfl, ?_⟩) hHeld ?_ ?_
            rotate_left
            · rintro w' ⟨s0, s1⟩
              go_simp
              with_reducible rfl
            rotate_left
            · simp only [Act.put, List.setIfInBounds_toArray, List.set_cons_zero, List.set_cons_succ, i64_w, i32_w]
              rfl
            refine one_ (i := 1) (N := some 6) #[true, true, false, true, true, false, false, true, true, false, false, false, false] rfl rfl (one_of HT_.out (by kernel_rfl)) (by decide) (fun K hK => ?_)
            refine goes_ Tryz.func44 (by kernel_rfl) rfl #[.int .i64 a0] (by rfl) rfl rfl (by (try simp only [List.map_toArray, List.map_cons, List.map_nil]); first | done | rfl | (simp only [List.length_drop, List.length_take]; rfl)) ?_
            with_reducible refine (spec_l1Num.calls a0 t164 _ A3.out).mono ?_
            rintro e w12 ⟨rfl, hb⟩
            refine ⟨_, rfl, ?_⟩
            have n0_ := Aside0.mk (blk_below (g := gb163) (o := .cells #[.string a1_0, .string a1_1] 68 (0, 0)) (by (with_reducible repeat (first | refine blk_drewN ?_ _ | refine blk_drew ?_ | refine blk_alloc ?_ _)); exact BK163.out) hb)
            have n1_ := Aside0.mk (below_step (by repeat (first | (with_reducible first | exact HB.out | apply below_alloc | apply pw_below_drewN | apply below_drew1 | refine below_set ?_ GE163.out) | exact HB.out)) hb)
            clear BK163
            clear HB
            have BK163 := n0_
            have HB := n1_
            clear n0_ n1_
            (try clear hb)
            (try clear hb2)
            (try clear hk)
            (try clear hi)
            refine hK.out _ _ ⟨(blk_cell BK163.out 0).trans rfl, (blk_cell BK163.out 1).trans rfl⟩ (fun hHeld => ?_)
            clear hK K
            refine norm_ (a' := ?_) ?_ ?_
            rotate_left
            · show Act.put _ (some 6) _ = _
              simp only [Act.put, List.setIfInBounds_toArray, List.set_cons_zero, List.set_cons_succ, i64_w, i32_w]
              rfl
            refine pure_ (i := 2) (N := some 7) (v := ?_) (a' := ?_) #[true, true, true, true, true, false, false, true, true, false, false, false, false] rfl rfl (any_of HT_.out (by kernel_rfl)) (fun _ _ _ h => h) (Or.inl ⟨by rfl, ?_⟩) ?_ ?_
            rotate_left
            · intro w'
              go_simp
              with_reducible rfl
            rotate_left
            · simp only [Act.put, List.setIfInBounds_toArray, List.set_cons_zero, List.set_cons_succ, i64_w, i32_w]
              rfl
            refine pure_ (i := 5) (N := some 10) (v := ?_) (a' := ?_) #[true, true, true, true, true, true, false, true, true, false, false, false, false] rfl rfl (any_of HT_.out (by kernel_rfl)) (fun _ _ _ h => h) (Or.inl ⟨by rfl, ?_⟩) ?_ ?_
            rotate_left
            · intro w'
              go_simp
              with_reducible rfl
            rotate_left
            · simp only [Act.put, List.setIfInBounds_toArray, List.set_cons_zero, List.set_cons_succ, i64_w, i32_w]
              rfl
            refine pure_ (i := 6) (N := some 11) (v := ?_) (a' := ?_) #[true, true, true, true, true, true, true, true, true, false, false, false, false] rfl rfl (any_of HT_.out (by kernel_rfl)) (fun _ _ _ h => h) (Or.inl ⟨by rfl, ?_⟩) ?_ ?_
            rotate_left
            · intro w'
              go_simp
              with_reducible rfl
            rotate_left
            · simp only [Act.put, List.setIfInBounds_toArray, List.set_cons_zero, List.set_cons_succ, i64_w, i32_w]
              rfl
            refine pure_ (i := 9) (N := some 14) (v := ?_) (a' := ?_) #[true, true, true, true, true, true, true, true, true, true, false, false, false] rfl rfl (any_of HT_.out (by kernel_rfl)) (fun _ _ _ h => h) (Or.inl ⟨by rfl, ?_⟩) ?_ ?_
            rotate_left
            · intro w'
              go_simp
              with_reducible rfl
            rotate_left
            · simp only [Act.put, List.setIfInBounds_toArray, List.set_cons_zero, List.set_cons_succ, i64_w, i32_w]
              rfl
            refine one_ (i := 10) (N := some 15) #[true, true, true, true, true, true, true, true, true, true, true, false, false] rfl rfl (one_of HT_.out (by kernel_rfl)) (by decide) (fun K hK => ?_)
            refine goes_ Tryz.func57 (by kernel_rfl) rfl #[.string ((((t164 ++ (⟨#[32]⟩ : ByteArray)) ++ a1_0) ++ (⟨#[64]⟩ : ByteArray)) ++ a1_1)] (by rfl) rfl rfl (by (try simp only [List.map_toArray, List.map_cons, List.map_nil]); first | done | rfl | (simp only [List.length_drop, List.length_take]; rfl)) ?_
            with_reducible refine (spec_l1Seal.calls k ((((t164 ++ (⟨#[32]⟩ : ByteArray)) ++ a1_0) ++ (⟨#[64]⟩ : ByteArray)) ++ a1_1) t165 _ A8.out).mono ?_
            rintro e w13 ⟨rfl, hb⟩
            refine ⟨_, rfl, ?_⟩
            have n0_ := Aside0.mk (blk_below (g := gb163) (o := .cells #[.string a1_0, .string a1_1] 68 (0, 0)) (by (with_reducible repeat (first | refine blk_drewN ?_ _ | refine blk_drew ?_ | refine blk_alloc ?_ _)); exact BK163.out) hb)
            have n1_ := Aside0.mk (below_step (by repeat (first | (with_reducible first | exact HB.out | apply below_alloc | apply pw_below_drewN | apply below_drew1 | refine below_set ?_ GE163.out) | exact HB.out)) hb)
            clear BK163
            clear HB
            have BK163 := n0_
            have HB := n1_
            clear n0_ n1_
            (try clear hb)
            (try clear hb2)
            (try clear hk)
            (try clear hi)
            refine hK.out _ _ ⟨(blk_cell BK163.out 0).trans rfl, (blk_cell BK163.out 1).trans rfl⟩ (fun hHeld => ?_)
            clear hK K
            refine norm_ (a' := ?_) ?_ ?_
            rotate_left
            · show Act.put _ (some 15) _ = _
              simp only [Act.put, List.setIfInBounds_toArray, List.set_cons_zero, List.set_cons_succ, i64_w, i32_w]
              rfl
            refine pure_ (i := 11) (N := some 16) (v := ?_) (a' := ?_) #[true, true, true, true, true, true, true, true, true, true, true, true, false] rfl rfl (any_of HT_.out (by kernel_rfl)) (fun _ _ _ h => h) (Or.inl ⟨by rfl, ?_⟩) ?_ ?_
            rotate_left
            · intro w'
              go_simp
              with_reducible rfl
            rotate_left
            · simp only [Act.put, List.setIfInBounds_toArray, List.set_cons_zero, List.set_cons_succ, i64_w, i32_w]
              rfl
            refine pure_ (i := 12) (N := some 4) (v := ?_) (a' := ?_) #[true, true, true, true, true, true, true, true, true, true, true, true, true] rfl rfl (any_of HT_.out (by kernel_rfl)) (fun _ _ _ h => h) (Or.inl ⟨by rfl, ?_⟩) ?_ ?_
            rotate_left
            · intro w'
              go_simp
              with_reducible rfl
            rotate_left
            · simp only [Act.put, List.setIfInBounds_toArray, List.set_cons_zero, List.set_cons_succ, i64_w, i32_w]
              rfl
            refine done_ (done_of HT_.out (by kernel_rfl)) ?_
            try go_wp2
            go_ret
            exact ⟨by first | rfl | (simp [errW_none, errW_some] <;> rfl) | (simp [*, errW_none, errW_some] <;> rfl), by repeat (first | (with_reducible first | exact HB.out | apply below_alloc | apply pw_below_drewN | apply below_drew1 | refine below_set ?_ GE163.out) | exact HB.out)⟩
          · rw [if_neg c9] at H
            exact absurd H (by simp)
        · rw [if_neg c7] at H
          exact absurd H (by simp)
      · rw [if_neg c6] at H
        exact absurd H (by simp)
    · rw [if_neg c5] at H
      exact absurd H (by simp)
  · rw [if_neg c4] at H
    exact absurd H (by simp)

/-! ### spec_l12Decode: function 36 -/
def spec_l12Decode.f (k : Nat) (a0 : ByteArray) (a1 : Int) : Option (ByteArray × ByteArray × Bool) := (spec_l1Num.f a1).bind fun t167 => (if t167.size + 1 ≤ 9223372036854775807 then ((spec_l1Split.f k a0 35).bind fun t168 => (if 0 < (t168.length : Int) then (if ((rdOf ByteArray.empty t168 0).size : Int) < (t167.size + 1 : Int) then (some ((⟨#[]⟩ : ByteArray), (⟨#[]⟩ : ByteArray), false)) else (if 0 ≤ (t167.size + 1 : Int) then (if (t167.size + 1 : Int) ≤ ((rdOf ByteArray.empty t168 0).size : Int) then (if ((rdOf ByteArray.empty t168 0).extract 0 ((t167.size + 1 : Int) : Int).toNat).toList = (t167 ++ (⟨#[32]⟩ : ByteArray)).toList then ((spec_l1Split.f k ((rdOf ByteArray.empty t168 0).extract ((t167.size + 1 : Int) : Int).toNat ((rdOf ByteArray.empty t168 0).size)) 64).bind fun t172 => (if 0 < (t172.length : Int) then (if ((rdOf ByteArray.empty t172 0).size : Int) = ((((rdOf ByteArray.empty t168 0).size) - ((t167.size + 1 : Int) : Int).toNat : Nat) : Int) then (some ((⟨#[]⟩ : ByteArray), (⟨#[]⟩ : ByteArray), false)) else (if 0 ≤ (wrap64 (((rdOf ByteArray.empty t172 0).size : Int) + 1)) then (if (wrap64 (((rdOf ByteArray.empty t172 0).size : Int) + 1)) ≤ ((((rdOf ByteArray.empty t168 0).size) - ((t167.size + 1 : Int) : Int).toNat : Nat) : Int) then ((spec_l12Record.f k (rdOf ByteArray.empty t172 0) (((rdOf ByteArray.empty t168 0).extract ((t167.size + 1 : Int) : Int).toNat ((rdOf ByteArray.empty t168 0).size)).extract ((wrap64 (((rdOf ByteArray.empty t172 0).size : Int) + 1)) : Int).toNat (((rdOf ByteArray.empty t168 0).size) - ((t167.size + 1 : Int) : Int).toNat))).bind fun t177 => (if t177 = true then ((spec_l12Line.f k a1 (rdOf ByteArray.empty t172 0) (((rdOf ByteArray.empty t168 0).extract ((t167.size + 1 : Int) : Int).toNat ((rdOf ByteArray.empty t168 0).size)).extract ((wrap64 (((rdOf ByteArray.empty t172 0).size : Int) + 1)) : Int).toNat (((rdOf ByteArray.empty t168 0).size) - ((t167.size + 1 : Int) : Int).toNat))).bind fun t178 => (if a0.size + 1 ≤ 9223372036854775807 then (some (rdOf ByteArray.empty t172 0, ((rdOf ByteArray.empty t168 0).extract ((t167.size + 1 : Int) : Int).toNat ((rdOf ByteArray.empty t168 0).size)).extract ((wrap64 (((rdOf ByteArray.empty t172 0).size : Int) + 1)) : Int).toNat (((rdOf ByteArray.empty t168 0).size) - ((t167.size + 1 : Int) : Int).toNat), (t178.toList == (a0 ++ (⟨#[10]⟩ : ByteArray)).toList))) else (none))) else (some (rdOf ByteArray.empty t172 0, ((rdOf ByteArray.empty t168 0).extract ((t167.size + 1 : Int) : Int).toNat ((rdOf ByteArray.empty t168 0).size)).extract ((wrap64 (((rdOf ByteArray.empty t172 0).size : Int) + 1)) : Int).toNat (((rdOf ByteArray.empty t168 0).size) - ((t167.size + 1 : Int) : Int).toNat), false)))) else (none)) else (none))) else (none))) else (some ((⟨#[]⟩ : ByteArray), (⟨#[]⟩ : ByteArray), false))) else (none)) else (none))) else (none))) else (none))
theorem spec_l12Decode.mono : ∀ a0 a1 k, LeO (spec_l12Decode.f k a0 a1) (spec_l12Decode.f (k + 1) a0 a1) := by
  intro a0 a1 k
  unfold spec_l12Decode.f
  repeat' first
      | (with_reducible exact spec_l12Line.mono _ _ _ _)
      | (with_reducible exact spec_l12Record.mono _ _ _)
      | (with_reducible exact spec_l1Split.mono _ _ _)
      | (with_reducible exact LeO.refl _)
      | (with_reducible exact LeO.none _)
      | (with_reducible refine LeO.ite ?_ ?_)
      | (with_reducible refine LeO.bind ?_ (fun _ => ?_))
      | exact spec_l12Line.mono _ _ _ _
      | exact spec_l12Record.mono _ _ _
      | exact spec_l1Split.mono _ _ _
      | exact LeO.none _
      | refine LeO.ite ?_ ?_
      | refine LeO.bind ?_ (fun _ => ?_)
def spec_l12Decode.T10 : Bool × List (List Nat × List Nat) := (true, [([], []), ([], []), ([1], [1]), ([2, 2], [2]), ([3], [3]), ([3], [3]), ([4, 5, 3, 3], [3, 4, 5]), ([3], [3]), ([7, 3], [3, 7]), ([6, 8, 3], [3, 6, 8]), ([3, 9], [3, 9]), ([0, 6, 0], [0]), ([10, 11, 0, 1, 2, 3, 4, 5, 6, 7, 8, 9, 10, 11], [10])])
def spec_l12Decode.B10 : List Nat := [0, 0, 2, 6, 14, 14, 62, 14, 142, 510, 1022, 127, 4095]
theorem spec_l12Decode.tab10 : rtab .any (opsOf Tryz.f36 10) = spec_l12Decode.T10 := by kernel_rfl
theorem spec_l12Decode.bits10 : waitsOk spec_l12Decode.T10.2 spec_l12Decode.B10 = true := by kernel_rfl
set_option maxHeartbeats 8000000 in
set_option maxRecDepth 100000 in
theorem spec_l12Decode.calls (k : Nat) (a0 : ByteArray) (a1 : Int) (r1 : ByteArray) (r2 : ByteArray) (r3 : Bool) (w : World) (h : spec_l12Decode.f k a0 a1 = some (r1, r2, r3)) :
    Calls Tryz.prog 36 #[.string a0, .int .i64 a1] w fun e w' => e = .returned (.tuple #[.agg #[.string r1, .string r2], .bool r3]) ∧ Below w.heap.size w w' := by
  have hu68 := Tryz.underlying68
  have HB := Aside0.mk (Below.refl w.heap.size w)
  have H : ((spec_l1Num.f a1).bind fun t167 => (if t167.size + 1 ≤ 9223372036854775807 then ((spec_l1Split.f k a0 35).bind fun t168 => (if 0 < (t168.length : Int) then (if ((rdOf ByteArray.empty t168 0).size : Int) < (t167.size + 1 : Int) then (some ((⟨#[]⟩ : ByteArray), (⟨#[]⟩ : ByteArray), false)) else (if 0 ≤ (t167.size + 1 : Int) then (if (t167.size + 1 : Int) ≤ ((rdOf ByteArray.empty t168 0).size : Int) then (if ((rdOf ByteArray.empty t168 0).extract 0 ((t167.size + 1 : Int) : Int).toNat).toList = (t167 ++ (⟨#[32]⟩ : ByteArray)).toList then ((spec_l1Split.f k ((rdOf ByteArray.empty t168 0).extract ((t167.size + 1 : Int) : Int).toNat ((rdOf ByteArray.empty t168 0).size)) 64).bind fun t172 => (if 0 < (t172.length : Int) then (if ((rdOf ByteArray.empty t172 0).size : Int) = ((((rdOf ByteArray.empty t168 0).size) - ((t167.size + 1 : Int) : Int).toNat : Nat) : Int) then (some ((⟨#[]⟩ : ByteArray), (⟨#[]⟩ : ByteArray), false)) else (if 0 ≤ (wrap64 (((rdOf ByteArray.empty t172 0).size : Int) + 1)) then (if (wrap64 (((rdOf ByteArray.empty t172 0).size : Int) + 1)) ≤ ((((rdOf ByteArray.empty t168 0).size) - ((t167.size + 1 : Int) : Int).toNat : Nat) : Int) then ((spec_l12Record.f k (rdOf ByteArray.empty t172 0) (((rdOf ByteArray.empty t168 0).extract ((t167.size + 1 : Int) : Int).toNat ((rdOf ByteArray.empty t168 0).size)).extract ((wrap64 (((rdOf ByteArray.empty t172 0).size : Int) + 1)) : Int).toNat (((rdOf ByteArray.empty t168 0).size) - ((t167.size + 1 : Int) : Int).toNat))).bind fun t177 => (if t177 = true then ((spec_l12Line.f k a1 (rdOf ByteArray.empty t172 0) (((rdOf ByteArray.empty t168 0).extract ((t167.size + 1 : Int) : Int).toNat ((rdOf ByteArray.empty t168 0).size)).extract ((wrap64 (((rdOf ByteArray.empty t172 0).size : Int) + 1)) : Int).toNat (((rdOf ByteArray.empty t168 0).size) - ((t167.size + 1 : Int) : Int).toNat))).bind fun t178 => (if a0.size + 1 ≤ 9223372036854775807 then (some (rdOf ByteArray.empty t172 0, ((rdOf ByteArray.empty t168 0).extract ((t167.size + 1 : Int) : Int).toNat ((rdOf ByteArray.empty t168 0).size)).extract ((wrap64 (((rdOf ByteArray.empty t172 0).size : Int) + 1)) : Int).toNat (((rdOf ByteArray.empty t168 0).size) - ((t167.size + 1 : Int) : Int).toNat), (t178.toList == (a0 ++ (⟨#[10]⟩ : ByteArray)).toList))) else (none))) else (some (rdOf ByteArray.empty t172 0, ((rdOf ByteArray.empty t168 0).extract ((t167.size + 1 : Int) : Int).toNat ((rdOf ByteArray.empty t168 0).size)).extract ((wrap64 (((rdOf ByteArray.empty t172 0).size : Int) + 1)) : Int).toNat (((rdOf ByteArray.empty t168 0).size) - ((t167.size + 1 : Int) : Int).toNat), false)))) else (none)) else (none))) else (none))) else (some ((⟨#[]⟩ : ByteArray), (⟨#[]⟩ : ByteArray), false))) else (none)) else (none))) else (none))) else (none))) = some (r1, r2, r3) := h
  clear h
  replace H := Option.bind_eq_some_iff.mp H
  obtain ⟨t167, A30, H⟩ := H
  replace H : (if t167.size + 1 ≤ 9223372036854775807 then ((spec_l1Split.f k a0 35).bind fun t168 => (if 0 < (t168.length : Int) then (if ((rdOf ByteArray.empty t168 0).size : Int) < (t167.size + 1 : Int) then (some ((⟨#[]⟩ : ByteArray), (⟨#[]⟩ : ByteArray), false)) else (if 0 ≤ (t167.size + 1 : Int) then (if (t167.size + 1 : Int) ≤ ((rdOf ByteArray.empty t168 0).size : Int) then (if ((rdOf ByteArray.empty t168 0).extract 0 ((t167.size + 1 : Int) : Int).toNat).toList = (t167 ++ (⟨#[32]⟩ : ByteArray)).toList then ((spec_l1Split.f k ((rdOf ByteArray.empty t168 0).extract ((t167.size + 1 : Int) : Int).toNat ((rdOf ByteArray.empty t168 0).size)) 64).bind fun t172 => (if 0 < (t172.length : Int) then (if ((rdOf ByteArray.empty t172 0).size : Int) = ((((rdOf ByteArray.empty t168 0).size) - ((t167.size + 1 : Int) : Int).toNat : Nat) : Int) then (some ((⟨#[]⟩ : ByteArray), (⟨#[]⟩ : ByteArray), false)) else (if 0 ≤ (wrap64 (((rdOf ByteArray.empty t172 0).size : Int) + 1)) then (if (wrap64 (((rdOf ByteArray.empty t172 0).size : Int) + 1)) ≤ ((((rdOf ByteArray.empty t168 0).size) - ((t167.size + 1 : Int) : Int).toNat : Nat) : Int) then ((spec_l12Record.f k (rdOf ByteArray.empty t172 0) (((rdOf ByteArray.empty t168 0).extract ((t167.size + 1 : Int) : Int).toNat ((rdOf ByteArray.empty t168 0).size)).extract ((wrap64 (((rdOf ByteArray.empty t172 0).size : Int) + 1)) : Int).toNat (((rdOf ByteArray.empty t168 0).size) - ((t167.size + 1 : Int) : Int).toNat))).bind fun t177 => (if t177 = true then ((spec_l12Line.f k a1 (rdOf ByteArray.empty t172 0) (((rdOf ByteArray.empty t168 0).extract ((t167.size + 1 : Int) : Int).toNat ((rdOf ByteArray.empty t168 0).size)).extract ((wrap64 (((rdOf ByteArray.empty t172 0).size : Int) + 1)) : Int).toNat (((rdOf ByteArray.empty t168 0).size) - ((t167.size + 1 : Int) : Int).toNat))).bind fun t178 => (if a0.size + 1 ≤ 9223372036854775807 then (some (rdOf ByteArray.empty t172 0, ((rdOf ByteArray.empty t168 0).extract ((t167.size + 1 : Int) : Int).toNat ((rdOf ByteArray.empty t168 0).size)).extract ((wrap64 (((rdOf ByteArray.empty t172 0).size : Int) + 1)) : Int).toNat (((rdOf ByteArray.empty t168 0).size) - ((t167.size + 1 : Int) : Int).toNat), (t178.toList == (a0 ++ (⟨#[10]⟩ : ByteArray)).toList))) else (none))) else (some (rdOf ByteArray.empty t172 0, ((rdOf ByteArray.empty t168 0).extract ((t167.size + 1 : Int) : Int).toNat ((rdOf ByteArray.empty t168 0).size)).extract ((wrap64 (((rdOf ByteArray.empty t172 0).size : Int) + 1)) : Int).toNat (((rdOf ByteArray.empty t168 0).size) - ((t167.size + 1 : Int) : Int).toNat), false)))) else (none)) else (none))) else (none))) else (some ((⟨#[]⟩ : ByteArray), (⟨#[]⟩ : ByteArray), false))) else (none)) else (none))) else (none))) else (none)) = some (r1, r2, r3) := H
  have A3 := Aside0.mk A30
  clear A30
  by_cases c4 : t167.size + 1 ≤ 9223372036854775807
  · rw [if_pos c4] at H
    have c4b0 := eq_true c4
    have c4b1 : decide (t167.size + 1 ≤ 9223372036854775807) = true := decide_eq_true c4
    try have c4b2 : (9223372036854775807 < t167.size + 1) = False := eq_false (Nat.not_lt.2 c4)
    replace H := Option.bind_eq_some_iff.mp H
    obtain ⟨t168, A50, H⟩ := H
    replace H : (if 0 < (t168.length : Int) then (if ((rdOf ByteArray.empty t168 0).size : Int) < (t167.size + 1 : Int) then (some ((⟨#[]⟩ : ByteArray), (⟨#[]⟩ : ByteArray), false)) else (if 0 ≤ (t167.size + 1 : Int) then (if (t167.size + 1 : Int) ≤ ((rdOf ByteArray.empty t168 0).size : Int) then (if ((rdOf ByteArray.empty t168 0).extract 0 ((t167.size + 1 : Int) : Int).toNat).toList = (t167 ++ (⟨#[32]⟩ : ByteArray)).toList then ((spec_l1Split.f k ((rdOf ByteArray.empty t168 0).extract ((t167.size + 1 : Int) : Int).toNat ((rdOf ByteArray.empty t168 0).size)) 64).bind fun t172 => (if 0 < (t172.length : Int) then (if ((rdOf ByteArray.empty t172 0).size : Int) = ((((rdOf ByteArray.empty t168 0).size) - ((t167.size + 1 : Int) : Int).toNat : Nat) : Int) then (some ((⟨#[]⟩ : ByteArray), (⟨#[]⟩ : ByteArray), false)) else (if 0 ≤ (wrap64 (((rdOf ByteArray.empty t172 0).size : Int) + 1)) then (if (wrap64 (((rdOf ByteArray.empty t172 0).size : Int) + 1)) ≤ ((((rdOf ByteArray.empty t168 0).size) - ((t167.size + 1 : Int) : Int).toNat : Nat) : Int) then ((spec_l12Record.f k (rdOf ByteArray.empty t172 0) (((rdOf ByteArray.empty t168 0).extract ((t167.size + 1 : Int) : Int).toNat ((rdOf ByteArray.empty t168 0).size)).extract ((wrap64 (((rdOf ByteArray.empty t172 0).size : Int) + 1)) : Int).toNat (((rdOf ByteArray.empty t168 0).size) - ((t167.size + 1 : Int) : Int).toNat))).bind fun t177 => (if t177 = true then ((spec_l12Line.f k a1 (rdOf ByteArray.empty t172 0) (((rdOf ByteArray.empty t168 0).extract ((t167.size + 1 : Int) : Int).toNat ((rdOf ByteArray.empty t168 0).size)).extract ((wrap64 (((rdOf ByteArray.empty t172 0).size : Int) + 1)) : Int).toNat (((rdOf ByteArray.empty t168 0).size) - ((t167.size + 1 : Int) : Int).toNat))).bind fun t178 => (if a0.size + 1 ≤ 9223372036854775807 then (some (rdOf ByteArray.empty t172 0, ((rdOf ByteArray.empty t168 0).extract ((t167.size + 1 : Int) : Int).toNat ((rdOf ByteArray.empty t168 0).size)).extract ((wrap64 (((rdOf ByteArray.empty t172 0).size : Int) + 1)) : Int).toNat (((rdOf ByteArray.empty t168 0).size) - ((t167.size + 1 : Int) : Int).toNat), (t178.toList == (a0 ++ (⟨#[10]⟩ : ByteArray)).toList))) else (none))) else (some (rdOf ByteArray.empty t172 0, ((rdOf ByteArray.empty t168 0).extract ((t167.size + 1 : Int) : Int).toNat ((rdOf ByteArray.empty t168 0).size)).extract ((wrap64 (((rdOf ByteArray.empty t172 0).size : Int) + 1)) : Int).toNat (((rdOf ByteArray.empty t168 0).size) - ((t167.size + 1 : Int) : Int).toNat), false)))) else (none)) else (none))) else (none))) else (some ((⟨#[]⟩ : ByteArray), (⟨#[]⟩ : ByteArray), false))) else (none)) else (none))) else (none)) = some (r1, r2, r3) := H
    have A5 := Aside0.mk A50
    clear A50
    by_cases c6 : 0 < (t168.length : Int)
    · rw [if_pos c6] at H
      have c6b0 : decide (0 < (t168.length : Int)) = true := decide_eq_true c6
      have c6b1 : decide (0 < t168.length) = true := decide_eq_true (by omega)
      clear c6
      by_cases c7 : ((rdOf ByteArray.empty t168 0).size : Int) < (t167.size + 1 : Int)
      · rw [if_pos c7] at H
        have c7b0 : decide (((rdOf ByteArray.empty t168 0).size : Int) < (t167.size + 1 : Int)) = true := decide_eq_true c7
        have c7b1 : decide ((rdOf ByteArray.empty t168 0).size < t167.size + 1) = true := decide_eq_true (Int.ofNat_lt.mp c7)
        clear c7
        simp only [Option.some.injEq, Prod.mk.injEq] at H
        obtain ⟨rfl, rfl, rfl⟩ := H
        go_enter Tryz.func36, Tryz.ntmps36
        go_wp2_with (first | ((with_reducible refine gate_dst (N := 4) rfl ?_); (try (refine gate_guard (by rfl) ?_; dsimp only)); refine box_event ?hg (N := 4) ?hd (cs := #[.string (⟨#[]⟩ : ByteArray), .string (⟨#[]⟩ : ByteArray)]) (t := 68) ?hr ?_; (case hd => rfl); (case hg => rfl); (case hr => first | (go_simp; done) | (go_simp; rfl)); intro gb166 hg w8 hbox hb; have n0_ := Aside0.mk (below_step (by repeat (first | (with_reducible first | exact HB.out | apply below_alloc | apply pw_below_drewN | apply below_drew1) | exact HB.out)) hb); have n1_ := Aside0.mk (hbox); have n2_ := Aside0.mk ((by rw [hg]; exact (below_size (by repeat (first | (with_reducible first | exact HB.out | apply below_alloc | apply pw_below_drewN | apply below_drew1) | exact HB.out))) : w.heap.size ≤ gb166)); have n3_ := Aside0.mk ((by rw [hg]; exact (below_size (by repeat (first | (with_reducible first | exact HB.out | apply below_alloc | apply pw_below_drewN | apply below_drew1) | exact HB.out))) : w.heap.size ≤ gb166)); clear HB; have HB := n0_; have BK166 := n1_; have GW166 := n2_; have GE166 := n3_; clear n0_ n1_ n2_ n3_; clear hb hbox hg) | ((with_reducible refine gate_callee (f := 44) rfl ?_); refine goesL_ (some 12) rfl rfl Tryz.func44 (by kernel_rfl) rfl #[.int .i64 a1] rfl (by (try simp only [List.map_toArray, List.map_cons, List.map_nil]); first | done | rfl | (simp only [List.length_drop, List.length_take]; rfl)) ?_; (with_reducible refine (spec_l1Num.calls a1 t167 _ A3.out).mono ?_); rintro e w9 ⟨rfl, hb⟩; refine ⟨_, rfl, ?_⟩; have n0_ := Aside0.mk (blk_below (g := gb166) (o := .cells #[.string (⟨#[]⟩ : ByteArray), .string (⟨#[]⟩ : ByteArray)] 68 (0, 0)) (by (with_reducible repeat (first | refine blk_drewN ?_ _ | refine blk_drew ?_ | refine blk_alloc ?_ _)); exact BK166.out) hb); have n1_ := Aside0.mk (below_step (by repeat (first | (with_reducible first | exact HB.out | apply below_alloc | apply pw_below_drewN | apply below_drew1 | refine below_set ?_ GE166.out) | exact HB.out)) hb); clear BK166; clear HB; have BK166 := n0_; have HB := n1_; clear n0_ n1_; (try clear hb); (try clear hb2); (try clear hk); (try clear hi)) | ((with_reducible refine gate_callee (f := 35) rfl ?_); refine goesL_ (some 15) rfl rfl Tryz.func35 (by kernel_rfl) rfl #[.string a0, .int .u8 35] rfl (by (try simp only [List.map_toArray, List.map_cons, List.map_nil]); first | done | rfl | (simp only [List.length_drop, List.length_take]; rfl)) ?_; (with_reducible refine (spec_l1Split.calls k a0 35 t168 _ A5.out).mono ?_); rintro e w10 ⟨v169, rfl, ho0, hb⟩; refine ⟨_, rfl, ?_⟩; have n0_ := Aside0.mk (Kd.R_lower ho0 (below_size (by repeat (first | (with_reducible first | exact HB.out | apply below_alloc | apply pw_below_drewN | apply below_drew1 | refine below_set ?_ GE166.out) | exact HB.out)))); have n1_ := Aside0.mk (blk_below (g := gb166) (o := .cells #[.string (⟨#[]⟩ : ByteArray), .string (⟨#[]⟩ : ByteArray)] 68 (0, 0)) (by (with_reducible repeat (first | refine blk_drewN ?_ _ | refine blk_drew ?_ | refine blk_alloc ?_ _)); exact BK166.out) hb); have n2_ := Aside0.mk (below_step (by repeat (first | (with_reducible first | exact HB.out | apply below_alloc | apply pw_below_drewN | apply below_drew1 | refine below_set ?_ GE166.out) | exact HB.out)) hb); clear BK166; clear HB; have HO170 := n0_; have BK166 := n1_; have HB := n2_; clear n0_ n1_ n2_; (try clear hb); (try clear hb2); (try clear hk); (try clear hi); (try clear ho0); obtain ⟨Ao11, co11, eo11⟩ := Kd.R_slice HO170.out; subst eo11; have p171 : 0 ≤ (0 : Int) := (by omega); have q171 : 0 < (t168.length : Int) := of_decide_eq_true (by first | (with_reducible assumption) | assumption); obtain ⟨ad171, e171, hx171_0⟩ := Kd.at_string (Kd.R_reads' HO170.out).2.2 0 p171 q171; cases e171; have qi171 : (0 < t168.length) = True := eq_true (by omega); (try rw [show ((0 : Int)).toNat = 0 from rfl] at hx171_0); (try rw [Addr.add_zero'] at hx171_0); replace p171 := eq_true p171; replace q171 := eq_true q171; have hcz12_0 : w10.cell? ⟨gb166, 0, none⟩ = some (.string (⟨#[]⟩ : ByteArray)) := (blk_cell BK166.out 0).trans rfl; have hcz12_1 : w10.cell? ⟨gb166, 1, none⟩ = some (.string (⟨#[]⟩ : ByteArray)) := (blk_cell BK166.out 1).trans rfl; have hfz12_0 := blk_frozen BK166.out 0; have hfz12_1 := blk_frozen BK166.out 1))
        refine bodyPost_ret (results_ct rfl _ _ gb166 68 #[.string (⟨#[]⟩ : ByteArray), .string (⟨#[]⟩ : ByteArray)] (0, 0) _ rfl (by (with_reducible repeat (first | refine blk_drewN ?_ _ | refine blk_drew ?_ | refine blk_alloc ?_ _)); refine blk_put (cs := #[.string (⟨#[]⟩ : ByteArray), .string (⟨#[]⟩ : ByteArray)]) ?_ 1 _ rfl; (with_reducible repeat (first | refine blk_drewN ?_ _ | refine blk_drew ?_ | refine blk_alloc ?_ _)); refine blk_put (cs := #[.string (⟨#[]⟩ : ByteArray), .string (⟨#[]⟩ : ByteArray)]) ?_ 0 _ rfl; (with_reducible repeat (first | refine blk_drewN ?_ _ | refine blk_drew ?_ | refine blk_alloc ?_ _)); exact BK166.out) Tryz.underlying68 rfl (by kernel_rfl)) rfl ?_
        exact ⟨by first | rfl | (simp [errW_none, errW_some] <;> rfl) | (simp [*, errW_none, errW_some] <;> rfl), by repeat (first | (with_reducible first | exact HB.out | apply below_alloc | apply pw_below_drewN | apply below_drew1 | refine below_set ?_ GE166.out) | exact HB.out)⟩
      · rw [if_neg c7] at H
        have c7b0 : decide (((rdOf ByteArray.empty t168 0).size : Int) < (t167.size + 1 : Int)) = false := decide_eq_false c7
        have c7b1 : decide ((rdOf ByteArray.empty t168 0).size < t167.size + 1) = false := decide_eq_false (fun h => c7 (Int.ofNat_lt.mpr h))
        clear c7
        obtain ⟨ji13, hji13⟩ : ∃ j_ : Int, (t167.size + 1 : Int) = j_ := ⟨_, rfl⟩
        replace H : (if 0 ≤ (ji13) then (if (ji13) ≤ ((rdOf ByteArray.empty t168 0).size : Int) then (if ((rdOf ByteArray.empty t168 0).extract 0 ((ji13) : Int).toNat).toList = (t167 ++ (⟨#[32]⟩ : ByteArray)).toList then ((spec_l1Split.f k ((rdOf ByteArray.empty t168 0).extract ((ji13) : Int).toNat ((rdOf ByteArray.empty t168 0).size)) 64).bind fun t172 => (if 0 < (t172.length : Int) then (if ((rdOf ByteArray.empty t172 0).size : Int) = ((((rdOf ByteArray.empty t168 0).size) - ((ji13) : Int).toNat : Nat) : Int) then (some ((⟨#[]⟩ : ByteArray), (⟨#[]⟩ : ByteArray), false)) else (if 0 ≤ (wrap64 (((rdOf ByteArray.empty t172 0).size : Int) + 1)) then (if (wrap64 (((rdOf ByteArray.empty t172 0).size : Int) + 1)) ≤ ((((rdOf ByteArray.empty t168 0).size) - ((ji13) : Int).toNat : Nat) : Int) then ((spec_l12Record.f k (rdOf ByteArray.empty t172 0) (((rdOf ByteArray.empty t168 0).extract ((ji13) : Int).toNat ((rdOf ByteArray.empty t168 0).size)).extract ((wrap64 (((rdOf ByteArray.empty t172 0).size : Int) + 1)) : Int).toNat (((rdOf ByteArray.empty t168 0).size) - ((ji13) : Int).toNat))).bind fun t177 => (if t177 = true then ((spec_l12Line.f k a1 (rdOf ByteArray.empty t172 0) (((rdOf ByteArray.empty t168 0).extract ((ji13) : Int).toNat ((rdOf ByteArray.empty t168 0).size)).extract ((wrap64 (((rdOf ByteArray.empty t172 0).size : Int) + 1)) : Int).toNat (((rdOf ByteArray.empty t168 0).size) - ((ji13) : Int).toNat))).bind fun t178 => (if a0.size + 1 ≤ 9223372036854775807 then (some (rdOf ByteArray.empty t172 0, ((rdOf ByteArray.empty t168 0).extract ((ji13) : Int).toNat ((rdOf ByteArray.empty t168 0).size)).extract ((wrap64 (((rdOf ByteArray.empty t172 0).size : Int) + 1)) : Int).toNat (((rdOf ByteArray.empty t168 0).size) - ((ji13) : Int).toNat), (t178.toList == (a0 ++ (⟨#[10]⟩ : ByteArray)).toList))) else (none))) else (some (rdOf ByteArray.empty t172 0, ((rdOf ByteArray.empty t168 0).extract ((ji13) : Int).toNat ((rdOf ByteArray.empty t168 0).size)).extract ((wrap64 (((rdOf ByteArray.empty t172 0).size : Int) + 1)) : Int).toNat (((rdOf ByteArray.empty t168 0).size) - ((ji13) : Int).toNat), false)))) else (none)) else (none))) else (none))) else (some ((⟨#[]⟩ : ByteArray), (⟨#[]⟩ : ByteArray), false))) else (none)) else (none)) = some (r1, r2, r3) := by first | (rw [hji13] at H; exact H) | (simp only [hji13] at H ⊢; exact H)
        (try rw [hji13] at c7b0)
        (try rw [hji13] at A3)
        (try rw [hji13] at A5)
        by_cases c14 : 0 ≤ (ji13)
        · rw [if_pos c14] at H
          have c14b0 := eq_true c14
          have c14b1 : decide (0 ≤ (ji13)) = true := decide_eq_true c14
          clear c14
          by_cases c15 : (ji13) ≤ ((rdOf ByteArray.empty t168 0).size : Int)
          · rw [if_pos c15] at H
            have c15b0 := eq_true c15
            have c15b1 : decide ((ji13) ≤ ((rdOf ByteArray.empty t168 0).size : Int)) = true := decide_eq_true c15
            clear c15
            by_cases c16 : ((rdOf ByteArray.empty t168 0).extract 0 ((ji13) : Int).toNat).toList = (t167 ++ (⟨#[32]⟩ : ByteArray)).toList
            · rw [if_pos c16] at H
              have c16b0 : (((rdOf ByteArray.empty t168 0).extract 0 ((ji13) : Int).toNat).toList == (t167 ++ (⟨#[32]⟩ : ByteArray)).toList) = true := beq_iff_eq.mpr c16
              have c16b1 : (((rdOf ByteArray.empty t168 0).extract 0 ((ji13) : Int).toNat).toList != (t167 ++ (⟨#[32]⟩ : ByteArray)).toList) = false := bne_eq_false_iff_eq.mpr c16
              clear c16
              have c17b0 := eq_true (of_decide_eq_true (by first | (with_reducible assumption) | assumption) : 0 ≤ (ji13))
              have c18b0 := eq_true (of_decide_eq_true (by first | (with_reducible assumption) | assumption) : (ji13) ≤ ((rdOf ByteArray.empty t168 0).size : Int))
              replace H := Option.bind_eq_some_iff.mp H
              obtain ⟨t172, A190, H⟩ := H
              replace H : (if 0 < (t172.length : Int) then (if ((rdOf ByteArray.empty t172 0).size : Int) = ((((rdOf ByteArray.empty t168 0).size) - ((ji13) : Int).toNat : Nat) : Int) then (some ((⟨#[]⟩ : ByteArray), (⟨#[]⟩ : ByteArray), false)) else (if 0 ≤ (wrap64 (((rdOf ByteArray.empty t172 0).size : Int) + 1)) then (if (wrap64 (((rdOf ByteArray.empty t172 0).size : Int) + 1)) ≤ ((((rdOf ByteArray.empty t168 0).size) - ((ji13) : Int).toNat : Nat) : Int) then ((spec_l12Record.f k (rdOf ByteArray.empty t172 0) (((rdOf ByteArray.empty t168 0).extract ((ji13) : Int).toNat ((rdOf ByteArray.empty t168 0).size)).extract ((wrap64 (((rdOf ByteArray.empty t172 0).size : Int) + 1)) : Int).toNat (((rdOf ByteArray.empty t168 0).size) - ((ji13) : Int).toNat))).bind fun t177 => (if t177 = true then ((spec_l12Line.f k a1 (rdOf ByteArray.empty t172 0) (((rdOf ByteArray.empty t168 0).extract ((ji13) : Int).toNat ((rdOf ByteArray.empty t168 0).size)).extract ((wrap64 (((rdOf ByteArray.empty t172 0).size : Int) + 1)) : Int).toNat (((rdOf ByteArray.empty t168 0).size) - ((ji13) : Int).toNat))).bind fun t178 => (if a0.size + 1 ≤ 9223372036854775807 then (some (rdOf ByteArray.empty t172 0, ((rdOf ByteArray.empty t168 0).extract ((ji13) : Int).toNat ((rdOf ByteArray.empty t168 0).size)).extract ((wrap64 (((rdOf ByteArray.empty t172 0).size : Int) + 1)) : Int).toNat (((rdOf ByteArray.empty t168 0).size) - ((ji13) : Int).toNat), (t178.toList == (a0 ++ (⟨#[10]⟩ : ByteArray)).toList))) else (none))) else (some (rdOf ByteArray.empty t172 0, ((rdOf ByteArray.empty t168 0).extract ((ji13) : Int).toNat ((rdOf ByteArray.empty t168 0).size)).extract ((wrap64 (((rdOf ByteArray.empty t172 0).size : Int) + 1)) : Int).toNat (((rdOf ByteArray.empty t168 0).size) - ((ji13) : Int).toNat), false)))) else (none)) else (none))) else (none)) = some (r1, r2, r3) := H
              have A19 := Aside0.mk A190
              clear A190
              by_cases c20 : 0 < (t172.length : Int)
              · rw [if_pos c20] at H
                have c20b0 : decide (0 < (t172.length : Int)) = true := decide_eq_true c20
                have c20b1 : decide (0 < t172.length) = true := decide_eq_true (by omega)
                clear c20
                by_cases c21 : ((rdOf ByteArray.empty t172 0).size : Int) = ((((rdOf ByteArray.empty t168 0).size) - ((ji13) : Int).toNat : Nat) : Int)
                · rw [if_pos c21] at H
                  have c21b0 : (((rdOf ByteArray.empty t172 0).size : Int) == ((((rdOf ByteArray.empty t168 0).size) - ((ji13) : Int).toNat : Nat) : Int)) = true := beq_iff_eq.mpr c21
                  have c21b1 : (((rdOf ByteArray.empty t172 0).size : Int) != ((((rdOf ByteArray.empty t168 0).size) - ((ji13) : Int).toNat : Nat) : Int)) = false := bne_eq_false_iff_eq.mpr c21
                  have c21b2 : ((rdOf ByteArray.empty t172 0).size == ((rdOf ByteArray.empty t168 0).size) - ((ji13) : Int).toNat) = true := by first | simpa using c21 | (simp at c21 ⊢; omega)
                  clear c21
                  simp only [Option.some.injEq, Prod.mk.injEq] at H
                  obtain ⟨rfl, rfl, rfl⟩ := H
                  go_enter Tryz.func36, Tryz.ntmps36
                  go_wp2_with (first | ((with_reducible refine gate_dst (N := 4) rfl ?_); (try (refine gate_guard (by rfl) ?_; dsimp only)); refine box_event ?hg (N := 4) ?hd (cs := #[.string (⟨#[]⟩ : ByteArray), .string (⟨#[]⟩ : ByteArray)]) (t := 68) ?hr ?_; (case hd => rfl); (case hg => rfl); (case hr => first | (go_simp; done) | (go_simp; rfl)); intro gb166 hg w22 hbox hb; have n0_ := Aside0.mk (below_step (by repeat (first | (with_reducible first | exact HB.out | apply below_alloc | apply pw_below_drewN | apply below_drew1) | exact HB.out)) hb); have n1_ := Aside0.mk (hbox); have n2_ := Aside0.mk ((by rw [hg]; exact (below_size (by repeat (first | (with_reducible first | exact HB.out | apply below_alloc | apply pw_below_drewN | apply below_drew1) | exact HB.out))) : w.heap.size ≤ gb166)); have n3_ := Aside0.mk ((by rw [hg]; exact (below_size (by repeat (first | (with_reducible first | exact HB.out | apply below_alloc | apply pw_below_drewN | apply below_drew1) | exact HB.out))) : w.heap.size ≤ gb166)); clear HB; have HB := n0_; have BK166 := n1_; have GW166 := n2_; have GE166 := n3_; clear n0_ n1_ n2_ n3_; clear hb hbox hg) | ((with_reducible refine gate_callee (f := 44) rfl ?_); refine goesL_ (some 12) rfl rfl Tryz.func44 (by kernel_rfl) rfl #[.int .i64 a1] rfl (by (try simp only [List.map_toArray, List.map_cons, List.map_nil]); first | done | rfl | (simp only [List.length_drop, List.length_take]; rfl)) ?_; (with_reducible refine (spec_l1Num.calls a1 t167 _ A3.out).mono ?_); rintro e w23 ⟨rfl, hb⟩; refine ⟨_, rfl, ?_⟩; have n0_ := Aside0.mk (blk_below (g := gb166) (o := .cells #[.string (⟨#[]⟩ : ByteArray), .string (⟨#[]⟩ : ByteArray)] 68 (0, 0)) (by (with_reducible repeat (first | refine blk_drewN ?_ _ | refine blk_drew ?_ | refine blk_alloc ?_ _)); exact BK166.out) hb); have n1_ := Aside0.mk (below_step (by repeat (first | (with_reducible first | exact HB.out | apply below_alloc | apply pw_below_drewN | apply below_drew1 | refine below_set ?_ GE166.out) | exact HB.out)) hb); clear BK166; clear HB; have BK166 := n0_; have HB := n1_; clear n0_ n1_; (try clear hb); (try clear hb2); (try clear hk); (try clear hi)) | ((with_reducible refine gate_callee (f := 35) rfl ?_); refine goesL_ (some 15) rfl rfl Tryz.func35 (by kernel_rfl) rfl #[.string a0, .int .u8 35] rfl (by (try simp only [List.map_toArray, List.map_cons, List.map_nil]); first | done | rfl | (simp only [List.length_drop, List.length_take]; rfl)) ?_; (with_reducible refine (spec_l1Split.calls k a0 35 t168 _ A5.out).mono ?_); rintro e w24 ⟨v169, rfl, ho0, hb⟩; refine ⟨_, rfl, ?_⟩; have n0_ := Aside0.mk (Kd.R_lower ho0 (below_size (by repeat (first | (with_reducible first | exact HB.out | apply below_alloc | apply pw_below_drewN | apply below_drew1 | refine below_set ?_ GE166.out) | exact HB.out)))); have n1_ := Aside0.mk (blk_below (g := gb166) (o := .cells #[.string (⟨#[]⟩ : ByteArray), .string (⟨#[]⟩ : ByteArray)] 68 (0, 0)) (by (with_reducible repeat (first | refine blk_drewN ?_ _ | refine blk_drew ?_ | refine blk_alloc ?_ _)); exact BK166.out) hb); have n2_ := Aside0.mk (below_step (by repeat (first | (with_reducible first | exact HB.out | apply below_alloc | apply pw_below_drewN | apply below_drew1 | refine below_set ?_ GE166.out) | exact HB.out)) hb); clear BK166; clear HB; have HO170 := n0_; have BK166 := n1_; have HB := n2_; clear n0_ n1_ n2_; (try clear hb); (try clear hb2); (try clear hk); (try clear hi); (try clear ho0); obtain ⟨Ao25, co25, eo25⟩ := Kd.R_slice HO170.out; subst eo25; have p171 : 0 ≤ (0 : Int) := (by omega); have q171 : 0 < (t168.length : Int) := of_decide_eq_true (by first | (with_reducible assumption) | assumption); obtain ⟨ad171, e171, hx171_0⟩ := Kd.at_string (Kd.R_reads' HO170.out).2.2 0 p171 q171; cases e171; have qi171 : (0 < t168.length) = True := eq_true (by omega); (try rw [show ((0 : Int)).toNat = 0 from rfl] at hx171_0); (try rw [Addr.add_zero'] at hx171_0); replace p171 := eq_true p171; replace q171 := eq_true q171) | ((with_reducible refine gate_callee (f := 35) rfl ?_); refine goesL_ (some 37) rfl rfl Tryz.func35 (by kernel_rfl) rfl #[.string ((rdOf ByteArray.empty t168 0).extract ((ji13) : Int).toNat ((rdOf ByteArray.empty t168 0).size)), .int .u8 64] rfl (by (try simp only [List.map_toArray, List.map_cons, List.map_nil]); first | done | (simp only [hji13]; rfl) | rfl | (simp only [List.length_drop, List.length_take]; rfl)) ?_; (with_reducible refine (spec_l1Split.calls k ((rdOf ByteArray.empty t168 0).extract ((ji13) : Int).toNat ((rdOf ByteArray.empty t168 0).size)) 64 t172 _ A19.out).mono ?_); rintro e w26 ⟨v173, rfl, ho0, hb⟩; refine ⟨_, rfl, ?_⟩; have n0_ := Aside0.mk (Kd.R_elder' (by (with_reducible repeat (first | apply Kd.R_alloc | apply Kd.R_drewN | apply Kd.R_drew)); exact HO170.out) (Kd.R_base ho0) hb); have n1_ := Aside0.mk (Kd.R_lower (Kd.R_new' ho0 (Kd.R_lt (by (with_reducible repeat (first | apply Kd.R_alloc | apply Kd.R_drewN | apply Kd.R_drew)); exact HO170.out))) (below_size (by repeat (first | (with_reducible first | exact HB.out | apply below_alloc | apply pw_below_drewN | apply below_drew1 | refine below_set ?_ GE166.out) | exact HB.out)))); have n2_ := Aside0.mk (blk_below (g := gb166) (o := .cells #[.string (⟨#[]⟩ : ByteArray), .string (⟨#[]⟩ : ByteArray)] 68 (0, 0)) (by (with_reducible repeat (first | refine blk_drewN ?_ _ | refine blk_drew ?_ | refine blk_alloc ?_ _)); exact BK166.out) hb); have n3_ := Aside0.mk (below_step (by repeat (first | (with_reducible first | exact HB.out | apply below_alloc | apply pw_below_drewN | apply below_drew1 | refine below_set ?_ GE166.out) | exact HB.out)) hb); clear HO170; clear BK166; clear HB; have HO170 := n0_; have HO174 := n1_; have BK166 := n2_; have HB := n3_; clear n0_ n1_ n2_ n3_; (try clear hb); (try clear hb2); (try clear hk); (try clear hi); (try clear ho0); obtain ⟨Ao27, co27, eo27⟩ := Kd.R_slice HO174.out; subst eo27; have p175 : 0 ≤ (0 : Int) := (by omega); have q175 : 0 < (t172.length : Int) := of_decide_eq_true (by first | (with_reducible assumption) | assumption); obtain ⟨ad175, e175, hx175_0⟩ := Kd.at_string (Kd.R_reads' HO174.out).2.2 0 p175 q175; cases e175; have qi175 : (0 < t172.length) = True := eq_true (by omega); (try rw [show ((0 : Int)).toNat = 0 from rfl] at hx175_0); (try rw [Addr.add_zero'] at hx175_0); replace p175 := eq_true p175; replace q175 := eq_true q175; have hcz28_0 : w26.cell? ⟨gb166, 0, none⟩ = some (.string (⟨#[]⟩ : ByteArray)) := (blk_cell BK166.out 0).trans rfl; have hcz28_1 : w26.cell? ⟨gb166, 1, none⟩ = some (.string (⟨#[]⟩ : ByteArray)) := (blk_cell BK166.out 1).trans rfl; have hfz28_0 := blk_frozen BK166.out 0; have hfz28_1 := blk_frozen BK166.out 1))
                  refine bodyPost_ret (results_ct rfl _ _ gb166 68 #[.string (⟨#[]⟩ : ByteArray), .string (⟨#[]⟩ : ByteArray)] (0, 0) _ rfl (by (with_reducible repeat (first | refine blk_drewN ?_ _ | refine blk_drew ?_ | refine blk_alloc ?_ _)); refine blk_put (cs := #[.string (⟨#[]⟩ : ByteArray), .string (⟨#[]⟩ : ByteArray)]) ?_ 1 _ rfl; (with_reducible repeat (first | refine blk_drewN ?_ _ | refine blk_drew ?_ | refine blk_alloc ?_ _)); refine blk_put (cs := #[.string (⟨#[]⟩ : ByteArray), .string (⟨#[]⟩ : ByteArray)]) ?_ 0 _ rfl; (with_reducible repeat (first | refine blk_drewN ?_ _ | refine blk_drew ?_ | refine blk_alloc ?_ _)); exact BK166.out) Tryz.underlying68 rfl (by kernel_rfl)) rfl ?_
                  exact ⟨by first | rfl | (simp [errW_none, errW_some] <;> rfl) | (simp only [← hji13]; first | rfl | (simp [errW_none, errW_some] <;> rfl)) | (simp [*, errW_none, errW_some] <;> rfl), by repeat (first | (with_reducible first | exact HB.out | apply below_alloc | apply pw_below_drewN | apply below_drew1 | refine below_set ?_ GE166.out) | exact HB.out)⟩
                · rw [if_neg c21] at H
                  have c21b0 : (((rdOf ByteArray.empty t172 0).size : Int) == ((((rdOf ByteArray.empty t168 0).size) - ((ji13) : Int).toNat : Nat) : Int)) = false := beq_eq_false_iff_ne.mpr c21
                  have c21b1 : (((rdOf ByteArray.empty t172 0).size : Int) != ((((rdOf ByteArray.empty t168 0).size) - ((ji13) : Int).toNat : Nat) : Int)) = true := bne_iff_ne.mpr c21
                  have c21b2 : ((rdOf ByteArray.empty t172 0).size == ((rdOf ByteArray.empty t168 0).size) - ((ji13) : Int).toNat) = false := by first | simpa using c21 | (simp at c21 ⊢; omega)
                  obtain ⟨ji29, hji29⟩ : ∃ j_ : Int, (wrap64 (((rdOf ByteArray.empty t172 0).size : Int) + 1)) = j_ := ⟨_, rfl⟩
                  replace H : (if 0 ≤ (ji29) then (if (ji29) ≤ ((((rdOf ByteArray.empty t168 0).size) - ((ji13) : Int).toNat : Nat) : Int) then ((spec_l12Record.f k (rdOf ByteArray.empty t172 0) (((rdOf ByteArray.empty t168 0).extract ((ji13) : Int).toNat ((rdOf ByteArray.empty t168 0).size)).extract ((ji29) : Int).toNat (((rdOf ByteArray.empty t168 0).size) - ((ji13) : Int).toNat))).bind fun t177 => (if t177 = true then ((spec_l12Line.f k a1 (rdOf ByteArray.empty t172 0) (((rdOf ByteArray.empty t168 0).extract ((ji13) : Int).toNat ((rdOf ByteArray.empty t168 0).size)).extract ((ji29) : Int).toNat (((rdOf ByteArray.empty t168 0).size) - ((ji13) : Int).toNat))).bind fun t178 => (if a0.size + 1 ≤ 9223372036854775807 then (some (rdOf ByteArray.empty t172 0, ((rdOf ByteArray.empty t168 0).extract ((ji13) : Int).toNat ((rdOf ByteArray.empty t168 0).size)).extract ((ji29) : Int).toNat (((rdOf ByteArray.empty t168 0).size) - ((ji13) : Int).toNat), (t178.toList == (a0 ++ (⟨#[10]⟩ : ByteArray)).toList))) else (none))) else (some (rdOf ByteArray.empty t172 0, ((rdOf ByteArray.empty t168 0).extract ((ji13) : Int).toNat ((rdOf ByteArray.empty t168 0).size)).extract ((ji29) : Int).toNat (((rdOf ByteArray.empty t168 0).size) - ((ji13) : Int).toNat), false)))) else (none)) else (none)) = some (r1, r2, r3) := by first | (rw [hji29] at H; exact H) | (simp only [hji29] at H ⊢; exact H)
                  (try rw [hji29] at A3)
                  (try rw [hji29] at A5)
                  (try rw [hji29] at A19)
                  have hji29w : (IntKind.i64.wrap (((rdOf ByteArray.empty t172 0).size : Int) + 1)) = ji29 := (i64_w _).trans hji29
                  by_cases c30 : 0 ≤ (ji29)
                  · rw [if_pos c30] at H
                    have c30b0 := eq_true c30
                    have c30b1 : decide (0 ≤ (ji29)) = true := decide_eq_true c30
                    clear c30
                    by_cases c31 : (ji29) ≤ ((((rdOf ByteArray.empty t168 0).size) - ((ji13) : Int).toNat : Nat) : Int)
                    · rw [if_pos c31] at H
                      have c31b0 := eq_true c31
                      have c31b1 : decide ((ji29) ≤ ((((rdOf ByteArray.empty t168 0).size) - ((ji13) : Int).toNat : Nat) : Int)) = true := decide_eq_true c31
                      clear c31
                      replace H := Option.bind_eq_some_iff.mp H
                      obtain ⟨t177, A320, H⟩ := H
                      replace H : (if t177 = true then ((spec_l12Line.f k a1 (rdOf ByteArray.empty t172 0) (((rdOf ByteArray.empty t168 0).extract ((ji13) : Int).toNat ((rdOf ByteArray.empty t168 0).size)).extract ((ji29) : Int).toNat (((rdOf ByteArray.empty t168 0).size) - ((ji13) : Int).toNat))).bind fun t178 => (if a0.size + 1 ≤ 9223372036854775807 then (some (rdOf ByteArray.empty t172 0, ((rdOf ByteArray.empty t168 0).extract ((ji13) : Int).toNat ((rdOf ByteArray.empty t168 0).size)).extract ((ji29) : Int).toNat (((rdOf ByteArray.empty t168 0).size) - ((ji13) : Int).toNat), (t178.toList == (a0 ++ (⟨#[10]⟩ : ByteArray)).toList))) else (none))) else (some (rdOf ByteArray.empty t172 0, ((rdOf ByteArray.empty t168 0).extract ((ji13) : Int).toNat ((rdOf ByteArray.empty t168 0).size)).extract ((ji29) : Int).toNat (((rdOf ByteArray.empty t168 0).size) - ((ji13) : Int).toNat), false))) = some (r1, r2, r3) := H
                      have A32 := Aside0.mk A320
                      clear A320
                      by_cases c33 : t177 = true
                      · subst c33
                        have H1 : ((spec_l12Line.f k a1 (rdOf ByteArray.empty t172 0) (((rdOf ByteArray.empty t168 0).extract ((ji13) : Int).toNat ((rdOf ByteArray.empty t168 0).size)).extract ((ji29) : Int).toNat (((rdOf ByteArray.empty t168 0).size) - ((ji13) : Int).toNat))).bind fun t178 => (if a0.size + 1 ≤ 9223372036854775807 then (some (rdOf ByteArray.empty t172 0, ((rdOf ByteArray.empty t168 0).extract ((ji13) : Int).toNat ((rdOf ByteArray.empty t168 0).size)).extract ((ji29) : Int).toNat (((rdOf ByteArray.empty t168 0).size) - ((ji13) : Int).toNat), (t178.toList == (a0 ++ (⟨#[10]⟩ : ByteArray)).toList))) else (none))) = some (r1, r2, r3) := by rw [if_pos rfl] at H; exact H
                        clear H
                        have H := H1
                        clear H1
                        replace H := Option.bind_eq_some_iff.mp H
                        obtain ⟨t178, A340, H⟩ := H
                        replace H : (if a0.size + 1 ≤ 9223372036854775807 then (some (rdOf ByteArray.empty t172 0, ((rdOf ByteArray.empty t168 0).extract ((ji13) : Int).toNat ((rdOf ByteArray.empty t168 0).size)).extract ((ji29) : Int).toNat (((rdOf ByteArray.empty t168 0).size) - ((ji13) : Int).toNat), (t178.toList == (a0 ++ (⟨#[10]⟩ : ByteArray)).toList))) else (none)) = some (r1, r2, r3) := H
                        have A34 := Aside0.mk A340
                        clear A340
                        by_cases c35 : a0.size + 1 ≤ 9223372036854775807
                        · rw [if_pos c35] at H
                          have c35b0 := eq_true c35
                          have c35b1 : decide (a0.size + 1 ≤ 9223372036854775807) = true := decide_eq_true c35
                          try have c35b2 : (9223372036854775807 < a0.size + 1) = False := eq_false (Nat.not_lt.2 c35)
                          simp only [Option.some.injEq, Prod.mk.injEq] at H
                          obtain ⟨rfl, rfl, rfl⟩ := H
                          go_enter Tryz.func36, Tryz.ntmps36
                          try go_wp2_with (first | ((with_reducible refine gate_dst (N := 4) rfl ?_); (try (refine gate_guard (by rfl) ?_; dsimp only)); refine box_event ?hg (N := 4) ?hd (cs := #[.string (⟨#[]⟩ : ByteArray), .string (⟨#[]⟩ : ByteArray)]) (t := 68) ?hr ?_; (case hd => rfl); (case hg => rfl); (case hr => first | (go_simp; done) | (go_simp; rfl)); intro gb166 hg w36 hbox hb; have n0_ := Aside0.mk (below_step (by repeat (first | (with_reducible first | exact HB.out | apply below_alloc | apply pw_below_drewN | apply below_drew1) | exact HB.out)) hb); have n1_ := Aside0.mk (hbox); have n2_ := Aside0.mk ((by rw [hg]; exact (below_size (by repeat (first | (with_reducible first | exact HB.out | apply below_alloc | apply pw_below_drewN | apply below_drew1) | exact HB.out))) : w.heap.size ≤ gb166)); have n3_ := Aside0.mk ((by rw [hg]; exact (below_size (by repeat (first | (with_reducible first | exact HB.out | apply below_alloc | apply pw_below_drewN | apply below_drew1) | exact HB.out))) : w.heap.size ≤ gb166)); clear HB; have HB := n0_; have BK166 := n1_; have GW166 := n2_; have GE166 := n3_; clear n0_ n1_ n2_ n3_; clear hb hbox hg) | ((with_reducible refine gate_callee (f := 44) rfl ?_); refine goesL_ (some 12) rfl rfl Tryz.func44 (by kernel_rfl) rfl #[.int .i64 a1] rfl (by (try simp only [List.map_toArray, List.map_cons, List.map_nil]); first | done | rfl | (simp only [List.length_drop, List.length_take]; rfl)) ?_; (with_reducible refine (spec_l1Num.calls a1 t167 _ A3.out).mono ?_); rintro e w37 ⟨rfl, hb⟩; refine ⟨_, rfl, ?_⟩; have n0_ := Aside0.mk (blk_below (g := gb166) (o := .cells #[.string (⟨#[]⟩ : ByteArray), .string (⟨#[]⟩ : ByteArray)] 68 (0, 0)) (by (with_reducible repeat (first | refine blk_drewN ?_ _ | refine blk_drew ?_ | refine blk_alloc ?_ _)); exact BK166.out) hb); have n1_ := Aside0.mk (below_step (by repeat (first | (with_reducible first | exact HB.out | apply below_alloc | apply pw_below_drewN | apply below_drew1 | refine below_set ?_ GE166.out) | exact HB.out)) hb); clear BK166; clear HB; have BK166 := n0_; have HB := n1_; clear n0_ n1_; (try clear hb); (try clear hb2); (try clear hk); (try clear hi)) | ((with_reducible refine gate_callee (f := 35) rfl ?_); refine goesL_ (some 15) rfl rfl Tryz.func35 (by kernel_rfl) rfl #[.string a0, .int .u8 35] rfl (by (try simp only [List.map_toArray, List.map_cons, List.map_nil]); first | done | rfl | (simp only [List.length_drop, List.length_take]; rfl)) ?_; (with_reducible refine (spec_l1Split.calls k a0 35 t168 _ A5.out).mono ?_); rintro e w38 ⟨v169, rfl, ho0, hb⟩; refine ⟨_, rfl, ?_⟩; have n0_ := Aside0.mk (Kd.R_lower ho0 (below_size (by repeat (first | (with_reducible first | exact HB.out | apply below_alloc | apply pw_below_drewN | apply below_drew1 | refine below_set ?_ GE166.out) | exact HB.out)))); have n1_ := Aside0.mk (blk_below (g := gb166) (o := .cells #[.string (⟨#[]⟩ : ByteArray), .string (⟨#[]⟩ : ByteArray)] 68 (0, 0)) (by (with_reducible repeat (first | refine blk_drewN ?_ _ | refine blk_drew ?_ | refine blk_alloc ?_ _)); exact BK166.out) hb); have n2_ := Aside0.mk (below_step (by repeat (first | (with_reducible first | exact HB.out | apply below_alloc | apply pw_below_drewN | apply below_drew1 | refine below_set ?_ GE166.out) | exact HB.out)) hb); clear BK166; clear HB; have HO170 := n0_; have BK166 := n1_; have HB := n2_; clear n0_ n1_ n2_; (try clear hb); (try clear hb2); (try clear hk); (try clear hi); (try clear ho0); obtain ⟨Ao39, co39, eo39⟩ := Kd.R_slice HO170.out; subst eo39; have p171 : 0 ≤ (0 : Int) := (by omega); have q171 : 0 < (t168.length : Int) := of_decide_eq_true (by first | (with_reducible assumption) | assumption); obtain ⟨ad171, e171, hx171_0⟩ := Kd.at_string (Kd.R_reads' HO170.out).2.2 0 p171 q171; cases e171; have qi171 : (0 < t168.length) = True := eq_true (by omega); (try rw [show ((0 : Int)).toNat = 0 from rfl] at hx171_0); (try rw [Addr.add_zero'] at hx171_0); replace p171 := eq_true p171; replace q171 := eq_true q171) | ((with_reducible refine gate_callee (f := 35) rfl ?_); refine goesL_ (some 37) rfl rfl Tryz.func35 (by kernel_rfl) rfl #[.string ((rdOf ByteArray.empty t168 0).extract ((ji13) : Int).toNat ((rdOf ByteArray.empty t168 0).size)), .int .u8 64] rfl (by (try simp only [List.map_toArray, List.map_cons, List.map_nil]); first | done | (simp only [hji13]; rfl) | rfl | (simp only [List.length_drop, List.length_take]; rfl)) ?_; (with_reducible refine (spec_l1Split.calls k ((rdOf ByteArray.empty t168 0).extract ((ji13) : Int).toNat ((rdOf ByteArray.empty t168 0).size)) 64 t172 _ A19.out).mono ?_); rintro e w40 ⟨v173, rfl, ho0, hb⟩; refine ⟨_, rfl, ?_⟩; have n0_ := Aside0.mk (Kd.R_elder' (by (with_reducible repeat (first | apply Kd.R_alloc | apply Kd.R_drewN | apply Kd.R_drew)); exact HO170.out) (Kd.R_base ho0) hb); have n1_ := Aside0.mk (Kd.R_lower (Kd.R_new' ho0 (Kd.R_lt (by (with_reducible repeat (first | apply Kd.R_alloc | apply Kd.R_drewN | apply Kd.R_drew)); exact HO170.out))) (below_size (by repeat (first | (with_reducible first | exact HB.out | apply below_alloc | apply pw_below_drewN | apply below_drew1 | refine below_set ?_ GE166.out) | exact HB.out)))); have n2_ := Aside0.mk (blk_below (g := gb166) (o := .cells #[.string (⟨#[]⟩ : ByteArray), .string (⟨#[]⟩ : ByteArray)] 68 (0, 0)) (by (with_reducible repeat (first | refine blk_drewN ?_ _ | refine blk_drew ?_ | refine blk_alloc ?_ _)); exact BK166.out) hb); have n3_ := Aside0.mk (below_step (by repeat (first | (with_reducible first | exact HB.out | apply below_alloc | apply pw_below_drewN | apply below_drew1 | refine below_set ?_ GE166.out) | exact HB.out)) hb); clear HO170; clear BK166; clear HB; have HO170 := n0_; have HO174 := n1_; have BK166 := n2_; have HB := n3_; clear n0_ n1_ n2_ n3_; (try clear hb); (try clear hb2); (try clear hk); (try clear hi); (try clear ho0); obtain ⟨Ao41, co41, eo41⟩ := Kd.R_slice HO174.out; subst eo41; have p175 : 0 ≤ (0 : Int) := (by omega); have q175 : 0 < (t172.length : Int) := of_decide_eq_true (by first | (with_reducible assumption) | assumption); obtain ⟨ad175, e175, hx175_0⟩ := Kd.at_string (Kd.R_reads' HO174.out).2.2 0 p175 q175; cases e175; have qi175 : (0 < t172.length) = True := eq_true (by omega); (try rw [show ((0 : Int)).toNat = 0 from rfl] at hx175_0); (try rw [Addr.add_zero'] at hx175_0); replace p175 := eq_true p175; replace q175 := eq_true q175) | ((with_reducible refine gate_dst (N := 10) rfl ?_); (try (refine gate_guard (by rfl) ?_; dsimp only)); refine box_event ?hg (N := 10) ?hd (cs := #[.string (⟨#[]⟩ : ByteArray), .string (⟨#[]⟩ : ByteArray)]) (t := 68) ?hr ?_; (case hd => rfl); (case hg => rfl); (case hr => first | (go_simp; done) | (go_simp; rfl)); intro gb176 hg w42 hbox hb; have n0_ := Aside0.mk (Kd.R_below (by (with_reducible repeat (first | apply Kd.R_alloc | apply Kd.R_drewN | apply Kd.R_drew)); exact HO170.out) hb); have n1_ := Aside0.mk (Kd.R_below (by (with_reducible repeat (first | apply Kd.R_alloc | apply Kd.R_drewN | apply Kd.R_drew)); exact HO174.out) hb); have n2_ := Aside0.mk (blk_below (g := gb166) (o := .cells #[.string (⟨#[]⟩ : ByteArray), .string (⟨#[]⟩ : ByteArray)] 68 (0, 0)) (by (with_reducible repeat (first | refine blk_drewN ?_ _ | refine blk_drew ?_ | refine blk_alloc ?_ _)); exact BK166.out) hb); have n3_ := Aside0.mk (below_step (by repeat (first | (with_reducible first | exact HB.out | apply below_alloc | apply pw_below_drewN | apply below_drew1 | refine below_set ?_ GE166.out) | exact HB.out)) hb); have n4_ := Aside0.mk (hbox); have n5_ := Aside0.mk ((by rw [hg]; exact (below_size (by repeat (first | (with_reducible first | exact HB.out | apply below_alloc | apply pw_below_drewN | apply below_drew1 | refine below_set ?_ GE166.out) | exact HB.out))) : w.heap.size ≤ gb176)); have n6_ := Aside0.mk ((by rw [hg]; exact (below_size (by repeat (first | (with_reducible first | exact HB.out | apply below_alloc | apply pw_below_drewN | apply below_drew1 | refine below_set ?_ GE166.out) | exact HB.out))) : w.heap.size ≤ gb176)); have n7_ := Aside0.mk ((by rw [hg]; exact Nat.ne_of_lt (blk_lt (g := gb166) (o := .cells #[.string (⟨#[]⟩ : ByteArray), .string (⟨#[]⟩ : ByteArray)] 68 (0, 0)) (by (with_reducible repeat (first | refine blk_drewN ?_ _ | refine blk_drew ?_ | refine blk_alloc ?_ _)); exact BK166.out)) : gb166 ≠ gb176)); have n8_ := Aside0.mk ((by rw [hg]; exact Nat.ne_of_gt (blk_lt (g := gb166) (o := .cells #[.string (⟨#[]⟩ : ByteArray), .string (⟨#[]⟩ : ByteArray)] 68 (0, 0)) (by (with_reducible repeat (first | refine blk_drewN ?_ _ | refine blk_drew ?_ | refine blk_alloc ?_ _)); exact BK166.out)) : gb176 ≠ gb166)); clear HO170; clear HO174; clear BK166; clear HB; have HO170 := n0_; have HO174 := n1_; have BK166 := n2_; have HB := n3_; have BK176 := n4_; have GW176 := n5_; have GE176 := n6_; have NB166_176 := n7_; have NB176_166 := n8_; clear n0_ n1_ n2_ n3_ n4_ n5_ n6_ n7_ n8_; clear hb hbox hg; have hnb43 := NB176_166.out; have hnc43 := NB166_176.out; have hcz44_0 : w42.cell? ⟨gb176, 0, none⟩ = some (.string (⟨#[]⟩ : ByteArray)) := (blk_cell BK176.out 0).trans rfl; have hcz44_1 : w42.cell? ⟨gb176, 1, none⟩ = some (.string (⟨#[]⟩ : ByteArray)) := (blk_cell BK176.out 1).trans rfl; have hfz44_0 := blk_frozen BK176.out 0; have hfz44_1 := blk_frozen BK176.out 1))
                          have n0_ : Aside0 (Kd.R Kd.string 9 ((w42.setCell ⟨gb176, 0, none⟩ (.string (rdOf ByteArray.empty t172 0))).setCell ⟨gb176, 1, none⟩ (.string (((rdOf ByteArray.empty t168 0).extract ((ji13) : Int).toNat ((rdOf ByteArray.empty t168 0).size)).extract ((ji29) : Int).toNat (((rdOf ByteArray.empty t168 0).size) - ((ji13) : Int).toNat)))) w.heap.size (fun k_ => some k_ ≠ (.slice (some ad175) t172.length co41 : Value).ownBlock) (.slice (some ad171) t168.length co39) t168) := ⟨by (with_reducible repeat (first | apply Kd.R_alloc | apply Kd.R_drewN | apply Kd.R_drew)); exact Kd.R_mono (Kd.R_far (p := ⟨gb176, 1, none⟩) (Kd.R_far (p := ⟨gb176, 0, none⟩) (Kd.R_types HO170.out BK176.out (by decide)) (fun _ hk => hk.2) (.string (rdOf ByteArray.empty t172 0))) (fun _ hk => hk.2) (.string (((rdOf ByteArray.empty t168 0).extract ((ji13) : Int).toNat ((rdOf ByteArray.empty t168 0).size)).extract ((ji29) : Int).toNat (((rdOf ByteArray.empty t168 0).size) - ((ji13) : Int).toNat)))) (fun _ hk => hk.1.2)⟩
                          have n1_ : Aside0 (Kd.R Kd.string 9 ((w42.setCell ⟨gb176, 0, none⟩ (.string (rdOf ByteArray.empty t172 0))).setCell ⟨gb176, 1, none⟩ (.string (((rdOf ByteArray.empty t168 0).extract ((ji13) : Int).toNat ((rdOf ByteArray.empty t168 0).size)).extract ((ji29) : Int).toNat (((rdOf ByteArray.empty t168 0).size) - ((ji13) : Int).toNat)))) w.heap.size (fun k_ => some k_ ≠ (.slice (some ad171) t168.length co39 : Value).ownBlock) (.slice (some ad175) t172.length co41) t172) := ⟨by (with_reducible repeat (first | apply Kd.R_alloc | apply Kd.R_drewN | apply Kd.R_drew)); exact Kd.R_mono (Kd.R_far (p := ⟨gb176, 1, none⟩) (Kd.R_far (p := ⟨gb176, 0, none⟩) (Kd.R_types HO174.out BK176.out (by decide)) (fun _ hk => hk.2) (.string (rdOf ByteArray.empty t172 0))) (fun _ hk => hk.2) (.string (((rdOf ByteArray.empty t168 0).extract ((ji13) : Int).toNat ((rdOf ByteArray.empty t168 0).size)).extract ((ji29) : Int).toNat (((rdOf ByteArray.empty t168 0).size) - ((ji13) : Int).toNat)))) (fun _ hk => hk.1.2)⟩
                          have n2_ : Aside0 (((w42.setCell ⟨gb176, 0, none⟩ (.string (rdOf ByteArray.empty t172 0))).setCell ⟨gb176, 1, none⟩ (.string (((rdOf ByteArray.empty t168 0).extract ((ji13) : Int).toNat ((rdOf ByteArray.empty t168 0).size)).extract ((ji29) : Int).toNat (((rdOf ByteArray.empty t168 0).size) - ((ji13) : Int).toNat)))).heap[gb166]? = some (.cells #[.string (⟨#[]⟩ : ByteArray), .string (⟨#[]⟩ : ByteArray)] 68 (0, 0))) := ⟨by (with_reducible repeat (first | refine blk_drewN ?_ _ | refine blk_drew ?_ | refine blk_alloc ?_ _)); refine blk_far ?_ NB166_176.out _; (with_reducible repeat (first | refine blk_drewN ?_ _ | refine blk_drew ?_ | refine blk_alloc ?_ _)); refine blk_far ?_ NB166_176.out _; (with_reducible repeat (first | refine blk_drewN ?_ _ | refine blk_drew ?_ | refine blk_alloc ?_ _)); exact BK166.out⟩
                          have n3_ : Aside0 (((w42.setCell ⟨gb176, 0, none⟩ (.string (rdOf ByteArray.empty t172 0))).setCell ⟨gb176, 1, none⟩ (.string (((rdOf ByteArray.empty t168 0).extract ((ji13) : Int).toNat ((rdOf ByteArray.empty t168 0).size)).extract ((ji29) : Int).toNat (((rdOf ByteArray.empty t168 0).size) - ((ji13) : Int).toNat)))).heap[gb176]? = some (.cells #[.string (rdOf ByteArray.empty t172 0), .string (((rdOf ByteArray.empty t168 0).extract ((ji13) : Int).toNat ((rdOf ByteArray.empty t168 0).size)).extract ((ji29) : Int).toNat (((rdOf ByteArray.empty t168 0).size) - ((ji13) : Int).toNat))] 68 (0, 0))) := ⟨by (with_reducible repeat (first | refine blk_drewN ?_ _ | refine blk_drew ?_ | refine blk_alloc ?_ _)); refine blk_put (cs := #[.string (rdOf ByteArray.empty t172 0), .string (⟨#[]⟩ : ByteArray)]) ?_ 1 _ rfl; (with_reducible repeat (first | refine blk_drewN ?_ _ | refine blk_drew ?_ | refine blk_alloc ?_ _)); refine blk_put (cs := #[.string (⟨#[]⟩ : ByteArray), .string (⟨#[]⟩ : ByteArray)]) ?_ 0 _ rfl; (with_reducible repeat (first | refine blk_drewN ?_ _ | refine blk_drew ?_ | refine blk_alloc ?_ _)); exact BK176.out⟩
                          have n4_ : Aside0 (Below w.heap.size w ((w42.setCell ⟨gb176, 0, none⟩ (.string (rdOf ByteArray.empty t172 0))).setCell ⟨gb176, 1, none⟩ (.string (((rdOf ByteArray.empty t168 0).extract ((ji13) : Int).toNat ((rdOf ByteArray.empty t168 0).size)).extract ((ji29) : Int).toNat (((rdOf ByteArray.empty t168 0).size) - ((ji13) : Int).toNat))))) := ⟨by repeat (first | (with_reducible first | exact HB.out | apply below_alloc | apply pw_below_drewN | apply below_drew1 | refine below_set ?_ GE166.out | refine below_set ?_ GE176.out) | exact HB.out)⟩
                          (try clear HO170)
                          (try clear HO174)
                          (try clear BK166)
                          (try clear BK176)
                          (try clear HB)
                          generalize ((w42.setCell ⟨gb176, 0, none⟩ (.string (rdOf ByteArray.empty t172 0))).setCell ⟨gb176, 1, none⟩ (.string (((rdOf ByteArray.empty t168 0).extract ((ji13) : Int).toNat ((rdOf ByteArray.empty t168 0).size)).extract ((ji29) : Int).toNat (((rdOf ByteArray.empty t168 0).size) - ((ji13) : Int).toNat)))) = w45 at n0_ n1_ n2_ n3_ n4_ ⊢
                          have HO170 := n0_
                          have HO174 := n1_
                          have BK166 := n2_
                          have BK176 := n3_
                          have HB := n4_
                          clear n0_ n1_ n2_ n3_ n4_
                          have n0_ := Aside0.mk (Kd.R_drew HO170.out)
                          have n1_ := Aside0.mk (Kd.R_drew HO174.out)
                          have n2_ := Aside0.mk (blk_drew BK166.out)
                          have n3_ := Aside0.mk (blk_drew BK176.out)
                          have n4_ := Aside0.mk (below_drew1 HB.out)
                          clear HO170
                          clear HO174
                          clear BK166
                          clear BK176
                          clear HB
                          have HO170 := n0_
                          have HO174 := n1_
                          have BK166 := n2_
                          have BK176 := n3_
                          have HB := n4_
                          clear n0_ n1_ n2_ n3_ n4_
                          refine start_ (n := 13) (S := fun w' => w'.cell? ⟨gb176, 0, none⟩ = some (.string (rdOf ByteArray.empty t172 0)) ∧ w'.cell? ⟨gb176, 1, none⟩ = some (.string (((rdOf ByteArray.empty t168 0).extract ((ji13) : Int).toNat ((rdOf ByteArray.empty t168 0).size)).extract ((ji29) : Int).toNat (((rdOf ByteArray.empty t168 0).size) - ((ji13) : Int).toNat)))) (ds := []) #[false, false, false, false, false, false, false, false, false, false, false, false, false] (by kernel_rfl) rfl rfl ⟨(blk_cell BK176.out 0).trans rfl, (blk_cell BK176.out 1).trans rfl⟩ (fun hHeld => ?_); refine with_tabW spec_l12Decode.tab10 spec_l12Decode.bits10 (fun HT_ HW_ => ?_)
                          generalize w45.drew = w46 at HO170 HO174 BK166 BK176 HB hHeld ⊢
                          refine take_ (i := 0) (N := some 53) (v := ?_) (a' := ?_) #[true, false, false, false, false, false, false, false, false, false, false, false, false] rfl rfl (take_ofW HT_.out HW_.out (by kernel_rfl)) (fun _ _ _ h => h) (Or.inl ⟨by rfl, ?_⟩) hHeld ?_ ?_
                          rotate_left
                          · rintro w' ⟨s0, s1⟩
                            go_simp
                            with_reducible rfl
                          rotate_left
                          · simp only [Act.put, List.setIfInBounds_toArray, List.set_cons_zero, List.set_cons_succ, i64_w, i32_w]
                            rfl
                          refine take_ (i := 1) (N := some 54) (v := ?_) (a' := ?_) #[true, true, false, false, false, false, false, false, false, false, false, false, false] rfl rfl (take_ofW HT_.out HW_.out (by kernel_rfl)) (fun _ _ _ h => h) (Or.inl ⟨by rfl, ?_⟩) hHeld ?_ ?_
                          rotate_left
                          · rintro w' ⟨s0, s1⟩
                            go_simp
                            with_reducible rfl
                          rotate_left
                          · simp only [Act.put, List.setIfInBounds_toArray, List.set_cons_zero, List.set_cons_succ, i64_w, i32_w]
                            rfl
                          refine one_ (i := 2) (N := some 55) #[true, true, true, false, false, false, false, false, false, false, false, false, false] rfl rfl (one_of HT_.out (by kernel_rfl)) (by decide) (fun K hK => ?_)
                          refine goes_ Tryz.func45 (by kernel_rfl) rfl #[.agg #[.string (rdOf ByteArray.empty t172 0), .string (((rdOf ByteArray.empty t168 0).extract ((ji13) : Int).toNat ((rdOf ByteArray.empty t168 0).size)).extract ((ji29) : Int).toNat (((rdOf ByteArray.empty t168 0).size) - ((ji13) : Int).toNat))]] (by rfl) rfl rfl (by (try simp only [List.map_toArray, List.map_cons, List.map_nil]); first | done | (simp only [hji13, hji29]; rfl) | rfl | (simp only [List.length_drop, List.length_take]; rfl)) ?_
                          with_reducible refine (spec_l12Record.calls k (rdOf ByteArray.empty t172 0) (((rdOf ByteArray.empty t168 0).extract ((ji13) : Int).toNat ((rdOf ByteArray.empty t168 0).size)).extract ((ji29) : Int).toNat (((rdOf ByteArray.empty t168 0).size) - ((ji13) : Int).toNat)) true _ A32.out).mono ?_
                          rintro e w47 ⟨rfl, hb⟩
                          refine ⟨_, rfl, ?_⟩
                          have n0_ := Aside0.mk (Kd.R_below (by (with_reducible repeat (first | apply Kd.R_alloc | apply Kd.R_drewN | apply Kd.R_drew)); exact HO170.out) hb)
                          have n1_ := Aside0.mk (Kd.R_below (by (with_reducible repeat (first | apply Kd.R_alloc | apply Kd.R_drewN | apply Kd.R_drew)); exact HO174.out) hb)
                          have n2_ := Aside0.mk (blk_below (g := gb166) (o := .cells #[.string (⟨#[]⟩ : ByteArray), .string (⟨#[]⟩ : ByteArray)] 68 (0, 0)) (by (with_reducible repeat (first | refine blk_drewN ?_ _ | refine blk_drew ?_ | refine blk_alloc ?_ _)); exact BK166.out) hb)
                          have n3_ := Aside0.mk (blk_below (g := gb176) (o := .cells #[.string (rdOf ByteArray.empty t172 0), .string (((rdOf ByteArray.empty t168 0).extract ((ji13) : Int).toNat ((rdOf ByteArray.empty t168 0).size)).extract ((ji29) : Int).toNat (((rdOf ByteArray.empty t168 0).size) - ((ji13) : Int).toNat))] 68 (0, 0)) (by (with_reducible repeat (first | refine blk_drewN ?_ _ | refine blk_drew ?_ | refine blk_alloc ?_ _)); exact BK176.out) hb)
                          have n4_ := Aside0.mk (below_step (by repeat (first | (with_reducible first | exact HB.out | apply below_alloc | apply pw_below_drewN | apply below_drew1 | refine below_set ?_ GE166.out | refine below_set ?_ GE176.out) | exact HB.out)) hb)
                          clear HO170
                          clear HO174
                          clear BK166
                          clear BK176
                          clear HB
                          have HO170 := n0_
                          have HO174 := n1_
                          have BK166 := n2_
                          have BK176 := n3_
                          have HB := n4_
                          clear n0_ n1_ n2_ n3_ n4_
                          (try clear hb)
                          (try clear hb2)
                          (try clear hk)
                          (try clear hi)
                          refine hK.out _ _ ⟨(blk_cell BK176.out 0).trans rfl, (blk_cell BK176.out 1).trans rfl⟩ (fun hHeld => ?_)
                          clear hK K
                          refine norm_ (a' := ?_) ?_ ?_
                          rotate_left
                          · show Act.put _ (some 55) _ = _
                            simp only [Act.put, List.setIfInBounds_toArray, List.set_cons_zero, List.set_cons_succ, i64_w, i32_w]
                            rfl
                          refine pure_ (i := 3) (N := some 56) (v := ?_) (a' := ?_) #[true, true, true, true, false, false, false, false, false, false, false, false, false] rfl rfl (any_of HT_.out (by kernel_rfl)) (fun _ _ _ h => h) (Or.inl ⟨by rfl, ?_⟩) ?_ ?_
                          rotate_left
                          · intro w'
                            go_simp
                            with_reducible rfl
                          rotate_left
                          · simp only [Act.put, List.setIfInBounds_toArray, List.set_cons_zero, List.set_cons_succ, i64_w, i32_w]
                            rfl
                          refine pure_ (i := 4) (N := some 57) (v := ?_) (a' := ?_) #[true, true, true, true, true, false, false, false, false, false, false, false, false] rfl rfl (any_of HT_.out (by kernel_rfl)) (fun _ _ _ h => h) (Or.inl ⟨by rfl, ?_⟩) ?_ ?_
                          rotate_left
                          · intro w'
                            go_simp
                            with_reducible rfl
                          rotate_left
                          · simp only [Act.put, List.setIfInBounds_toArray, List.set_cons_zero, List.set_cons_succ, i64_w, i32_w]
                            rfl
                          refine pure_ (i := 7) (N := some 60) (v := ?_) (a' := ?_) #[true, true, true, true, true, false, false, true, false, false, false, false, false] rfl rfl (any_of HT_.out (by kernel_rfl)) (fun _ _ _ h => h) (Or.inl ⟨by rfl, ?_⟩) ?_ ?_
                          rotate_left
                          · intro w'
                            go_simp
                            with_reducible rfl
                          rotate_left
                          · simp only [Act.put, List.setIfInBounds_toArray, List.set_cons_zero, List.set_cons_succ, i64_w, i32_w]
                            rfl
                          refine pure_ (i := 8) (N := some 61) (v := ?_) (a' := ?_) #[true, true, true, true, true, false, false, true, true, false, false, false, false] rfl rfl (any_of HT_.out (by kernel_rfl)) (fun _ _ _ h => h) (Or.inl ⟨by rfl, ?_⟩) ?_ ?_
                          rotate_left
                          · intro w'
                            go_simp
                            with_reducible rfl
                          rotate_left
                          · simp only [Act.put, List.setIfInBounds_toArray, List.set_cons_zero, List.set_cons_succ, i64_w, i32_w]
                            rfl
                          refine take_ (i := 5) (N := some 58) (v := ?_) (a' := ?_) #[true, true, true, true, true, true, false, true, true, false, false, false, false] rfl rfl (take_ofW HT_.out HW_.out (by kernel_rfl)) (fun _ _ _ h => h) (Or.inl ⟨by rfl, ?_⟩) hHeld ?_ ?_
                          rotate_left
                          · rintro w' ⟨s0, s1⟩
                            go_simp
                            with_reducible rfl
                          rotate_left
                          · simp only [Act.put, List.setIfInBounds_toArray, List.set_cons_zero, List.set_cons_succ, i64_w, i32_w]
                            rfl
                          refine one_ (i := 6) (N := some 59) #[true, true, true, true, true, true, true, true, true, false, false, false, false] rfl rfl (one_of HT_.out (by kernel_rfl)) (by decide) (fun K hK => ?_)
                          refine goes_ Tryz.func46 (by kernel_rfl) rfl #[.int .i64 a1, .agg #[.string (rdOf ByteArray.empty t172 0), .string (((rdOf ByteArray.empty t168 0).extract ((ji13) : Int).toNat ((rdOf ByteArray.empty t168 0).size)).extract ((ji29) : Int).toNat (((rdOf ByteArray.empty t168 0).size) - ((ji13) : Int).toNat))]] (by rfl) rfl rfl (by (try simp only [List.map_toArray, List.map_cons, List.map_nil]); first | done | (simp only [hji13, hji29]; rfl) | rfl | (simp only [List.length_drop, List.length_take]; rfl)) ?_
                          with_reducible refine (spec_l12Line.calls k a1 (rdOf ByteArray.empty t172 0) (((rdOf ByteArray.empty t168 0).extract ((ji13) : Int).toNat ((rdOf ByteArray.empty t168 0).size)).extract ((ji29) : Int).toNat (((rdOf ByteArray.empty t168 0).size) - ((ji13) : Int).toNat)) t178 _ A34.out).mono ?_
                          rintro e w48 ⟨rfl, hb⟩
                          refine ⟨_, rfl, ?_⟩
                          have n0_ := Aside0.mk (Kd.R_below (by (with_reducible repeat (first | apply Kd.R_alloc | apply Kd.R_drewN | apply Kd.R_drew)); exact HO170.out) hb)
                          have n1_ := Aside0.mk (Kd.R_below (by (with_reducible repeat (first | apply Kd.R_alloc | apply Kd.R_drewN | apply Kd.R_drew)); exact HO174.out) hb)
                          have n2_ := Aside0.mk (blk_below (g := gb166) (o := .cells #[.string (⟨#[]⟩ : ByteArray), .string (⟨#[]⟩ : ByteArray)] 68 (0, 0)) (by (with_reducible repeat (first | refine blk_drewN ?_ _ | refine blk_drew ?_ | refine blk_alloc ?_ _)); exact BK166.out) hb)
                          have n3_ := Aside0.mk (blk_below (g := gb176) (o := .cells #[.string (rdOf ByteArray.empty t172 0), .string (((rdOf ByteArray.empty t168 0).extract ((ji13) : Int).toNat ((rdOf ByteArray.empty t168 0).size)).extract ((ji29) : Int).toNat (((rdOf ByteArray.empty t168 0).size) - ((ji13) : Int).toNat))] 68 (0, 0)) (by (with_reducible repeat (first | refine blk_drewN ?_ _ | refine blk_drew ?_ | refine blk_alloc ?_ _)); exact BK176.out) hb)
                          have n4_ := Aside0.mk (below_step (by repeat (first | (with_reducible first | exact HB.out | apply below_alloc | apply pw_below_drewN | apply below_drew1 | refine below_set ?_ GE166.out | refine below_set ?_ GE176.out) | exact HB.out)) hb)
                          clear HO170
                          clear HO174
                          clear BK166
                          clear BK176
                          clear HB
                          have HO170 := n0_
                          have HO174 := n1_
                          have BK166 := n2_
                          have BK176 := n3_
                          have HB := n4_
                          clear n0_ n1_ n2_ n3_ n4_
                          (try clear hb)
                          (try clear hb2)
                          (try clear hk)
                          (try clear hi)
                          refine hK.out _ _ ⟨(blk_cell BK176.out 0).trans rfl, (blk_cell BK176.out 1).trans rfl⟩ (fun hHeld => ?_)
                          clear hK K
                          refine norm_ (a' := ?_) ?_ ?_
                          rotate_left
                          · show Act.put _ (some 59) _ = _
                            simp only [Act.put, List.setIfInBounds_toArray, List.set_cons_zero, List.set_cons_succ, i64_w, i32_w]
                            rfl
                          refine pure_ (i := 9) (N := some 62) (v := ?_) (a' := ?_) #[true, true, true, true, true, true, true, true, true, true, false, false, false] rfl rfl (any_of HT_.out (by kernel_rfl)) (fun _ _ _ h => h) (Or.inl ⟨by rfl, ?_⟩) ?_ ?_
                          rotate_left
                          · intro w'
                            go_simp
                            with_reducible rfl
                          rotate_left
                          · simp only [Act.put, List.setIfInBounds_toArray, List.set_cons_zero, List.set_cons_succ, i64_w, i32_w]
                            rfl
                          refine pure_ (i := 10) (N := some 63) (v := ?_) (a' := ?_) #[true, true, true, true, true, true, true, true, true, true, true, false, false] rfl rfl (any_of HT_.out (by kernel_rfl)) (fun _ _ _ h => h) (Or.inl ⟨by rfl, ?_⟩) ?_ ?_
                          rotate_left
                          · intro w'
                            go_simp
                            with_reducible rfl
                          rotate_left
                          · simp only [Act.put, List.setIfInBounds_toArray, List.set_cons_zero, List.set_cons_succ, i64_w, i32_w]
                            rfl
                          refine one_ (i := 11) (N := none) #[true, true, true, true, true, true, true, true, true, true, true, true, false] rfl rfl (one_of HT_.out (by kernel_rfl)) (by decide) (fun K hK => ?_)
                          have hs49 : w48.cell? ⟨gb166, 0, none⟩ = some (.string (⟨#[]⟩ : ByteArray)) := (blk_cell BK166.out 0).trans rfl
                          have hfs49 := blk_frozen BK166.out 0
                          have hns49_1 := NB176_166.out
                          have hms49_1 := NB166_176.out
                          have hs50 : w48.cell? ⟨gb166, 1, none⟩ = some (.string (⟨#[]⟩ : ByteArray)) := (blk_cell BK166.out 1).trans rfl
                          have hfs50 := blk_frozen BK166.out 1
                          have hns50_1 := NB176_166.out
                          have hms50_1 := NB166_176.out
                          refine skip_ (w1 := ?_) (by rfl) rfl ?_ ?_
                          rotate_left
                          · go_simp
                            rfl
                          refine hK.out _ _ ⟨((cell_far (p := ⟨gb166, _, none⟩) NB176_166.out _).trans (((cell_far (p := ⟨gb166, _, none⟩) NB176_166.out _).trans (hHeld.1)))), ((cell_far (p := ⟨gb166, _, none⟩) NB176_166.out _).trans (((cell_far (p := ⟨gb166, _, none⟩) NB176_166.out _).trans (hHeld.2))))⟩ (fun hHeld => ?_)
                          clear hK K
                          refine pure_ (i := 12) (N := some 5) (v := ?_) (a' := ?_) #[true, true, true, true, true, true, true, true, true, true, true, true, true] rfl rfl (any_of HT_.out (by kernel_rfl)) (fun _ _ _ h => h) (Or.inl ⟨by rfl, ?_⟩) ?_ ?_
                          rotate_left
                          · intro w'
                            go_simp
                            with_reducible rfl
                          rotate_left
                          · simp only [Act.put, List.setIfInBounds_toArray, List.set_cons_zero, List.set_cons_succ, i64_w, i32_w]
                            rfl
                          refine done_ (done_of HT_.out (by kernel_rfl)) ?_
                          try go_wp2
                          refine bodyPost_ret (results_ct rfl _ _ gb166 68 #[.string (rdOf ByteArray.empty t172 0), .string (((rdOf ByteArray.empty t168 0).extract ((ji13) : Int).toNat ((rdOf ByteArray.empty t168 0).size)).extract ((ji29) : Int).toNat (((rdOf ByteArray.empty t168 0).size) - ((ji13) : Int).toNat))] (0, 0) _ rfl (by (with_reducible repeat (first | refine blk_drewN ?_ _ | refine blk_drew ?_ | refine blk_alloc ?_ _)); refine blk_put (cs := #[.string (rdOf ByteArray.empty t172 0), .string (⟨#[]⟩ : ByteArray)]) ?_ 1 _ rfl; (with_reducible repeat (first | refine blk_drewN ?_ _ | refine blk_drew ?_ | refine blk_alloc ?_ _)); refine blk_put (cs := #[.string (⟨#[]⟩ : ByteArray), .string (⟨#[]⟩ : ByteArray)]) ?_ 0 _ rfl; (with_reducible repeat (first | refine blk_drewN ?_ _ | refine blk_drew ?_ | refine blk_alloc ?_ _)); exact BK166.out) Tryz.underlying68 rfl (by kernel_rfl)) rfl ?_
                          exact ⟨by first | rfl | (simp [errW_none, errW_some] <;> rfl) | (simp only [← hji13, ← hji29]; first | rfl | (simp [errW_none, errW_some] <;> rfl)) | (simp [*, errW_none, errW_some] <;> rfl), by repeat (first | (with_reducible first | exact HB.out | apply below_alloc | apply pw_below_drewN | apply below_drew1 | refine below_set ?_ GE166.out | refine below_set ?_ GE176.out) | exact HB.out)⟩
                        · rw [if_neg c35] at H
                          exact absurd H (by simp)
                      · replace c33 := Bool.eq_false_iff.mpr c33
                        subst c33
                        have H1 : (some (rdOf ByteArray.empty t172 0, ((rdOf ByteArray.empty t168 0).extract ((ji13) : Int).toNat ((rdOf ByteArray.empty t168 0).size)).extract ((ji29) : Int).toNat (((rdOf ByteArray.empty t168 0).size) - ((ji13) : Int).toNat), false)) = some (r1, r2, r3) := by rw [if_neg (show ¬ (false = true) by decide)] at H; exact H
                        clear H
                        have H := H1
                        clear H1
                        simp only [Option.some.injEq, Prod.mk.injEq] at H
                        obtain ⟨rfl, rfl, rfl⟩ := H
                        go_enter Tryz.func36, Tryz.ntmps36
                        try go_wp2_with (first | ((with_reducible refine gate_dst (N := 4) rfl ?_); (try (refine gate_guard (by rfl) ?_; dsimp only)); refine box_event ?hg (N := 4) ?hd (cs := #[.string (⟨#[]⟩ : ByteArray), .string (⟨#[]⟩ : ByteArray)]) (t := 68) ?hr ?_; (case hd => rfl); (case hg => rfl); (case hr => first | (go_simp; done) | (go_simp; rfl)); intro gb166 hg w51 hbox hb; have n0_ := Aside0.mk (below_step (by repeat (first | (with_reducible first | exact HB.out | apply below_alloc | apply pw_below_drewN | apply below_drew1) | exact HB.out)) hb); have n1_ := Aside0.mk (hbox); have n2_ := Aside0.mk ((by rw [hg]; exact (below_size (by repeat (first | (with_reducible first | exact HB.out | apply below_alloc | apply pw_below_drewN | apply below_drew1) | exact HB.out))) : w.heap.size ≤ gb166)); have n3_ := Aside0.mk ((by rw [hg]; exact (below_size (by repeat (first | (with_reducible first | exact HB.out | apply below_alloc | apply pw_below_drewN | apply below_drew1) | exact HB.out))) : w.heap.size ≤ gb166)); clear HB; have HB := n0_; have BK166 := n1_; have GW166 := n2_; have GE166 := n3_; clear n0_ n1_ n2_ n3_; clear hb hbox hg) | ((with_reducible refine gate_callee (f := 44) rfl ?_); refine goesL_ (some 12) rfl rfl Tryz.func44 (by kernel_rfl) rfl #[.int .i64 a1] rfl (by (try simp only [List.map_toArray, List.map_cons, List.map_nil]); first | done | rfl | (simp only [List.length_drop, List.length_take]; rfl)) ?_; (with_reducible refine (spec_l1Num.calls a1 t167 _ A3.out).mono ?_); rintro e w52 ⟨rfl, hb⟩; refine ⟨_, rfl, ?_⟩; have n0_ := Aside0.mk (blk_below (g := gb166) (o := .cells #[.string (⟨#[]⟩ : ByteArray), .string (⟨#[]⟩ : ByteArray)] 68 (0, 0)) (by (with_reducible repeat (first | refine blk_drewN ?_ _ | refine blk_drew ?_ | refine blk_alloc ?_ _)); exact BK166.out) hb); have n1_ := Aside0.mk (below_step (by repeat (first | (with_reducible first | exact HB.out | apply below_alloc | apply pw_below_drewN | apply below_drew1 | refine below_set ?_ GE166.out) | exact HB.out)) hb); clear BK166; clear HB; have BK166 := n0_; have HB := n1_; clear n0_ n1_; (try clear hb); (try clear hb2); (try clear hk); (try clear hi)) | ((with_reducible refine gate_callee (f := 35) rfl ?_); refine goesL_ (some 15) rfl rfl Tryz.func35 (by kernel_rfl) rfl #[.string a0, .int .u8 35] rfl (by (try simp only [List.map_toArray, List.map_cons, List.map_nil]); first | done | rfl | (simp only [List.length_drop, List.length_take]; rfl)) ?_; (with_reducible refine (spec_l1Split.calls k a0 35 t168 _ A5.out).mono ?_); rintro e w53 ⟨v169, rfl, ho0, hb⟩; refine ⟨_, rfl, ?_⟩; have n0_ := Aside0.mk (Kd.R_lower ho0 (below_size (by repeat (first | (with_reducible first | exact HB.out | apply below_alloc | apply pw_below_drewN | apply below_drew1 | refine below_set ?_ GE166.out) | exact HB.out)))); have n1_ := Aside0.mk (blk_below (g := gb166) (o := .cells #[.string (⟨#[]⟩ : ByteArray), .string (⟨#[]⟩ : ByteArray)] 68 (0, 0)) (by (with_reducible repeat (first | refine blk_drewN ?_ _ | refine blk_drew ?_ | refine blk_alloc ?_ _)); exact BK166.out) hb); have n2_ := Aside0.mk (below_step (by repeat (first | (with_reducible first | exact HB.out | apply below_alloc | apply pw_below_drewN | apply below_drew1 | refine below_set ?_ GE166.out) | exact HB.out)) hb); clear BK166; clear HB; have HO170 := n0_; have BK166 := n1_; have HB := n2_; clear n0_ n1_ n2_; (try clear hb); (try clear hb2); (try clear hk); (try clear hi); (try clear ho0); obtain ⟨Ao54, co54, eo54⟩ := Kd.R_slice HO170.out; subst eo54; have p171 : 0 ≤ (0 : Int) := (by omega); have q171 : 0 < (t168.length : Int) := of_decide_eq_true (by first | (with_reducible assumption) | assumption); obtain ⟨ad171, e171, hx171_0⟩ := Kd.at_string (Kd.R_reads' HO170.out).2.2 0 p171 q171; cases e171; have qi171 : (0 < t168.length) = True := eq_true (by omega); (try rw [show ((0 : Int)).toNat = 0 from rfl] at hx171_0); (try rw [Addr.add_zero'] at hx171_0); replace p171 := eq_true p171; replace q171 := eq_true q171) | ((with_reducible refine gate_callee (f := 35) rfl ?_); refine goesL_ (some 37) rfl rfl Tryz.func35 (by kernel_rfl) rfl #[.string ((rdOf ByteArray.empty t168 0).extract ((ji13) : Int).toNat ((rdOf ByteArray.empty t168 0).size)), .int .u8 64] rfl (by (try simp only [List.map_toArray, List.map_cons, List.map_nil]); first | done | (simp only [hji13]; rfl) | rfl | (simp only [List.length_drop, List.length_take]; rfl)) ?_; (with_reducible refine (spec_l1Split.calls k ((rdOf ByteArray.empty t168 0).extract ((ji13) : Int).toNat ((rdOf ByteArray.empty t168 0).size)) 64 t172 _ A19.out).mono ?_); rintro e w55 ⟨v173, rfl, ho0, hb⟩; refine ⟨_, rfl, ?_⟩; have n0_ := Aside0.mk (Kd.R_elder' (by (with_reducible repeat (first | apply Kd.R_alloc | apply Kd.R_drewN | apply Kd.R_drew)); exact HO170.out) (Kd.R_base ho0) hb); have n1_ := Aside0.mk (Kd.R_lower (Kd.R_new' ho0 (Kd.R_lt (by (with_reducible repeat (first | apply Kd.R_alloc | apply Kd.R_drewN | apply Kd.R_drew)); exact HO170.out))) (below_size (by repeat (first | (with_reducible first | exact HB.out | apply below_alloc | apply pw_below_drewN | apply below_drew1 | refine below_set ?_ GE166.out) | exact HB.out)))); have n2_ := Aside0.mk (blk_below (g := gb166) (o := .cells #[.string (⟨#[]⟩ : ByteArray), .string (⟨#[]⟩ : ByteArray)] 68 (0, 0)) (by (with_reducible repeat (first | refine blk_drewN ?_ _ | refine blk_drew ?_ | refine blk_alloc ?_ _)); exact BK166.out) hb); have n3_ := Aside0.mk (below_step (by repeat (first | (with_reducible first | exact HB.out | apply below_alloc | apply pw_below_drewN | apply below_drew1 | refine below_set ?_ GE166.out) | exact HB.out)) hb); clear HO170; clear BK166; clear HB; have HO170 := n0_; have HO174 := n1_; have BK166 := n2_; have HB := n3_; clear n0_ n1_ n2_ n3_; (try clear hb); (try clear hb2); (try clear hk); (try clear hi); (try clear ho0); obtain ⟨Ao56, co56, eo56⟩ := Kd.R_slice HO174.out; subst eo56; have p175 : 0 ≤ (0 : Int) := (by omega); have q175 : 0 < (t172.length : Int) := of_decide_eq_true (by first | (with_reducible assumption) | assumption); obtain ⟨ad175, e175, hx175_0⟩ := Kd.at_string (Kd.R_reads' HO174.out).2.2 0 p175 q175; cases e175; have qi175 : (0 < t172.length) = True := eq_true (by omega); (try rw [show ((0 : Int)).toNat = 0 from rfl] at hx175_0); (try rw [Addr.add_zero'] at hx175_0); replace p175 := eq_true p175; replace q175 := eq_true q175) | ((with_reducible refine gate_dst (N := 10) rfl ?_); (try (refine gate_guard (by rfl) ?_; dsimp only)); refine box_event ?hg (N := 10) ?hd (cs := #[.string (⟨#[]⟩ : ByteArray), .string (⟨#[]⟩ : ByteArray)]) (t := 68) ?hr ?_; (case hd => rfl); (case hg => rfl); (case hr => first | (go_simp; done) | (go_simp; rfl)); intro gb176 hg w57 hbox hb; have n0_ := Aside0.mk (Kd.R_below (by (with_reducible repeat (first | apply Kd.R_alloc | apply Kd.R_drewN | apply Kd.R_drew)); exact HO170.out) hb); have n1_ := Aside0.mk (Kd.R_below (by (with_reducible repeat (first | apply Kd.R_alloc | apply Kd.R_drewN | apply Kd.R_drew)); exact HO174.out) hb); have n2_ := Aside0.mk (blk_below (g := gb166) (o := .cells #[.string (⟨#[]⟩ : ByteArray), .string (⟨#[]⟩ : ByteArray)] 68 (0, 0)) (by (with_reducible repeat (first | refine blk_drewN ?_ _ | refine blk_drew ?_ | refine blk_alloc ?_ _)); exact BK166.out) hb); have n3_ := Aside0.mk (below_step (by repeat (first | (with_reducible first | exact HB.out | apply below_alloc | apply pw_below_drewN | apply below_drew1 | refine below_set ?_ GE166.out) | exact HB.out)) hb); have n4_ := Aside0.mk (hbox); have n5_ := Aside0.mk ((by rw [hg]; exact (below_size (by repeat (first | (with_reducible first | exact HB.out | apply below_alloc | apply pw_below_drewN | apply below_drew1 | refine below_set ?_ GE166.out) | exact HB.out))) : w.heap.size ≤ gb176)); have n6_ := Aside0.mk ((by rw [hg]; exact (below_size (by repeat (first | (with_reducible first | exact HB.out | apply below_alloc | apply pw_below_drewN | apply below_drew1 | refine below_set ?_ GE166.out) | exact HB.out))) : w.heap.size ≤ gb176)); have n7_ := Aside0.mk ((by rw [hg]; exact Nat.ne_of_lt (blk_lt (g := gb166) (o := .cells #[.string (⟨#[]⟩ : ByteArray), .string (⟨#[]⟩ : ByteArray)] 68 (0, 0)) (by (with_reducible repeat (first | refine blk_drewN ?_ _ | refine blk_drew ?_ | refine blk_alloc ?_ _)); exact BK166.out)) : gb166 ≠ gb176)); have n8_ := Aside0.mk ((by rw [hg]; exact Nat.ne_of_gt (blk_lt (g := gb166) (o := .cells #[.string (⟨#[]⟩ : ByteArray), .string (⟨#[]⟩ : ByteArray)] 68 (0, 0)) (by (with_reducible repeat (first | refine blk_drewN ?_ _ | refine blk_drew ?_ | refine blk_alloc ?_ _)); exact BK166.out)) : gb176 ≠ gb166)); clear HO170; clear HO174; clear BK166; clear HB; have HO170 := n0_; have HO174 := n1_; have BK166 := n2_; have HB := n3_; have BK176 := n4_; have GW176 := n5_; have GE176 := n6_; have NB166_176 := n7_; have NB176_166 := n8_; clear n0_ n1_ n2_ n3_ n4_ n5_ n6_ n7_ n8_; clear hb hbox hg; have hnb58 := NB176_166.out; have hnc58 := NB166_176.out; have hcz59_0 : w57.cell? ⟨gb176, 0, none⟩ = some (.string (⟨#[]⟩ : ByteArray)) := (blk_cell BK176.out 0).trans rfl; have hcz59_1 : w57.cell? ⟨gb176, 1, none⟩ = some (.string (⟨#[]⟩ : ByteArray)) := (blk_cell BK176.out 1).trans rfl; have hfz59_0 := blk_frozen BK176.out 0; have hfz59_1 := blk_frozen BK176.out 1))
                        have n0_ : Aside0 (Kd.R Kd.string 9 ((w57.setCell ⟨gb176, 0, none⟩ (.string (rdOf ByteArray.empty t172 0))).setCell ⟨gb176, 1, none⟩ (.string (((rdOf ByteArray.empty t168 0).extract ((ji13) : Int).toNat ((rdOf ByteArray.empty t168 0).size)).extract ((ji29) : Int).toNat (((rdOf ByteArray.empty t168 0).size) - ((ji13) : Int).toNat)))) w.heap.size (fun k_ => some k_ ≠ (.slice (some ad175) t172.length co56 : Value).ownBlock) (.slice (some ad171) t168.length co54) t168) := ⟨by (with_reducible repeat (first | apply Kd.R_alloc | apply Kd.R_drewN | apply Kd.R_drew)); exact Kd.R_mono (Kd.R_far (p := ⟨gb176, 1, none⟩) (Kd.R_far (p := ⟨gb176, 0, none⟩) (Kd.R_types HO170.out BK176.out (by decide)) (fun _ hk => hk.2) (.string (rdOf ByteArray.empty t172 0))) (fun _ hk => hk.2) (.string (((rdOf ByteArray.empty t168 0).extract ((ji13) : Int).toNat ((rdOf ByteArray.empty t168 0).size)).extract ((ji29) : Int).toNat (((rdOf ByteArray.empty t168 0).size) - ((ji13) : Int).toNat)))) (fun _ hk => hk.1.2)⟩
                        have n1_ : Aside0 (Kd.R Kd.string 9 ((w57.setCell ⟨gb176, 0, none⟩ (.string (rdOf ByteArray.empty t172 0))).setCell ⟨gb176, 1, none⟩ (.string (((rdOf ByteArray.empty t168 0).extract ((ji13) : Int).toNat ((rdOf ByteArray.empty t168 0).size)).extract ((ji29) : Int).toNat (((rdOf ByteArray.empty t168 0).size) - ((ji13) : Int).toNat)))) w.heap.size (fun k_ => some k_ ≠ (.slice (some ad171) t168.length co54 : Value).ownBlock) (.slice (some ad175) t172.length co56) t172) := ⟨by (with_reducible repeat (first | apply Kd.R_alloc | apply Kd.R_drewN | apply Kd.R_drew)); exact Kd.R_mono (Kd.R_far (p := ⟨gb176, 1, none⟩) (Kd.R_far (p := ⟨gb176, 0, none⟩) (Kd.R_types HO174.out BK176.out (by decide)) (fun _ hk => hk.2) (.string (rdOf ByteArray.empty t172 0))) (fun _ hk => hk.2) (.string (((rdOf ByteArray.empty t168 0).extract ((ji13) : Int).toNat ((rdOf ByteArray.empty t168 0).size)).extract ((ji29) : Int).toNat (((rdOf ByteArray.empty t168 0).size) - ((ji13) : Int).toNat)))) (fun _ hk => hk.1.2)⟩
                        have n2_ : Aside0 (((w57.setCell ⟨gb176, 0, none⟩ (.string (rdOf ByteArray.empty t172 0))).setCell ⟨gb176, 1, none⟩ (.string (((rdOf ByteArray.empty t168 0).extract ((ji13) : Int).toNat ((rdOf ByteArray.empty t168 0).size)).extract ((ji29) : Int).toNat (((rdOf ByteArray.empty t168 0).size) - ((ji13) : Int).toNat)))).heap[gb166]? = some (.cells #[.string (⟨#[]⟩ : ByteArray), .string (⟨#[]⟩ : ByteArray)] 68 (0, 0))) := ⟨by (with_reducible repeat (first | refine blk_drewN ?_ _ | refine blk_drew ?_ | refine blk_alloc ?_ _)); refine blk_far ?_ NB166_176.out _; (with_reducible repeat (first | refine blk_drewN ?_ _ | refine blk_drew ?_ | refine blk_alloc ?_ _)); refine blk_far ?_ NB166_176.out _; (with_reducible repeat (first | refine blk_drewN ?_ _ | refine blk_drew ?_ | refine blk_alloc ?_ _)); exact BK166.out⟩
                        have n3_ : Aside0 (((w57.setCell ⟨gb176, 0, none⟩ (.string (rdOf ByteArray.empty t172 0))).setCell ⟨gb176, 1, none⟩ (.string (((rdOf ByteArray.empty t168 0).extract ((ji13) : Int).toNat ((rdOf ByteArray.empty t168 0).size)).extract ((ji29) : Int).toNat (((rdOf ByteArray.empty t168 0).size) - ((ji13) : Int).toNat)))).heap[gb176]? = some (.cells #[.string (rdOf ByteArray.empty t172 0), .string (((rdOf ByteArray.empty t168 0).extract ((ji13) : Int).toNat ((rdOf ByteArray.empty t168 0).size)).extract ((ji29) : Int).toNat (((rdOf ByteArray.empty t168 0).size) - ((ji13) : Int).toNat))] 68 (0, 0))) := ⟨by (with_reducible repeat (first | refine blk_drewN ?_ _ | refine blk_drew ?_ | refine blk_alloc ?_ _)); refine blk_put (cs := #[.string (rdOf ByteArray.empty t172 0), .string (⟨#[]⟩ : ByteArray)]) ?_ 1 _ rfl; (with_reducible repeat (first | refine blk_drewN ?_ _ | refine blk_drew ?_ | refine blk_alloc ?_ _)); refine blk_put (cs := #[.string (⟨#[]⟩ : ByteArray), .string (⟨#[]⟩ : ByteArray)]) ?_ 0 _ rfl; (with_reducible repeat (first | refine blk_drewN ?_ _ | refine blk_drew ?_ | refine blk_alloc ?_ _)); exact BK176.out⟩
                        have n4_ : Aside0 (Below w.heap.size w ((w57.setCell ⟨gb176, 0, none⟩ (.string (rdOf ByteArray.empty t172 0))).setCell ⟨gb176, 1, none⟩ (.string (((rdOf ByteArray.empty t168 0).extract ((ji13) : Int).toNat ((rdOf ByteArray.empty t168 0).size)).extract ((ji29) : Int).toNat (((rdOf ByteArray.empty t168 0).size) - ((ji13) : Int).toNat))))) := ⟨by repeat (first | (with_reducible first | exact HB.out | apply below_alloc | apply pw_below_drewN | apply below_drew1 | refine below_set ?_ GE166.out | refine below_set ?_ GE176.out) | exact HB.out)⟩
                        (try clear HO170)
                        (try clear HO174)
                        (try clear BK166)
                        (try clear BK176)
                        (try clear HB)
                        generalize ((w57.setCell ⟨gb176, 0, none⟩ (.string (rdOf ByteArray.empty t172 0))).setCell ⟨gb176, 1, none⟩ (.string (((rdOf ByteArray.empty t168 0).extract ((ji13) : Int).toNat ((rdOf ByteArray.empty t168 0).size)).extract ((ji29) : Int).toNat (((rdOf ByteArray.empty t168 0).size) - ((ji13) : Int).toNat)))) = w60 at n0_ n1_ n2_ n3_ n4_ ⊢
                        have HO170 := n0_
                        have HO174 := n1_
                        have BK166 := n2_
                        have BK176 := n3_
                        have HB := n4_
                        clear n0_ n1_ n2_ n3_ n4_
                        have n0_ := Aside0.mk (Kd.R_drew HO170.out)
                        have n1_ := Aside0.mk (Kd.R_drew HO174.out)
                        have n2_ := Aside0.mk (blk_drew BK166.out)
                        have n3_ := Aside0.mk (blk_drew BK176.out)
                        have n4_ := Aside0.mk (below_drew1 HB.out)
                        clear HO170
                        clear HO174
                        clear BK166
                        clear BK176
                        clear HB
                        have HO170 := n0_
                        have HO174 := n1_
                        have BK166 := n2_
                        have BK176 := n3_
                        have HB := n4_
                        clear n0_ n1_ n2_ n3_ n4_
                        refine start_ (n := 13) (S := fun w' => w'.cell? ⟨gb176, 0, none⟩ = some (.string (rdOf ByteArray.empty t172 0)) ∧ w'.cell? ⟨gb176, 1, none⟩ = some (.string (((rdOf ByteArray.empty t168 0).extract ((ji13) : Int).toNat ((rdOf ByteArray.empty t168 0).size)).extract ((ji29) : Int).toNat (((rdOf ByteArray.empty t168 0).size) - ((ji13) : Int).toNat)))) (ds := []) #[false, false, false, false, false, false, false, false, false, false, false, false, false] (by kernel_rfl) rfl rfl ⟨(blk_cell BK176.out 0).trans rfl, (blk_cell BK176.out 1).trans rfl⟩ (fun hHeld => ?_); refine with_tabW spec_l12Decode.tab10 spec_l12Decode.bits10 (fun HT_ HW_ => ?_)
                        generalize w60.drew = w61 at HO170 HO174 BK166 BK176 HB hHeld ⊢
                        refine take_ (i := 0) (N := some 53) (v := ?_) (a' := ?_) #[true, false, false, false, false, false, false, false, false, false, false, false, false] rfl rfl (take_ofW HT_.out HW_.out (by kernel_rfl)) (fun _ _ _ h => h) (Or.inl ⟨by rfl, ?_⟩) hHeld ?_ ?_
                        rotate_left
                        · rintro w' ⟨s0, s1⟩
                          go_simp
                          with_reducible rfl
                        rotate_left
                        · simp only [Act.put, List.setIfInBounds_toArray, List.set_cons_zero, List.set_cons_succ, i64_w, i32_w]
                          rfl
                        refine take_ (i := 1) (N := some 54) (v := ?_) (a' := ?_) #[true, true, false, false, false, false, false, false, false, false, false, false, false] rfl rfl (take_ofW HT_.out HW_.out (by kernel_rfl)) (fun _ _ _ h => h) (Or.inl ⟨by rfl, ?_⟩) hHeld ?_ ?_
                        rotate_left
                        · rintro w' ⟨s0, s1⟩
                          go_simp
                          with_reducible rfl
                        rotate_left
                        · simp only [Act.put, List.setIfInBounds_toArray, List.set_cons_zero, List.set_cons_succ, i64_w, i32_w]
                          rfl
                        refine one_ (i := 2) (N := some 55) #[true, true, true, false, false, false, false, false, false, false, false, false, false] rfl rfl (one_of HT_.out (by kernel_rfl)) (by decide) (fun K hK => ?_)
                        refine goes_ Tryz.func45 (by kernel_rfl) rfl #[.agg #[.string (rdOf ByteArray.empty t172 0), .string (((rdOf ByteArray.empty t168 0).extract ((ji13) : Int).toNat ((rdOf ByteArray.empty t168 0).size)).extract ((ji29) : Int).toNat (((rdOf ByteArray.empty t168 0).size) - ((ji13) : Int).toNat))]] (by rfl) rfl rfl (by (try simp only [List.map_toArray, List.map_cons, List.map_nil]); first | done | (simp only [hji13, hji29]; rfl) | rfl | (simp only [List.length_drop, List.length_take]; rfl)) ?_
                        with_reducible refine (spec_l12Record.calls k (rdOf ByteArray.empty t172 0) (((rdOf ByteArray.empty t168 0).extract ((ji13) : Int).toNat ((rdOf ByteArray.empty t168 0).size)).extract ((ji29) : Int).toNat (((rdOf ByteArray.empty t168 0).size) - ((ji13) : Int).toNat)) false _ A32.out).mono ?_
                        rintro e w62 ⟨rfl, hb⟩
                        refine ⟨_, rfl, ?_⟩
                        have n0_ := Aside0.mk (Kd.R_below (by (with_reducible repeat (first | apply Kd.R_alloc | apply Kd.R_drewN | apply Kd.R_drew)); exact HO170.out) hb)
                        have n1_ := Aside0.mk (Kd.R_below (by (with_reducible repeat (first | apply Kd.R_alloc | apply Kd.R_drewN | apply Kd.R_drew)); exact HO174.out) hb)
                        have n2_ := Aside0.mk (blk_below (g := gb166) (o := .cells #[.string (⟨#[]⟩ : ByteArray), .string (⟨#[]⟩ : ByteArray)] 68 (0, 0)) (by (with_reducible repeat (first | refine blk_drewN ?_ _ | refine blk_drew ?_ | refine blk_alloc ?_ _)); exact BK166.out) hb)
                        have n3_ := Aside0.mk (blk_below (g := gb176) (o := .cells #[.string (rdOf ByteArray.empty t172 0), .string (((rdOf ByteArray.empty t168 0).extract ((ji13) : Int).toNat ((rdOf ByteArray.empty t168 0).size)).extract ((ji29) : Int).toNat (((rdOf ByteArray.empty t168 0).size) - ((ji13) : Int).toNat))] 68 (0, 0)) (by (with_reducible repeat (first | refine blk_drewN ?_ _ | refine blk_drew ?_ | refine blk_alloc ?_ _)); exact BK176.out) hb)
                        have n4_ := Aside0.mk (below_step (by repeat (first | (with_reducible first | exact HB.out | apply below_alloc | apply pw_below_drewN | apply below_drew1 | refine below_set ?_ GE166.out | refine below_set ?_ GE176.out) | exact HB.out)) hb)
                        clear HO170
                        clear HO174
                        clear BK166
                        clear BK176
                        clear HB
                        have HO170 := n0_
                        have HO174 := n1_
                        have BK166 := n2_
                        have BK176 := n3_
                        have HB := n4_
                        clear n0_ n1_ n2_ n3_ n4_
                        (try clear hb)
                        (try clear hb2)
                        (try clear hk)
                        (try clear hi)
                        refine hK.out _ _ ⟨(blk_cell BK176.out 0).trans rfl, (blk_cell BK176.out 1).trans rfl⟩ (fun hHeld => ?_)
                        clear hK K
                        refine norm_ (a' := ?_) ?_ ?_
                        rotate_left
                        · show Act.put _ (some 55) _ = _
                          simp only [Act.put, List.setIfInBounds_toArray, List.set_cons_zero, List.set_cons_succ, i64_w, i32_w]
                          rfl
                        refine pure_ (i := 3) (N := some 56) (v := ?_) (a' := ?_) #[true, true, true, true, false, false, false, false, false, false, false, false, false] rfl rfl (any_of HT_.out (by kernel_rfl)) (fun _ _ _ h => h) (Or.inl ⟨by rfl, ?_⟩) ?_ ?_
                        rotate_left
                        · intro w'
                          go_simp
                          with_reducible rfl
                        rotate_left
                        · simp only [Act.put, List.setIfInBounds_toArray, List.set_cons_zero, List.set_cons_succ, i64_w, i32_w]
                          rfl
                        refine pure_ (i := 4) (N := some 57) (v := undef) (a' := ?_) #[true, true, true, true, true, false, false, false, false, false, false, false, false] rfl rfl (any_of HT_.out (by kernel_rfl)) (fun _ _ _ h => h) (Or.inr ⟨by rfl, rfl⟩) ?_ ?_
                        rotate_left
                        · simp only [Act.put, List.setIfInBounds_toArray, List.set_cons_zero, List.set_cons_succ, i64_w, i32_w]
                          rfl
                        refine pure_ (i := 5) (N := some 58) (v := undef) (a' := ?_) #[true, true, true, true, true, true, false, false, false, false, false, false, false] rfl rfl (any_of HT_.out (by kernel_rfl)) (fun _ _ _ h => h) (Or.inr ⟨by rfl, rfl⟩) ?_ ?_
                        rotate_left
                        · simp only [Act.put, List.setIfInBounds_toArray, List.set_cons_zero, List.set_cons_succ, i64_w, i32_w]
                          rfl
                        refine pure_ (i := 6) (N := some 59) (v := undef) (a' := ?_) #[true, true, true, true, true, true, true, false, false, false, false, false, false] rfl rfl (any_of HT_.out (by kernel_rfl)) (fun _ _ _ h => h) (Or.inr ⟨by rfl, rfl⟩) ?_ ?_
                        rotate_left
                        · simp only [Act.put, List.setIfInBounds_toArray, List.set_cons_zero, List.set_cons_succ, i64_w, i32_w]
                          rfl
                        refine pure_ (i := 7) (N := some 60) (v := undef) (a' := ?_) #[true, true, true, true, true, true, true, true, false, false, false, false, false] rfl rfl (any_of HT_.out (by kernel_rfl)) (fun _ _ _ h => h) (Or.inr ⟨by rfl, rfl⟩) ?_ ?_
                        rotate_left
                        · simp only [Act.put, List.setIfInBounds_toArray, List.set_cons_zero, List.set_cons_succ, i64_w, i32_w]
                          rfl
                        refine pure_ (i := 8) (N := some 61) (v := undef) (a' := ?_) #[true, true, true, true, true, true, true, true, true, false, false, false, false] rfl rfl (any_of HT_.out (by kernel_rfl)) (fun _ _ _ h => h) (Or.inr ⟨by rfl, rfl⟩) ?_ ?_
                        rotate_left
                        · simp only [Act.put, List.setIfInBounds_toArray, List.set_cons_zero, List.set_cons_succ, i64_w, i32_w]
                          rfl
                        refine pure_ (i := 9) (N := some 62) (v := undef) (a' := ?_) #[true, true, true, true, true, true, true, true, true, true, false, false, false] rfl rfl (any_of HT_.out (by kernel_rfl)) (fun _ _ _ h => h) (Or.inr ⟨by rfl, rfl⟩) ?_ ?_
                        rotate_left
                        · simp only [Act.put, List.setIfInBounds_toArray, List.set_cons_zero, List.set_cons_succ, i64_w, i32_w]
                          rfl
                        refine pure_ (i := 10) (N := some 63) (v := ?_) (a' := ?_) #[true, true, true, true, true, true, true, true, true, true, true, false, false] rfl rfl (any_of HT_.out (by kernel_rfl)) (fun _ _ _ h => h) (Or.inl ⟨by rfl, ?_⟩) ?_ ?_
                        rotate_left
                        · intro w'
                          go_simp
                          with_reducible rfl
                        rotate_left
                        · simp only [Act.put, List.setIfInBounds_toArray, List.set_cons_zero, List.set_cons_succ, i64_w, i32_w]
                          rfl
                        refine one_ (i := 11) (N := none) #[true, true, true, true, true, true, true, true, true, true, true, true, false] rfl rfl (one_of HT_.out (by kernel_rfl)) (by decide) (fun K hK => ?_)
                        have hs63 : w62.cell? ⟨gb166, 0, none⟩ = some (.string (⟨#[]⟩ : ByteArray)) := (blk_cell BK166.out 0).trans rfl
                        have hfs63 := blk_frozen BK166.out 0
                        have hns63_1 := NB176_166.out
                        have hms63_1 := NB166_176.out
                        have hs64 : w62.cell? ⟨gb166, 1, none⟩ = some (.string (⟨#[]⟩ : ByteArray)) := (blk_cell BK166.out 1).trans rfl
                        have hfs64 := blk_frozen BK166.out 1
                        have hns64_1 := NB176_166.out
                        have hms64_1 := NB166_176.out
                        refine skip_ (w1 := ?_) (by rfl) rfl ?_ ?_
                        rotate_left
                        · go_simp
                          rfl
                        refine hK.out _ _ ⟨((cell_far (p := ⟨gb166, _, none⟩) NB176_166.out _).trans (((cell_far (p := ⟨gb166, _, none⟩) NB176_166.out _).trans (hHeld.1)))), ((cell_far (p := ⟨gb166, _, none⟩) NB176_166.out _).trans (((cell_far (p := ⟨gb166, _, none⟩) NB176_166.out _).trans (hHeld.2))))⟩ (fun hHeld => ?_)
                        clear hK K
                        refine pure_ (i := 12) (N := some 5) (v := ?_) (a' := ?_) #[true, true, true, true, true, true, true, true, true, true, true, true, true] rfl rfl (any_of HT_.out (by kernel_rfl)) (fun _ _ _ h => h) (Or.inl ⟨by rfl, ?_⟩) ?_ ?_
                        rotate_left
                        · intro w'
                          go_simp
                          with_reducible rfl
                        rotate_left
                        · simp only [Act.put, List.setIfInBounds_toArray, List.set_cons_zero, List.set_cons_succ, i64_w, i32_w]
                          rfl
                        refine done_ (done_of HT_.out (by kernel_rfl)) ?_
                        try go_wp2
                        refine bodyPost_ret (results_ct rfl _ _ gb166 68 #[.string (rdOf ByteArray.empty t172 0), .string (((rdOf ByteArray.empty t168 0).extract ((ji13) : Int).toNat ((rdOf ByteArray.empty t168 0).size)).extract ((ji29) : Int).toNat (((rdOf ByteArray.empty t168 0).size) - ((ji13) : Int).toNat))] (0, 0) _ rfl (by (with_reducible repeat (first | refine blk_drewN ?_ _ | refine blk_drew ?_ | refine blk_alloc ?_ _)); refine blk_put (cs := #[.string (rdOf ByteArray.empty t172 0), .string (⟨#[]⟩ : ByteArray)]) ?_ 1 _ rfl; (with_reducible repeat (first | refine blk_drewN ?_ _ | refine blk_drew ?_ | refine blk_alloc ?_ _)); refine blk_put (cs := #[.string (⟨#[]⟩ : ByteArray), .string (⟨#[]⟩ : ByteArray)]) ?_ 0 _ rfl; (with_reducible repeat (first | refine blk_drewN ?_ _ | refine blk_drew ?_ | refine blk_alloc ?_ _)); exact BK166.out) Tryz.underlying68 rfl (by kernel_rfl)) rfl ?_
                        exact ⟨by first | rfl | (simp [errW_none, errW_some] <;> rfl) | (simp only [← hji13, ← hji29]; first | rfl | (simp [errW_none, errW_some] <;> rfl)) | (simp [*, errW_none, errW_some] <;> rfl), by repeat (first | (with_reducible first | exact HB.out | apply below_alloc | apply pw_below_drewN | apply below_drew1 | refine below_set ?_ GE166.out | refine below_set ?_ GE176.out) | exact HB.out)⟩
                    · rw [if_neg c31] at H
                      exact absurd H (by simp)
                  · rw [if_neg c30] at H
                    exact absurd H (by simp)
              · rw [if_neg c20] at H
                exact absurd H (by simp)
            · rw [if_neg c16] at H
              have c16b0 : (((rdOf ByteArray.empty t168 0).extract 0 ((ji13) : Int).toNat).toList == (t167 ++ (⟨#[32]⟩ : ByteArray)).toList) = false := beq_eq_false_iff_ne.mpr c16
              have c16b1 : (((rdOf ByteArray.empty t168 0).extract 0 ((ji13) : Int).toNat).toList != (t167 ++ (⟨#[32]⟩ : ByteArray)).toList) = true := bne_iff_ne.mpr c16
              simp only [Option.some.injEq, Prod.mk.injEq] at H
              obtain ⟨rfl, rfl, rfl⟩ := H
              go_enter Tryz.func36, Tryz.ntmps36
              go_wp2_with (first | ((with_reducible refine gate_dst (N := 4) rfl ?_); (try (refine gate_guard (by rfl) ?_; dsimp only)); refine box_event ?hg (N := 4) ?hd (cs := #[.string (⟨#[]⟩ : ByteArray), .string (⟨#[]⟩ : ByteArray)]) (t := 68) ?hr ?_; (case hd => rfl); (case hg => rfl); (case hr => first | (go_simp; done) | (go_simp; rfl)); intro gb166 hg w65 hbox hb; have n0_ := Aside0.mk (below_step (by repeat (first | (with_reducible first | exact HB.out | apply below_alloc | apply pw_below_drewN | apply below_drew1) | exact HB.out)) hb); have n1_ := Aside0.mk (hbox); have n2_ := Aside0.mk ((by rw [hg]; exact (below_size (by repeat (first | (with_reducible first | exact HB.out | apply below_alloc | apply pw_below_drewN | apply below_drew1) | exact HB.out))) : w.heap.size ≤ gb166)); have n3_ := Aside0.mk ((by rw [hg]; exact (below_size (by repeat (first | (with_reducible first | exact HB.out | apply below_alloc | apply pw_below_drewN | apply below_drew1) | exact HB.out))) : w.heap.size ≤ gb166)); clear HB; have HB := n0_; have BK166 := n1_; have GW166 := n2_; have GE166 := n3_; clear n0_ n1_ n2_ n3_; clear hb hbox hg) | ((with_reducible refine gate_callee (f := 44) rfl ?_); refine goesL_ (some 12) rfl rfl Tryz.func44 (by kernel_rfl) rfl #[.int .i64 a1] rfl (by (try simp only [List.map_toArray, List.map_cons, List.map_nil]); first | done | rfl | (simp only [List.length_drop, List.length_take]; rfl)) ?_; (with_reducible refine (spec_l1Num.calls a1 t167 _ A3.out).mono ?_); rintro e w66 ⟨rfl, hb⟩; refine ⟨_, rfl, ?_⟩; have n0_ := Aside0.mk (blk_below (g := gb166) (o := .cells #[.string (⟨#[]⟩ : ByteArray), .string (⟨#[]⟩ : ByteArray)] 68 (0, 0)) (by (with_reducible repeat (first | refine blk_drewN ?_ _ | refine blk_drew ?_ | refine blk_alloc ?_ _)); exact BK166.out) hb); have n1_ := Aside0.mk (below_step (by repeat (first | (with_reducible first | exact HB.out | apply below_alloc | apply pw_below_drewN | apply below_drew1 | refine below_set ?_ GE166.out) | exact HB.out)) hb); clear BK166; clear HB; have BK166 := n0_; have HB := n1_; clear n0_ n1_; (try clear hb); (try clear hb2); (try clear hk); (try clear hi)) | ((with_reducible refine gate_callee (f := 35) rfl ?_); refine goesL_ (some 15) rfl rfl Tryz.func35 (by kernel_rfl) rfl #[.string a0, .int .u8 35] rfl (by (try simp only [List.map_toArray, List.map_cons, List.map_nil]); first | done | rfl | (simp only [List.length_drop, List.length_take]; rfl)) ?_; (with_reducible refine (spec_l1Split.calls k a0 35 t168 _ A5.out).mono ?_); rintro e w67 ⟨v169, rfl, ho0, hb⟩; refine ⟨_, rfl, ?_⟩; have n0_ := Aside0.mk (Kd.R_lower ho0 (below_size (by repeat (first | (with_reducible first | exact HB.out | apply below_alloc | apply pw_below_drewN | apply below_drew1 | refine below_set ?_ GE166.out) | exact HB.out)))); have n1_ := Aside0.mk (blk_below (g := gb166) (o := .cells #[.string (⟨#[]⟩ : ByteArray), .string (⟨#[]⟩ : ByteArray)] 68 (0, 0)) (by (with_reducible repeat (first | refine blk_drewN ?_ _ | refine blk_drew ?_ | refine blk_alloc ?_ _)); exact BK166.out) hb); have n2_ := Aside0.mk (below_step (by repeat (first | (with_reducible first | exact HB.out | apply below_alloc | apply pw_below_drewN | apply below_drew1 | refine below_set ?_ GE166.out) | exact HB.out)) hb); clear BK166; clear HB; have HO170 := n0_; have BK166 := n1_; have HB := n2_; clear n0_ n1_ n2_; (try clear hb); (try clear hb2); (try clear hk); (try clear hi); (try clear ho0); obtain ⟨Ao68, co68, eo68⟩ := Kd.R_slice HO170.out; subst eo68; have p171 : 0 ≤ (0 : Int) := (by omega); have q171 : 0 < (t168.length : Int) := of_decide_eq_true (by first | (with_reducible assumption) | assumption); obtain ⟨ad171, e171, hx171_0⟩ := Kd.at_string (Kd.R_reads' HO170.out).2.2 0 p171 q171; cases e171; have qi171 : (0 < t168.length) = True := eq_true (by omega); (try rw [show ((0 : Int)).toNat = 0 from rfl] at hx171_0); (try rw [Addr.add_zero'] at hx171_0); replace p171 := eq_true p171; replace q171 := eq_true q171; have hcz69_0 : w67.cell? ⟨gb166, 0, none⟩ = some (.string (⟨#[]⟩ : ByteArray)) := (blk_cell BK166.out 0).trans rfl; have hcz69_1 : w67.cell? ⟨gb166, 1, none⟩ = some (.string (⟨#[]⟩ : ByteArray)) := (blk_cell BK166.out 1).trans rfl; have hfz69_0 := blk_frozen BK166.out 0; have hfz69_1 := blk_frozen BK166.out 1))
              refine bodyPost_ret (results_ct rfl _ _ gb166 68 #[.string (⟨#[]⟩ : ByteArray), .string (⟨#[]⟩ : ByteArray)] (0, 0) _ rfl (by (with_reducible repeat (first | refine blk_drewN ?_ _ | refine blk_drew ?_ | refine blk_alloc ?_ _)); refine blk_put (cs := #[.string (⟨#[]⟩ : ByteArray), .string (⟨#[]⟩ : ByteArray)]) ?_ 1 _ rfl; (with_reducible repeat (first | refine blk_drewN ?_ _ | refine blk_drew ?_ | refine blk_alloc ?_ _)); refine blk_put (cs := #[.string (⟨#[]⟩ : ByteArray), .string (⟨#[]⟩ : ByteArray)]) ?_ 0 _ rfl; (with_reducible repeat (first | refine blk_drewN ?_ _ | refine blk_drew ?_ | refine blk_alloc ?_ _)); exact BK166.out) Tryz.underlying68 rfl (by kernel_rfl)) rfl ?_
              exact ⟨by first | rfl | (simp [errW_none, errW_some] <;> rfl) | (simp only [← hji13]; first | rfl | (simp [errW_none, errW_some] <;> rfl)) | (simp [*, errW_none, errW_some] <;> rfl), by repeat (first | (with_reducible first | exact HB.out | apply below_alloc | apply pw_below_drewN | apply below_drew1 | refine below_set ?_ GE166.out) | exact HB.out)⟩
          · rw [if_neg c15] at H
            exact absurd H (by simp)
        · rw [if_neg c14] at H
          exact absurd H (by simp)
    · rw [if_neg c6] at H
      exact absurd H (by simp)
  · rw [if_neg c4] at H
    exact absurd H (by simp)

end Go.Proofs.YtnlcaihcnlpbpaaGreatDoor.X
