/- What functions of the program return (each as a Lean function and its contract); written by a program of this session's over the kit's printer. -/
import Derived.Test.YtnbhbnndfpfikaaDoorY0
import Derived.Test.YtnbhbnndfpfikaaDoorY3
import Derived.Test.YtnbhbnndfpfikaaDoorY4
import Derived.Test.YtnbhbnndfpfikaaDoorXa
namespace Go.Proofs.YtnbhbnndfpfikaaDoor.X
open Go.RowKit Go.Proofs.YtnbhbnndfpfikaaDoorW.PrintWords Go.Proofs.YtnbhbnndfpfikaaDoorW.PrintLast Go.Proofs.YtnbhbnndfpfikaaDoorW.PrintMore
attribute [local go_sem] max2_int min2_int max_two min_two max_three min_three max_four min_four   -- for this text's walks alone
set_option linter.unusedVariables false
set_option linter.unusedSimpArgs false
def spec_l12Decode.f (k : Nat) (a0 : ByteArray) (a1 : Int) : Option (ByteArray × ByteArray × Bool) := (spec_l1Num.f a1).bind fun t149 => (if t149.size + 1 ≤ 9223372036854775807 then ((spec_l1Split.f k a0 35).bind fun t150 => (if 0 < (t150.length : Int) then (if ((rdOf ByteArray.empty t150 0).size : Int) < (t149.size + 1 : Int) then (some ((⟨#[]⟩ : ByteArray), (⟨#[]⟩ : ByteArray), false)) else (if 0 ≤ (t149.size + 1 : Int) then (if (t149.size + 1 : Int) ≤ ((rdOf ByteArray.empty t150 0).size : Int) then (if ((rdOf ByteArray.empty t150 0).extract 0 ((t149.size + 1 : Int) : Int).toNat).toList = (t149 ++ (⟨#[32]⟩ : ByteArray)).toList then ((spec_l1Split.f k ((rdOf ByteArray.empty t150 0).extract ((t149.size + 1 : Int) : Int).toNat ((rdOf ByteArray.empty t150 0).size)) 64).bind fun t154 => (if 0 < (t154.length : Int) then (if ((rdOf ByteArray.empty t154 0).size : Int) = ((((rdOf ByteArray.empty t150 0).size) - ((t149.size + 1 : Int) : Int).toNat : Nat) : Int) then (some ((⟨#[]⟩ : ByteArray), (⟨#[]⟩ : ByteArray), false)) else (if 0 ≤ (wrap64 (((rdOf ByteArray.empty t154 0).size : Int) + 1)) then (if (wrap64 (((rdOf ByteArray.empty t154 0).size : Int) + 1)) ≤ ((((rdOf ByteArray.empty t150 0).size) - ((t149.size + 1 : Int) : Int).toNat : Nat) : Int) then ((spec_l12Record.f k (rdOf ByteArray.empty t154 0) (((rdOf ByteArray.empty t150 0).extract ((t149.size + 1 : Int) : Int).toNat ((rdOf ByteArray.empty t150 0).size)).extract ((wrap64 (((rdOf ByteArray.empty t154 0).size : Int) + 1)) : Int).toNat (((rdOf ByteArray.empty t150 0).size) - ((t149.size + 1 : Int) : Int).toNat))).bind fun t159 => (if t159 = true then ((spec_l12Line.f k a1 (rdOf ByteArray.empty t154 0) (((rdOf ByteArray.empty t150 0).extract ((t149.size + 1 : Int) : Int).toNat ((rdOf ByteArray.empty t150 0).size)).extract ((wrap64 (((rdOf ByteArray.empty t154 0).size : Int) + 1)) : Int).toNat (((rdOf ByteArray.empty t150 0).size) - ((t149.size + 1 : Int) : Int).toNat))).bind fun t160 => (if a0.size + 1 ≤ 9223372036854775807 then (some (rdOf ByteArray.empty t154 0, ((rdOf ByteArray.empty t150 0).extract ((t149.size + 1 : Int) : Int).toNat ((rdOf ByteArray.empty t150 0).size)).extract ((wrap64 (((rdOf ByteArray.empty t154 0).size : Int) + 1)) : Int).toNat (((rdOf ByteArray.empty t150 0).size) - ((t149.size + 1 : Int) : Int).toNat), (t160.toList == (a0 ++ (⟨#[10]⟩ : ByteArray)).toList))) else (none))) else (some (rdOf ByteArray.empty t154 0, ((rdOf ByteArray.empty t150 0).extract ((t149.size + 1 : Int) : Int).toNat ((rdOf ByteArray.empty t150 0).size)).extract ((wrap64 (((rdOf ByteArray.empty t154 0).size : Int) + 1)) : Int).toNat (((rdOf ByteArray.empty t150 0).size) - ((t149.size + 1 : Int) : Int).toNat), false)))) else (none)) else (none))) else (none))) else (some ((⟨#[]⟩ : ByteArray), (⟨#[]⟩ : ByteArray), false))) else (none)) else (none))) else (none))) else (none))
def spec_l12Decode.T10 : Bool × List (List Nat × List Nat) := (true, [([], []), ([], []), ([1], [1]), ([2, 2], [2]), ([3], [3]), ([3], [3]), ([4, 5, 3, 3], [3, 4, 5]), ([3], [3]), ([7, 3], [3, 7]), ([6, 8, 3], [3, 6, 8]), ([3, 9], [3, 9]), ([0, 6, 0], [0]), ([10, 11, 0, 1, 2, 3, 4, 5, 6, 7, 8, 9, 10, 11], [10])])
def spec_l12Decode.B10 : List Nat := [0, 0, 2, 6, 14, 14, 62, 14, 142, 510, 1022, 127, 4095]
theorem spec_l12Decode.tab10 : rtab .any (opsOf Tryd.f84 10) = spec_l12Decode.T10 := by kernel_rfl
theorem spec_l12Decode.bits10 : waitsOk spec_l12Decode.T10.2 spec_l12Decode.B10 = true := by kernel_rfl
set_option maxHeartbeats 8000000 in
set_option maxRecDepth 100000 in
theorem spec_l12Decode.calls (k : Nat) (a0 : ByteArray) (a1 : Int) (r1 : ByteArray) (r2 : ByteArray) (r3 : Bool) (w : World) (h : spec_l12Decode.f k a0 a1 = some (r1, r2, r3)) :
    Calls Tryd.prog 84 #[.string a0, .int .i64 a1] w fun e w' => e = .returned (.tuple #[.agg #[.string r1, .string r2], .bool r3]) ∧ Below w.heap.size w w' := by
  have hu36 := Tryd.underlying36
  have HB := zA (qO w.heap.size w)
  have H : ((spec_l1Num.f a1).bind fun t149 => (if t149.size + 1 ≤ 9223372036854775807 then ((spec_l1Split.f k a0 35).bind fun t150 => (if 0 < (t150.length : Int) then (if ((rdOf ByteArray.empty t150 0).size : Int) < (t149.size + 1 : Int) then (some ((⟨#[]⟩ : ByteArray), (⟨#[]⟩ : ByteArray), false)) else (if 0 ≤ (t149.size + 1 : Int) then (if (t149.size + 1 : Int) ≤ ((rdOf ByteArray.empty t150 0).size : Int) then (if ((rdOf ByteArray.empty t150 0).extract 0 ((t149.size + 1 : Int) : Int).toNat).toList = (t149 ++ (⟨#[32]⟩ : ByteArray)).toList then ((spec_l1Split.f k ((rdOf ByteArray.empty t150 0).extract ((t149.size + 1 : Int) : Int).toNat ((rdOf ByteArray.empty t150 0).size)) 64).bind fun t154 => (if 0 < (t154.length : Int) then (if ((rdOf ByteArray.empty t154 0).size : Int) = ((((rdOf ByteArray.empty t150 0).size) - ((t149.size + 1 : Int) : Int).toNat : Nat) : Int) then (some ((⟨#[]⟩ : ByteArray), (⟨#[]⟩ : ByteArray), false)) else (if 0 ≤ (wrap64 (((rdOf ByteArray.empty t154 0).size : Int) + 1)) then (if (wrap64 (((rdOf ByteArray.empty t154 0).size : Int) + 1)) ≤ ((((rdOf ByteArray.empty t150 0).size) - ((t149.size + 1 : Int) : Int).toNat : Nat) : Int) then ((spec_l12Record.f k (rdOf ByteArray.empty t154 0) (((rdOf ByteArray.empty t150 0).extract ((t149.size + 1 : Int) : Int).toNat ((rdOf ByteArray.empty t150 0).size)).extract ((wrap64 (((rdOf ByteArray.empty t154 0).size : Int) + 1)) : Int).toNat (((rdOf ByteArray.empty t150 0).size) - ((t149.size + 1 : Int) : Int).toNat))).bind fun t159 => (if t159 = true then ((spec_l12Line.f k a1 (rdOf ByteArray.empty t154 0) (((rdOf ByteArray.empty t150 0).extract ((t149.size + 1 : Int) : Int).toNat ((rdOf ByteArray.empty t150 0).size)).extract ((wrap64 (((rdOf ByteArray.empty t154 0).size : Int) + 1)) : Int).toNat (((rdOf ByteArray.empty t150 0).size) - ((t149.size + 1 : Int) : Int).toNat))).bind fun t160 => (if a0.size + 1 ≤ 9223372036854775807 then (some (rdOf ByteArray.empty t154 0, ((rdOf ByteArray.empty t150 0).extract ((t149.size + 1 : Int) : Int).toNat ((rdOf ByteArray.empty t150 0).size)).extract ((wrap64 (((rdOf ByteArray.empty t154 0).size : Int) + 1)) : Int).toNat (((rdOf ByteArray.empty t150 0).size) - ((t149.size + 1 : Int) : Int).toNat), (t160.toList == (a0 ++ (⟨#[10]⟩ : ByteArray)).toList))) else (none))) else (some (rdOf ByteArray.empty t154 0, ((rdOf ByteArray.empty t150 0).extract ((t149.size + 1 : Int) : Int).toNat ((rdOf ByteArray.empty t150 0).size)).extract ((wrap64 (((rdOf ByteArray.empty t154 0).size : Int) + 1)) : Int).toNat (((rdOf ByteArray.empty t150 0).size) - ((t149.size + 1 : Int) : Int).toNat), false)))) else (none)) else (none))) else (none))) else (some ((⟨#[]⟩ : ByteArray), (⟨#[]⟩ : ByteArray), false))) else (none)) else (none))) else (none))) else (none))) = some (r1, r2, r3) := h
  clear h
  replace H := Option.bind_eq_some_iff.mp H
  obtain ⟨t149, A30, H⟩ := H
  replace H : (if t149.size + 1 ≤ 9223372036854775807 then ((spec_l1Split.f k a0 35).bind fun t150 => (if 0 < (t150.length : Int) then (if ((rdOf ByteArray.empty t150 0).size : Int) < (t149.size + 1 : Int) then (some ((⟨#[]⟩ : ByteArray), (⟨#[]⟩ : ByteArray), false)) else (if 0 ≤ (t149.size + 1 : Int) then (if (t149.size + 1 : Int) ≤ ((rdOf ByteArray.empty t150 0).size : Int) then (if ((rdOf ByteArray.empty t150 0).extract 0 ((t149.size + 1 : Int) : Int).toNat).toList = (t149 ++ (⟨#[32]⟩ : ByteArray)).toList then ((spec_l1Split.f k ((rdOf ByteArray.empty t150 0).extract ((t149.size + 1 : Int) : Int).toNat ((rdOf ByteArray.empty t150 0).size)) 64).bind fun t154 => (if 0 < (t154.length : Int) then (if ((rdOf ByteArray.empty t154 0).size : Int) = ((((rdOf ByteArray.empty t150 0).size) - ((t149.size + 1 : Int) : Int).toNat : Nat) : Int) then (some ((⟨#[]⟩ : ByteArray), (⟨#[]⟩ : ByteArray), false)) else (if 0 ≤ (wrap64 (((rdOf ByteArray.empty t154 0).size : Int) + 1)) then (if (wrap64 (((rdOf ByteArray.empty t154 0).size : Int) + 1)) ≤ ((((rdOf ByteArray.empty t150 0).size) - ((t149.size + 1 : Int) : Int).toNat : Nat) : Int) then ((spec_l12Record.f k (rdOf ByteArray.empty t154 0) (((rdOf ByteArray.empty t150 0).extract ((t149.size + 1 : Int) : Int).toNat ((rdOf ByteArray.empty t150 0).size)).extract ((wrap64 (((rdOf ByteArray.empty t154 0).size : Int) + 1)) : Int).toNat (((rdOf ByteArray.empty t150 0).size) - ((t149.size + 1 : Int) : Int).toNat))).bind fun t159 => (if t159 = true then ((spec_l12Line.f k a1 (rdOf ByteArray.empty t154 0) (((rdOf ByteArray.empty t150 0).extract ((t149.size + 1 : Int) : Int).toNat ((rdOf ByteArray.empty t150 0).size)).extract ((wrap64 (((rdOf ByteArray.empty t154 0).size : Int) + 1)) : Int).toNat (((rdOf ByteArray.empty t150 0).size) - ((t149.size + 1 : Int) : Int).toNat))).bind fun t160 => (if a0.size + 1 ≤ 9223372036854775807 then (some (rdOf ByteArray.empty t154 0, ((rdOf ByteArray.empty t150 0).extract ((t149.size + 1 : Int) : Int).toNat ((rdOf ByteArray.empty t150 0).size)).extract ((wrap64 (((rdOf ByteArray.empty t154 0).size : Int) + 1)) : Int).toNat (((rdOf ByteArray.empty t150 0).size) - ((t149.size + 1 : Int) : Int).toNat), (t160.toList == (a0 ++ (⟨#[10]⟩ : ByteArray)).toList))) else (none))) else (some (rdOf ByteArray.empty t154 0, ((rdOf ByteArray.empty t150 0).extract ((t149.size + 1 : Int) : Int).toNat ((rdOf ByteArray.empty t150 0).size)).extract ((wrap64 (((rdOf ByteArray.empty t154 0).size : Int) + 1)) : Int).toNat (((rdOf ByteArray.empty t150 0).size) - ((t149.size + 1 : Int) : Int).toNat), false)))) else (none)) else (none))) else (none))) else (some ((⟨#[]⟩ : ByteArray), (⟨#[]⟩ : ByteArray), false))) else (none)) else (none))) else (none))) else (none)) = some (r1, r2, r3) := H
  have A3 := zA A30
  clear A30
  by_cases c4 : t149.size + 1 ≤ 9223372036854775807
  · rw [if_pos c4] at H
    have c4b0 := eq_true c4
    have c4b1 : decide (t149.size + 1 ≤ 9223372036854775807) = true := qE c4
    try have c4b2 : (9223372036854775807 < t149.size + 1) = False := eq_false (Nat.not_lt.2 c4)
    replace H := Option.bind_eq_some_iff.mp H
    obtain ⟨t150, A50, H⟩ := H
    replace H : (if 0 < (t150.length : Int) then (if ((rdOf ByteArray.empty t150 0).size : Int) < (t149.size + 1 : Int) then (some ((⟨#[]⟩ : ByteArray), (⟨#[]⟩ : ByteArray), false)) else (if 0 ≤ (t149.size + 1 : Int) then (if (t149.size + 1 : Int) ≤ ((rdOf ByteArray.empty t150 0).size : Int) then (if ((rdOf ByteArray.empty t150 0).extract 0 ((t149.size + 1 : Int) : Int).toNat).toList = (t149 ++ (⟨#[32]⟩ : ByteArray)).toList then ((spec_l1Split.f k ((rdOf ByteArray.empty t150 0).extract ((t149.size + 1 : Int) : Int).toNat ((rdOf ByteArray.empty t150 0).size)) 64).bind fun t154 => (if 0 < (t154.length : Int) then (if ((rdOf ByteArray.empty t154 0).size : Int) = ((((rdOf ByteArray.empty t150 0).size) - ((t149.size + 1 : Int) : Int).toNat : Nat) : Int) then (some ((⟨#[]⟩ : ByteArray), (⟨#[]⟩ : ByteArray), false)) else (if 0 ≤ (wrap64 (((rdOf ByteArray.empty t154 0).size : Int) + 1)) then (if (wrap64 (((rdOf ByteArray.empty t154 0).size : Int) + 1)) ≤ ((((rdOf ByteArray.empty t150 0).size) - ((t149.size + 1 : Int) : Int).toNat : Nat) : Int) then ((spec_l12Record.f k (rdOf ByteArray.empty t154 0) (((rdOf ByteArray.empty t150 0).extract ((t149.size + 1 : Int) : Int).toNat ((rdOf ByteArray.empty t150 0).size)).extract ((wrap64 (((rdOf ByteArray.empty t154 0).size : Int) + 1)) : Int).toNat (((rdOf ByteArray.empty t150 0).size) - ((t149.size + 1 : Int) : Int).toNat))).bind fun t159 => (if t159 = true then ((spec_l12Line.f k a1 (rdOf ByteArray.empty t154 0) (((rdOf ByteArray.empty t150 0).extract ((t149.size + 1 : Int) : Int).toNat ((rdOf ByteArray.empty t150 0).size)).extract ((wrap64 (((rdOf ByteArray.empty t154 0).size : Int) + 1)) : Int).toNat (((rdOf ByteArray.empty t150 0).size) - ((t149.size + 1 : Int) : Int).toNat))).bind fun t160 => (if a0.size + 1 ≤ 9223372036854775807 then (some (rdOf ByteArray.empty t154 0, ((rdOf ByteArray.empty t150 0).extract ((t149.size + 1 : Int) : Int).toNat ((rdOf ByteArray.empty t150 0).size)).extract ((wrap64 (((rdOf ByteArray.empty t154 0).size : Int) + 1)) : Int).toNat (((rdOf ByteArray.empty t150 0).size) - ((t149.size + 1 : Int) : Int).toNat), (t160.toList == (a0 ++ (⟨#[10]⟩ : ByteArray)).toList))) else (none))) else (some (rdOf ByteArray.empty t154 0, ((rdOf ByteArray.empty t150 0).extract ((t149.size + 1 : Int) : Int).toNat ((rdOf ByteArray.empty t150 0).size)).extract ((wrap64 (((rdOf ByteArray.empty t154 0).size : Int) + 1)) : Int).toNat (((rdOf ByteArray.empty t150 0).size) - ((t149.size + 1 : Int) : Int).toNat), false)))) else (none)) else (none))) else (none))) else (some ((⟨#[]⟩ : ByteArray), (⟨#[]⟩ : ByteArray), false))) else (none)) else (none))) else (none)) = some (r1, r2, r3) := H
    have A5 := zA A50
    clear A50
    by_cases c6 : 0 < (t150.length : Int)
    · rw [if_pos c6] at H
      have c6b0 : decide (0 < (t150.length : Int)) = true := qE c6
      have c6b1 : decide (0 < t150.length) = true := qE (by omega)
      clear c6
      by_cases c7 : ((rdOf ByteArray.empty t150 0).size : Int) < (t149.size + 1 : Int)
      · rw [if_pos c7] at H
        have c7b0 : decide (((rdOf ByteArray.empty t150 0).size : Int) < (t149.size + 1 : Int)) = true := qE c7
        have c7b1 : decide ((rdOf ByteArray.empty t150 0).size < t149.size + 1) = true := qE (Int.ofNat_lt.mp c7)
        clear c7
        simp only [Option.some.injEq, Prod.mk.injEq] at H
        obtain ⟨rfl, rfl, rfl⟩ := H
        go_enter Tryd.func84, Tryd.ntmps84
        go_wp2_with (first | ((with_reducible refine zZ (N := 4) rfl ?_); (try (refine gate_guard (by rfl) ?_; dsimp only)); refine zY ?hg (N := 4) ?hd (cs := #[.string (⟨#[]⟩ : ByteArray), .string (⟨#[]⟩ : ByteArray)]) (t := 36) ?hr ?_; (case hd => rfl); (case hg => rfl); (case hr => first | (go_simp; done) | (go_simp; rfl)); intro gb148 hg w8 hbox hb; have n0_ := zA (zL (by repeat (first | (with_reducible first | exact HB.out | apply zD | apply zB | apply zC) | exact HB.out)) hb); have n1_ := zA (hbox); have n2_ := zA ((by rw [hg]; exact (zK (by repeat (first | (with_reducible first | exact HB.out | apply zD | apply zB | apply zC) | exact HB.out))) : w.heap.size ≤ gb148)); have n3_ := zA ((by rw [hg]; exact (zK (by repeat (first | (with_reducible first | exact HB.out | apply zD | apply zB | apply zC) | exact HB.out))) : w.heap.size ≤ gb148)); clear HB; have HB := n0_; have BK148 := n1_; have GW148 := n2_; have GE148 := n3_; clear n0_ n1_ n2_ n3_; clear hb hbox hg) | ((with_reducible refine zS (f := 63) rfl ?_); refine qW (some 12) rfl rfl Tryd.func63 (by kernel_rfl) rfl #[.int .i64 a1] rfl (by (try simp only [List.map_toArray, List.map_cons, List.map_nil]); first | done | rfl | (simp only [qN, qM]; rfl)) ?_; (with_reducible refine (spec_l1Num.calls a1 t149 _ A3.out).mono ?_); rintro e w9 ⟨rfl, hb⟩; refine ⟨_, rfl, ?_⟩; have n0_ := zA (zR (g := gb148) (o := .cells #[.string (⟨#[]⟩ : ByteArray), .string (⟨#[]⟩ : ByteArray)] 36 (0, 0)) (by (with_reducible repeat (first | refine zF ?_ _ | refine zH ?_ | refine zG ?_ _)); exact BK148.out) hb); have n1_ := zA (zL (by repeat (first | (with_reducible first | exact HB.out | apply zD | apply zB | apply zC | refine zE ?_ GE148.out) | exact HB.out)) hb); clear BK148; clear HB; have BK148 := n0_; have HB := n1_; clear n0_ n1_; (try clear hb); (try clear hb2); (try clear hk); (try clear hi)) | ((with_reducible refine zS (f := 83) rfl ?_); refine qW (some 15) rfl rfl Tryd.func83 (by kernel_rfl) rfl #[.string a0, .int .u8 35] rfl (by (try simp only [List.map_toArray, List.map_cons, List.map_nil]); first | done | rfl | (simp only [qN, qM]; rfl)) ?_; (with_reducible refine (spec_l1Split.calls k a0 35 t150 _ A5.out).mono ?_); rintro e w10 ⟨v151, rfl, ho0, hb⟩; refine ⟨_, rfl, ?_⟩; have n0_ := zA (Kd.R_lower ho0 (zK (by repeat (first | (with_reducible first | exact HB.out | apply zD | apply zB | apply zC | refine zE ?_ GE148.out) | exact HB.out)))); have n1_ := zA (zR (g := gb148) (o := .cells #[.string (⟨#[]⟩ : ByteArray), .string (⟨#[]⟩ : ByteArray)] 36 (0, 0)) (by (with_reducible repeat (first | refine zF ?_ _ | refine zH ?_ | refine zG ?_ _)); exact BK148.out) hb); have n2_ := zA (zL (by repeat (first | (with_reducible first | exact HB.out | apply zD | apply zB | apply zC | refine zE ?_ GE148.out) | exact HB.out)) hb); clear BK148; clear HB; have HO152 := n0_; have BK148 := n1_; have HB := n2_; clear n0_ n1_ n2_; (try clear hb); (try clear hb2); (try clear hk); (try clear hi); (try clear ho0); obtain ⟨Ao11, co11, eo11⟩ := Kd.R_slice HO152.out; subst eo11; have p153 : 0 ≤ (0 : Int) := (by omega); have q153 : 0 < (t150.length : Int) := qF (by first | (with_reducible assumption) | assumption); obtain ⟨ad153, e153, hx153_0⟩ := Kd.at_string (Kd.R_reads' HO152.out).2.2 0 p153 q153; cases e153; have qi153 : (0 < t150.length) = True := eq_true (by omega); (try rw [show ((0 : Int)).toNat = 0 from rfl] at hx153_0); (try rw [Addr.add_zero'] at hx153_0); replace p153 := eq_true p153; replace q153 := eq_true q153; have hcz12_0 : w10.cell? ⟨gb148, 0, none⟩ = some (.string (⟨#[]⟩ : ByteArray)) := (zJ BK148.out 0).trans rfl; have hcz12_1 : w10.cell? ⟨gb148, 1, none⟩ = some (.string (⟨#[]⟩ : ByteArray)) := (zJ BK148.out 1).trans rfl; have hfz12_0 := zI BK148.out 0; have hfz12_1 := zI BK148.out 1))
        refine bodyPost_ret (results_ct rfl _ _ gb148 36 #[.string (⟨#[]⟩ : ByteArray), .string (⟨#[]⟩ : ByteArray)] (0, 0) _ rfl (by (with_reducible repeat (first | refine zF ?_ _ | refine zH ?_ | refine zG ?_ _)); refine zX (cs := #[.string (⟨#[]⟩ : ByteArray), .string (⟨#[]⟩ : ByteArray)]) ?_ 1 _ rfl; (with_reducible repeat (first | refine zF ?_ _ | refine zH ?_ | refine zG ?_ _)); refine zX (cs := #[.string (⟨#[]⟩ : ByteArray), .string (⟨#[]⟩ : ByteArray)]) ?_ 0 _ rfl; (with_reducible repeat (first | refine zF ?_ _ | refine zH ?_ | refine zG ?_ _)); exact BK148.out) Tryd.underlying36 rfl (by kernel_rfl)) rfl ?_
        exact ⟨by first | rfl | (simp [qH, qI] <;> rfl) | (simp [*, qH, qI] <;> rfl), by repeat (first | (with_reducible first | exact HB.out | apply zD | apply zB | apply zC | refine zE ?_ GE148.out) | exact HB.out)⟩
      · rw [if_neg c7] at H
        have c7b0 : decide (((rdOf ByteArray.empty t150 0).size : Int) < (t149.size + 1 : Int)) = false := qG c7
        have c7b1 : decide ((rdOf ByteArray.empty t150 0).size < t149.size + 1) = false := qG (fun h => c7 (Int.ofNat_lt.mpr h))
        clear c7
        obtain ⟨ji13, hji13⟩ : ∃ j_ : Int, (t149.size + 1 : Int) = j_ := ⟨_, rfl⟩
        replace H : (if 0 ≤ (ji13) then (if (ji13) ≤ ((rdOf ByteArray.empty t150 0).size : Int) then (if ((rdOf ByteArray.empty t150 0).extract 0 ((ji13) : Int).toNat).toList = (t149 ++ (⟨#[32]⟩ : ByteArray)).toList then ((spec_l1Split.f k ((rdOf ByteArray.empty t150 0).extract ((ji13) : Int).toNat ((rdOf ByteArray.empty t150 0).size)) 64).bind fun t154 => (if 0 < (t154.length : Int) then (if ((rdOf ByteArray.empty t154 0).size : Int) = ((((rdOf ByteArray.empty t150 0).size) - ((ji13) : Int).toNat : Nat) : Int) then (some ((⟨#[]⟩ : ByteArray), (⟨#[]⟩ : ByteArray), false)) else (if 0 ≤ (wrap64 (((rdOf ByteArray.empty t154 0).size : Int) + 1)) then (if (wrap64 (((rdOf ByteArray.empty t154 0).size : Int) + 1)) ≤ ((((rdOf ByteArray.empty t150 0).size) - ((ji13) : Int).toNat : Nat) : Int) then ((spec_l12Record.f k (rdOf ByteArray.empty t154 0) (((rdOf ByteArray.empty t150 0).extract ((ji13) : Int).toNat ((rdOf ByteArray.empty t150 0).size)).extract ((wrap64 (((rdOf ByteArray.empty t154 0).size : Int) + 1)) : Int).toNat (((rdOf ByteArray.empty t150 0).size) - ((ji13) : Int).toNat))).bind fun t159 => (if t159 = true then ((spec_l12Line.f k a1 (rdOf ByteArray.empty t154 0) (((rdOf ByteArray.empty t150 0).extract ((ji13) : Int).toNat ((rdOf ByteArray.empty t150 0).size)).extract ((wrap64 (((rdOf ByteArray.empty t154 0).size : Int) + 1)) : Int).toNat (((rdOf ByteArray.empty t150 0).size) - ((ji13) : Int).toNat))).bind fun t160 => (if a0.size + 1 ≤ 9223372036854775807 then (some (rdOf ByteArray.empty t154 0, ((rdOf ByteArray.empty t150 0).extract ((ji13) : Int).toNat ((rdOf ByteArray.empty t150 0).size)).extract ((wrap64 (((rdOf ByteArray.empty t154 0).size : Int) + 1)) : Int).toNat (((rdOf ByteArray.empty t150 0).size) - ((ji13) : Int).toNat), (t160.toList == (a0 ++ (⟨#[10]⟩ : ByteArray)).toList))) else (none))) else (some (rdOf ByteArray.empty t154 0, ((rdOf ByteArray.empty t150 0).extract ((ji13) : Int).toNat ((rdOf ByteArray.empty t150 0).size)).extract ((wrap64 (((rdOf ByteArray.empty t154 0).size : Int) + 1)) : Int).toNat (((rdOf ByteArray.empty t150 0).size) - ((ji13) : Int).toNat), false)))) else (none)) else (none))) else (none))) else (some ((⟨#[]⟩ : ByteArray), (⟨#[]⟩ : ByteArray), false))) else (none)) else (none)) = some (r1, r2, r3) := by first | (rw [hji13] at H; exact H) | (simp only [hji13] at H ⊢; exact H)
        (try rw [hji13] at c7b0)
        (try rw [hji13] at A3)
        (try rw [hji13] at A5)
        by_cases c14 : 0 ≤ (ji13)
        · rw [if_pos c14] at H
          have c14b0 := eq_true c14
          have c14b1 : decide (0 ≤ (ji13)) = true := qE c14
          clear c14
          by_cases c15 : (ji13) ≤ ((rdOf ByteArray.empty t150 0).size : Int)
          · rw [if_pos c15] at H
            have c15b0 := eq_true c15
            have c15b1 : decide ((ji13) ≤ ((rdOf ByteArray.empty t150 0).size : Int)) = true := qE c15
            clear c15
            by_cases c16 : ((rdOf ByteArray.empty t150 0).extract 0 ((ji13) : Int).toNat).toList = (t149 ++ (⟨#[32]⟩ : ByteArray)).toList
            · rw [if_pos c16] at H
              have c16b0 : (((rdOf ByteArray.empty t150 0).extract 0 ((ji13) : Int).toNat).toList == (t149 ++ (⟨#[32]⟩ : ByteArray)).toList) = true := beq_iff_eq.mpr c16
              have c16b1 : (((rdOf ByteArray.empty t150 0).extract 0 ((ji13) : Int).toNat).toList != (t149 ++ (⟨#[32]⟩ : ByteArray)).toList) = false := bne_eq_false_iff_eq.mpr c16
              clear c16
              have c17b0 := eq_true (qF (by first | (with_reducible assumption) | assumption) : 0 ≤ (ji13))
              have c18b0 := eq_true (qF (by first | (with_reducible assumption) | assumption) : (ji13) ≤ ((rdOf ByteArray.empty t150 0).size : Int))
              replace H := Option.bind_eq_some_iff.mp H
              obtain ⟨t154, A190, H⟩ := H
              replace H : (if 0 < (t154.length : Int) then (if ((rdOf ByteArray.empty t154 0).size : Int) = ((((rdOf ByteArray.empty t150 0).size) - ((ji13) : Int).toNat : Nat) : Int) then (some ((⟨#[]⟩ : ByteArray), (⟨#[]⟩ : ByteArray), false)) else (if 0 ≤ (wrap64 (((rdOf ByteArray.empty t154 0).size : Int) + 1)) then (if (wrap64 (((rdOf ByteArray.empty t154 0).size : Int) + 1)) ≤ ((((rdOf ByteArray.empty t150 0).size) - ((ji13) : Int).toNat : Nat) : Int) then ((spec_l12Record.f k (rdOf ByteArray.empty t154 0) (((rdOf ByteArray.empty t150 0).extract ((ji13) : Int).toNat ((rdOf ByteArray.empty t150 0).size)).extract ((wrap64 (((rdOf ByteArray.empty t154 0).size : Int) + 1)) : Int).toNat (((rdOf ByteArray.empty t150 0).size) - ((ji13) : Int).toNat))).bind fun t159 => (if t159 = true then ((spec_l12Line.f k a1 (rdOf ByteArray.empty t154 0) (((rdOf ByteArray.empty t150 0).extract ((ji13) : Int).toNat ((rdOf ByteArray.empty t150 0).size)).extract ((wrap64 (((rdOf ByteArray.empty t154 0).size : Int) + 1)) : Int).toNat (((rdOf ByteArray.empty t150 0).size) - ((ji13) : Int).toNat))).bind fun t160 => (if a0.size + 1 ≤ 9223372036854775807 then (some (rdOf ByteArray.empty t154 0, ((rdOf ByteArray.empty t150 0).extract ((ji13) : Int).toNat ((rdOf ByteArray.empty t150 0).size)).extract ((wrap64 (((rdOf ByteArray.empty t154 0).size : Int) + 1)) : Int).toNat (((rdOf ByteArray.empty t150 0).size) - ((ji13) : Int).toNat), (t160.toList == (a0 ++ (⟨#[10]⟩ : ByteArray)).toList))) else (none))) else (some (rdOf ByteArray.empty t154 0, ((rdOf ByteArray.empty t150 0).extract ((ji13) : Int).toNat ((rdOf ByteArray.empty t150 0).size)).extract ((wrap64 (((rdOf ByteArray.empty t154 0).size : Int) + 1)) : Int).toNat (((rdOf ByteArray.empty t150 0).size) - ((ji13) : Int).toNat), false)))) else (none)) else (none))) else (none)) = some (r1, r2, r3) := H
              have A19 := zA A190
              clear A190
              by_cases c20 : 0 < (t154.length : Int)
              · rw [if_pos c20] at H
                have c20b0 : decide (0 < (t154.length : Int)) = true := qE c20
                have c20b1 : decide (0 < t154.length) = true := qE (by omega)
                clear c20
                by_cases c21 : ((rdOf ByteArray.empty t154 0).size : Int) = ((((rdOf ByteArray.empty t150 0).size) - ((ji13) : Int).toNat : Nat) : Int)
                · rw [if_pos c21] at H
                  have c21b0 : (((rdOf ByteArray.empty t154 0).size : Int) == ((((rdOf ByteArray.empty t150 0).size) - ((ji13) : Int).toNat : Nat) : Int)) = true := beq_iff_eq.mpr c21
                  have c21b1 : (((rdOf ByteArray.empty t154 0).size : Int) != ((((rdOf ByteArray.empty t150 0).size) - ((ji13) : Int).toNat : Nat) : Int)) = false := bne_eq_false_iff_eq.mpr c21
                  have c21b2 : ((rdOf ByteArray.empty t154 0).size == ((rdOf ByteArray.empty t150 0).size) - ((ji13) : Int).toNat) = true := by first | simpa using c21 | (simp at c21 ⊢; omega)
                  clear c21
                  simp only [Option.some.injEq, Prod.mk.injEq] at H
                  obtain ⟨rfl, rfl, rfl⟩ := H
                  go_enter Tryd.func84, Tryd.ntmps84
                  go_wp2_with (first | ((with_reducible refine zZ (N := 4) rfl ?_); (try (refine gate_guard (by rfl) ?_; dsimp only)); refine zY ?hg (N := 4) ?hd (cs := #[.string (⟨#[]⟩ : ByteArray), .string (⟨#[]⟩ : ByteArray)]) (t := 36) ?hr ?_; (case hd => rfl); (case hg => rfl); (case hr => first | (go_simp; done) | (go_simp; rfl)); intro gb148 hg w22 hbox hb; have n0_ := zA (zL (by repeat (first | (with_reducible first | exact HB.out | apply zD | apply zB | apply zC) | exact HB.out)) hb); have n1_ := zA (hbox); have n2_ := zA ((by rw [hg]; exact (zK (by repeat (first | (with_reducible first | exact HB.out | apply zD | apply zB | apply zC) | exact HB.out))) : w.heap.size ≤ gb148)); have n3_ := zA ((by rw [hg]; exact (zK (by repeat (first | (with_reducible first | exact HB.out | apply zD | apply zB | apply zC) | exact HB.out))) : w.heap.size ≤ gb148)); clear HB; have HB := n0_; have BK148 := n1_; have GW148 := n2_; have GE148 := n3_; clear n0_ n1_ n2_ n3_; clear hb hbox hg) | ((with_reducible refine zS (f := 63) rfl ?_); refine qW (some 12) rfl rfl Tryd.func63 (by kernel_rfl) rfl #[.int .i64 a1] rfl (by (try simp only [List.map_toArray, List.map_cons, List.map_nil]); first | done | rfl | (simp only [qN, qM]; rfl)) ?_; (with_reducible refine (spec_l1Num.calls a1 t149 _ A3.out).mono ?_); rintro e w23 ⟨rfl, hb⟩; refine ⟨_, rfl, ?_⟩; have n0_ := zA (zR (g := gb148) (o := .cells #[.string (⟨#[]⟩ : ByteArray), .string (⟨#[]⟩ : ByteArray)] 36 (0, 0)) (by (with_reducible repeat (first | refine zF ?_ _ | refine zH ?_ | refine zG ?_ _)); exact BK148.out) hb); have n1_ := zA (zL (by repeat (first | (with_reducible first | exact HB.out | apply zD | apply zB | apply zC | refine zE ?_ GE148.out) | exact HB.out)) hb); clear BK148; clear HB; have BK148 := n0_; have HB := n1_; clear n0_ n1_; (try clear hb); (try clear hb2); (try clear hk); (try clear hi)) | ((with_reducible refine zS (f := 83) rfl ?_); refine qW (some 15) rfl rfl Tryd.func83 (by kernel_rfl) rfl #[.string a0, .int .u8 35] rfl (by (try simp only [List.map_toArray, List.map_cons, List.map_nil]); first | done | rfl | (simp only [qN, qM]; rfl)) ?_; (with_reducible refine (spec_l1Split.calls k a0 35 t150 _ A5.out).mono ?_); rintro e w24 ⟨v151, rfl, ho0, hb⟩; refine ⟨_, rfl, ?_⟩; have n0_ := zA (Kd.R_lower ho0 (zK (by repeat (first | (with_reducible first | exact HB.out | apply zD | apply zB | apply zC | refine zE ?_ GE148.out) | exact HB.out)))); have n1_ := zA (zR (g := gb148) (o := .cells #[.string (⟨#[]⟩ : ByteArray), .string (⟨#[]⟩ : ByteArray)] 36 (0, 0)) (by (with_reducible repeat (first | refine zF ?_ _ | refine zH ?_ | refine zG ?_ _)); exact BK148.out) hb); have n2_ := zA (zL (by repeat (first | (with_reducible first | exact HB.out | apply zD | apply zB | apply zC | refine zE ?_ GE148.out) | exact HB.out)) hb); clear BK148; clear HB; have HO152 := n0_; have BK148 := n1_; have HB := n2_; clear n0_ n1_ n2_; (try clear hb); (try clear hb2); (try clear hk); (try clear hi); (try clear ho0); obtain ⟨Ao25, co25, eo25⟩ := Kd.R_slice HO152.out; subst eo25; have p153 : 0 ≤ (0 : Int) := (by omega); have q153 : 0 < (t150.length : Int) := qF (by first | (with_reducible assumption) | assumption); obtain ⟨ad153, e153, hx153_0⟩ := Kd.at_string (Kd.R_reads' HO152.out).2.2 0 p153 q153; cases e153; have qi153 : (0 < t150.length) = True := eq_true (by omega); (try rw [show ((0 : Int)).toNat = 0 from rfl] at hx153_0); (try rw [Addr.add_zero'] at hx153_0); replace p153 := eq_true p153; replace q153 := eq_true q153) | ((with_reducible refine zS (f := 83) rfl ?_); refine qW (some 37) rfl rfl Tryd.func83 (by kernel_rfl) rfl #[.string ((rdOf ByteArray.empty t150 0).extract ((ji13) : Int).toNat ((rdOf ByteArray.empty t150 0).size)), .int .u8 64] rfl (by (try simp only [List.map_toArray, List.map_cons, List.map_nil]); first | done | (simp only [hji13]; rfl) | rfl | (simp only [qN, qM]; rfl)) ?_; (with_reducible refine (spec_l1Split.calls k ((rdOf ByteArray.empty t150 0).extract ((ji13) : Int).toNat ((rdOf ByteArray.empty t150 0).size)) 64 t154 _ A19.out).mono ?_); rintro e w26 ⟨v155, rfl, ho0, hb⟩; refine ⟨_, rfl, ?_⟩; have n0_ := zA (Kd.R_elder' (by (with_reducible repeat (first | apply zU | apply zV | apply zW)); exact HO152.out) (Kd.R_base ho0) hb); have n1_ := zA (Kd.R_lower (Kd.R_new' ho0 (Kd.R_lt (by (with_reducible repeat (first | apply zU | apply zV | apply zW)); exact HO152.out))) (zK (by repeat (first | (with_reducible first | exact HB.out | apply zD | apply zB | apply zC | refine zE ?_ GE148.out) | exact HB.out)))); have n2_ := zA (zR (g := gb148) (o := .cells #[.string (⟨#[]⟩ : ByteArray), .string (⟨#[]⟩ : ByteArray)] 36 (0, 0)) (by (with_reducible repeat (first | refine zF ?_ _ | refine zH ?_ | refine zG ?_ _)); exact BK148.out) hb); have n3_ := zA (zL (by repeat (first | (with_reducible first | exact HB.out | apply zD | apply zB | apply zC | refine zE ?_ GE148.out) | exact HB.out)) hb); clear HO152; clear BK148; clear HB; have HO152 := n0_; have HO156 := n1_; have BK148 := n2_; have HB := n3_; clear n0_ n1_ n2_ n3_; (try clear hb); (try clear hb2); (try clear hk); (try clear hi); (try clear ho0); obtain ⟨Ao27, co27, eo27⟩ := Kd.R_slice HO156.out; subst eo27; have p157 : 0 ≤ (0 : Int) := (by omega); have q157 : 0 < (t154.length : Int) := qF (by first | (with_reducible assumption) | assumption); obtain ⟨ad157, e157, hx157_0⟩ := Kd.at_string (Kd.R_reads' HO156.out).2.2 0 p157 q157; cases e157; have qi157 : (0 < t154.length) = True := eq_true (by omega); (try rw [show ((0 : Int)).toNat = 0 from rfl] at hx157_0); (try rw [Addr.add_zero'] at hx157_0); replace p157 := eq_true p157; replace q157 := eq_true q157; have hcz28_0 : w26.cell? ⟨gb148, 0, none⟩ = some (.string (⟨#[]⟩ : ByteArray)) := (zJ BK148.out 0).trans rfl; have hcz28_1 : w26.cell? ⟨gb148, 1, none⟩ = some (.string (⟨#[]⟩ : ByteArray)) := (zJ BK148.out 1).trans rfl; have hfz28_0 := zI BK148.out 0; have hfz28_1 := zI BK148.out 1))
                  refine bodyPost_ret (results_ct rfl _ _ gb148 36 #[.string (⟨#[]⟩ : ByteArray), .string (⟨#[]⟩ : ByteArray)] (0, 0) _ rfl (by (with_reducible repeat (first | refine zF ?_ _ | refine zH ?_ | refine zG ?_ _)); refine zX (cs := #[.string (⟨#[]⟩ : ByteArray), .string (⟨#[]⟩ : ByteArray)]) ?_ 1 _ rfl; (with_reducible repeat (first | refine zF ?_ _ | refine zH ?_ | refine zG ?_ _)); refine zX (cs := #[.string (⟨#[]⟩ : ByteArray), .string (⟨#[]⟩ : ByteArray)]) ?_ 0 _ rfl; (with_reducible repeat (first | refine zF ?_ _ | refine zH ?_ | refine zG ?_ _)); exact BK148.out) Tryd.underlying36 rfl (by kernel_rfl)) rfl ?_
                  exact ⟨by first | rfl | (simp [qH, qI] <;> rfl) | (simp only [← hji13]; first | rfl | (simp [qH, qI] <;> rfl)) | (simp [*, qH, qI] <;> rfl), by repeat (first | (with_reducible first | exact HB.out | apply zD | apply zB | apply zC | refine zE ?_ GE148.out) | exact HB.out)⟩
                · rw [if_neg c21] at H
                  have c21b0 : (((rdOf ByteArray.empty t154 0).size : Int) == ((((rdOf ByteArray.empty t150 0).size) - ((ji13) : Int).toNat : Nat) : Int)) = false := beq_eq_false_iff_ne.mpr c21
                  have c21b1 : (((rdOf ByteArray.empty t154 0).size : Int) != ((((rdOf ByteArray.empty t150 0).size) - ((ji13) : Int).toNat : Nat) : Int)) = true := bne_iff_ne.mpr c21
                  have c21b2 : ((rdOf ByteArray.empty t154 0).size == ((rdOf ByteArray.empty t150 0).size) - ((ji13) : Int).toNat) = false := by first | simpa using c21 | (simp at c21 ⊢; omega)
                  obtain ⟨ji29, hji29⟩ : ∃ j_ : Int, (wrap64 (((rdOf ByteArray.empty t154 0).size : Int) + 1)) = j_ := ⟨_, rfl⟩
                  replace H : (if 0 ≤ (ji29) then (if (ji29) ≤ ((((rdOf ByteArray.empty t150 0).size) - ((ji13) : Int).toNat : Nat) : Int) then ((spec_l12Record.f k (rdOf ByteArray.empty t154 0) (((rdOf ByteArray.empty t150 0).extract ((ji13) : Int).toNat ((rdOf ByteArray.empty t150 0).size)).extract ((ji29) : Int).toNat (((rdOf ByteArray.empty t150 0).size) - ((ji13) : Int).toNat))).bind fun t159 => (if t159 = true then ((spec_l12Line.f k a1 (rdOf ByteArray.empty t154 0) (((rdOf ByteArray.empty t150 0).extract ((ji13) : Int).toNat ((rdOf ByteArray.empty t150 0).size)).extract ((ji29) : Int).toNat (((rdOf ByteArray.empty t150 0).size) - ((ji13) : Int).toNat))).bind fun t160 => (if a0.size + 1 ≤ 9223372036854775807 then (some (rdOf ByteArray.empty t154 0, ((rdOf ByteArray.empty t150 0).extract ((ji13) : Int).toNat ((rdOf ByteArray.empty t150 0).size)).extract ((ji29) : Int).toNat (((rdOf ByteArray.empty t150 0).size) - ((ji13) : Int).toNat), (t160.toList == (a0 ++ (⟨#[10]⟩ : ByteArray)).toList))) else (none))) else (some (rdOf ByteArray.empty t154 0, ((rdOf ByteArray.empty t150 0).extract ((ji13) : Int).toNat ((rdOf ByteArray.empty t150 0).size)).extract ((ji29) : Int).toNat (((rdOf ByteArray.empty t150 0).size) - ((ji13) : Int).toNat), false)))) else (none)) else (none)) = some (r1, r2, r3) := by first | (rw [hji29] at H; exact H) | (simp only [hji29] at H ⊢; exact H)
                  (try rw [hji29] at A3)
                  (try rw [hji29] at A5)
                  (try rw [hji29] at A19)
                  have hji29w : (IntKind.i64.wrap (((rdOf ByteArray.empty t154 0).size : Int) + 1)) = ji29 := (i64_w _).trans hji29
                  by_cases c30 : 0 ≤ (ji29)
                  · rw [if_pos c30] at H
                    have c30b0 := eq_true c30
                    have c30b1 : decide (0 ≤ (ji29)) = true := qE c30
                    clear c30
                    by_cases c31 : (ji29) ≤ ((((rdOf ByteArray.empty t150 0).size) - ((ji13) : Int).toNat : Nat) : Int)
                    · rw [if_pos c31] at H
                      have c31b0 := eq_true c31
                      have c31b1 : decide ((ji29) ≤ ((((rdOf ByteArray.empty t150 0).size) - ((ji13) : Int).toNat : Nat) : Int)) = true := qE c31
                      clear c31
                      replace H := Option.bind_eq_some_iff.mp H
                      obtain ⟨t159, A320, H⟩ := H
                      replace H : (if t159 = true then ((spec_l12Line.f k a1 (rdOf ByteArray.empty t154 0) (((rdOf ByteArray.empty t150 0).extract ((ji13) : Int).toNat ((rdOf ByteArray.empty t150 0).size)).extract ((ji29) : Int).toNat (((rdOf ByteArray.empty t150 0).size) - ((ji13) : Int).toNat))).bind fun t160 => (if a0.size + 1 ≤ 9223372036854775807 then (some (rdOf ByteArray.empty t154 0, ((rdOf ByteArray.empty t150 0).extract ((ji13) : Int).toNat ((rdOf ByteArray.empty t150 0).size)).extract ((ji29) : Int).toNat (((rdOf ByteArray.empty t150 0).size) - ((ji13) : Int).toNat), (t160.toList == (a0 ++ (⟨#[10]⟩ : ByteArray)).toList))) else (none))) else (some (rdOf ByteArray.empty t154 0, ((rdOf ByteArray.empty t150 0).extract ((ji13) : Int).toNat ((rdOf ByteArray.empty t150 0).size)).extract ((ji29) : Int).toNat (((rdOf ByteArray.empty t150 0).size) - ((ji13) : Int).toNat), false))) = some (r1, r2, r3) := H
                      have A32 := zA A320
                      clear A320
                      by_cases c33 : t159 = true
                      · subst c33
                        have H1 : ((spec_l12Line.f k a1 (rdOf ByteArray.empty t154 0) (((rdOf ByteArray.empty t150 0).extract ((ji13) : Int).toNat ((rdOf ByteArray.empty t150 0).size)).extract ((ji29) : Int).toNat (((rdOf ByteArray.empty t150 0).size) - ((ji13) : Int).toNat))).bind fun t160 => (if a0.size + 1 ≤ 9223372036854775807 then (some (rdOf ByteArray.empty t154 0, ((rdOf ByteArray.empty t150 0).extract ((ji13) : Int).toNat ((rdOf ByteArray.empty t150 0).size)).extract ((ji29) : Int).toNat (((rdOf ByteArray.empty t150 0).size) - ((ji13) : Int).toNat), (t160.toList == (a0 ++ (⟨#[10]⟩ : ByteArray)).toList))) else (none))) = some (r1, r2, r3) := by rw [if_pos rfl] at H; exact H
                        clear H
                        have H := H1
                        clear H1
                        replace H := Option.bind_eq_some_iff.mp H
                        obtain ⟨t160, A340, H⟩ := H
                        replace H : (if a0.size + 1 ≤ 9223372036854775807 then (some (rdOf ByteArray.empty t154 0, ((rdOf ByteArray.empty t150 0).extract ((ji13) : Int).toNat ((rdOf ByteArray.empty t150 0).size)).extract ((ji29) : Int).toNat (((rdOf ByteArray.empty t150 0).size) - ((ji13) : Int).toNat), (t160.toList == (a0 ++ (⟨#[10]⟩ : ByteArray)).toList))) else (none)) = some (r1, r2, r3) := H
                        have A34 := zA A340
                        clear A340
                        by_cases c35 : a0.size + 1 ≤ 9223372036854775807
                        · rw [if_pos c35] at H
                          have c35b0 := eq_true c35
                          have c35b1 : decide (a0.size + 1 ≤ 9223372036854775807) = true := qE c35
                          try have c35b2 : (9223372036854775807 < a0.size + 1) = False := eq_false (Nat.not_lt.2 c35)
                          simp only [Option.some.injEq, Prod.mk.injEq] at H
                          obtain ⟨rfl, rfl, rfl⟩ := H
                          go_enter Tryd.func84, Tryd.ntmps84
                          try go_wp2_with (first | ((with_reducible refine zZ (N := 4) rfl ?_); (try (refine gate_guard (by rfl) ?_; dsimp only)); refine zY ?hg (N := 4) ?hd (cs := #[.string (⟨#[]⟩ : ByteArray), .string (⟨#[]⟩ : ByteArray)]) (t := 36) ?hr ?_; (case hd => rfl); (case hg => rfl); (case hr => first | (go_simp; done) | (go_simp; rfl)); intro gb148 hg w36 hbox hb; have n0_ := zA (zL (by repeat (first | (with_reducible first | exact HB.out | apply zD | apply zB | apply zC) | exact HB.out)) hb); have n1_ := zA (hbox); have n2_ := zA ((by rw [hg]; exact (zK (by repeat (first | (with_reducible first | exact HB.out | apply zD | apply zB | apply zC) | exact HB.out))) : w.heap.size ≤ gb148)); have n3_ := zA ((by rw [hg]; exact (zK (by repeat (first | (with_reducible first | exact HB.out | apply zD | apply zB | apply zC) | exact HB.out))) : w.heap.size ≤ gb148)); clear HB; have HB := n0_; have BK148 := n1_; have GW148 := n2_; have GE148 := n3_; clear n0_ n1_ n2_ n3_; clear hb hbox hg) | ((with_reducible refine zS (f := 63) rfl ?_); refine qW (some 12) rfl rfl Tryd.func63 (by kernel_rfl) rfl #[.int .i64 a1] rfl (by (try simp only [List.map_toArray, List.map_cons, List.map_nil]); first | done | rfl | (simp only [qN, qM]; rfl)) ?_; (with_reducible refine (spec_l1Num.calls a1 t149 _ A3.out).mono ?_); rintro e w37 ⟨rfl, hb⟩; refine ⟨_, rfl, ?_⟩; have n0_ := zA (zR (g := gb148) (o := .cells #[.string (⟨#[]⟩ : ByteArray), .string (⟨#[]⟩ : ByteArray)] 36 (0, 0)) (by (with_reducible repeat (first | refine zF ?_ _ | refine zH ?_ | refine zG ?_ _)); exact BK148.out) hb); have n1_ := zA (zL (by repeat (first | (with_reducible first | exact HB.out | apply zD | apply zB | apply zC | refine zE ?_ GE148.out) | exact HB.out)) hb); clear BK148; clear HB; have BK148 := n0_; have HB := n1_; clear n0_ n1_; (try clear hb); (try clear hb2); (try clear hk); (try clear hi)) | ((with_reducible refine zS (f := 83) rfl ?_); refine qW (some 15) rfl rfl Tryd.func83 (by kernel_rfl) rfl #[.string a0, .int .u8 35] rfl (by (try simp only [List.map_toArray, List.map_cons, List.map_nil]); first | done | rfl | (simp only [qN, qM]; rfl)) ?_; (with_reducible refine (spec_l1Split.calls k a0 35 t150 _ A5.out).mono ?_); rintro e w38 ⟨v151, rfl, ho0, hb⟩; refine ⟨_, rfl, ?_⟩; have n0_ := zA (Kd.R_lower ho0 (zK (by repeat (first | (with_reducible first | exact HB.out | apply zD | apply zB | apply zC | refine zE ?_ GE148.out) | exact HB.out)))); have n1_ := zA (zR (g := gb148) (o := .cells #[.string (⟨#[]⟩ : ByteArray), .string (⟨#[]⟩ : ByteArray)] 36 (0, 0)) (by (with_reducible repeat (first | refine zF ?_ _ | refine zH ?_ | refine zG ?_ _)); exact BK148.out) hb); have n2_ := zA (zL (by repeat (first | (with_reducible first | exact HB.out | apply zD | apply zB | apply zC | refine zE ?_ GE148.out) | exact HB.out)) hb); clear BK148; clear HB; have HO152 := n0_; have BK148 := n1_; have HB := n2_; clear n0_ n1_ n2_; (try clear hb); (try clear hb2); (try clear hk); (try clear hi); (try clear ho0); obtain ⟨Ao39, co39, eo39⟩ := Kd.R_slice HO152.out; subst eo39; have p153 : 0 ≤ (0 : Int) := (by omega); have q153 : 0 < (t150.length : Int) := qF (by first | (with_reducible assumption) | assumption); obtain ⟨ad153, e153, hx153_0⟩ := Kd.at_string (Kd.R_reads' HO152.out).2.2 0 p153 q153; cases e153; have qi153 : (0 < t150.length) = True := eq_true (by omega); (try rw [show ((0 : Int)).toNat = 0 from rfl] at hx153_0); (try rw [Addr.add_zero'] at hx153_0); replace p153 := eq_true p153; replace q153 := eq_true q153) | ((with_reducible refine zS (f := 83) rfl ?_); refine qW (some 37) rfl rfl Tryd.func83 (by kernel_rfl) rfl #[.string ((rdOf ByteArray.empty t150 0).extract ((ji13) : Int).toNat ((rdOf ByteArray.empty t150 0).size)), .int .u8 64] rfl (by (try simp only [List.map_toArray, List.map_cons, List.map_nil]); first | done | (simp only [hji13]; rfl) | rfl | (simp only [qN, qM]; rfl)) ?_; (with_reducible refine (spec_l1Split.calls k ((rdOf ByteArray.empty t150 0).extract ((ji13) : Int).toNat ((rdOf ByteArray.empty t150 0).size)) 64 t154 _ A19.out).mono ?_); rintro e w40 ⟨v155, rfl, ho0, hb⟩; refine ⟨_, rfl, ?_⟩; have n0_ := zA (Kd.R_elder' (by (with_reducible repeat (first | apply zU | apply zV | apply zW)); exact HO152.out) (Kd.R_base ho0) hb); have n1_ := zA (Kd.R_lower (Kd.R_new' ho0 (Kd.R_lt (by (with_reducible repeat (first | apply zU | apply zV | apply zW)); exact HO152.out))) (zK (by repeat (first | (with_reducible first | exact HB.out | apply zD | apply zB | apply zC | refine zE ?_ GE148.out) | exact HB.out)))); have n2_ := zA (zR (g := gb148) (o := .cells #[.string (⟨#[]⟩ : ByteArray), .string (⟨#[]⟩ : ByteArray)] 36 (0, 0)) (by (with_reducible repeat (first | refine zF ?_ _ | refine zH ?_ | refine zG ?_ _)); exact BK148.out) hb); have n3_ := zA (zL (by repeat (first | (with_reducible first | exact HB.out | apply zD | apply zB | apply zC | refine zE ?_ GE148.out) | exact HB.out)) hb); clear HO152; clear BK148; clear HB; have HO152 := n0_; have HO156 := n1_; have BK148 := n2_; have HB := n3_; clear n0_ n1_ n2_ n3_; (try clear hb); (try clear hb2); (try clear hk); (try clear hi); (try clear ho0); obtain ⟨Ao41, co41, eo41⟩ := Kd.R_slice HO156.out; subst eo41; have p157 : 0 ≤ (0 : Int) := (by omega); have q157 : 0 < (t154.length : Int) := qF (by first | (with_reducible assumption) | assumption); obtain ⟨ad157, e157, hx157_0⟩ := Kd.at_string (Kd.R_reads' HO156.out).2.2 0 p157 q157; cases e157; have qi157 : (0 < t154.length) = True := eq_true (by omega); (try rw [show ((0 : Int)).toNat = 0 from rfl] at hx157_0); (try rw [Addr.add_zero'] at hx157_0); replace p157 := eq_true p157; replace q157 := eq_true q157) | ((with_reducible refine zZ (N := 10) rfl ?_); (try (refine gate_guard (by rfl) ?_; dsimp only)); refine zY ?hg (N := 10) ?hd (cs := #[.string (⟨#[]⟩ : ByteArray), .string (⟨#[]⟩ : ByteArray)]) (t := 36) ?hr ?_; (case hd => rfl); (case hg => rfl); (case hr => first | (go_simp; done) | (go_simp; rfl)); intro gb158 hg w42 hbox hb; have n0_ := zA (Kd.R_below (by (with_reducible repeat (first | apply zU | apply zV | apply zW)); exact HO152.out) hb); have n1_ := zA (Kd.R_below (by (with_reducible repeat (first | apply zU | apply zV | apply zW)); exact HO156.out) hb); have n2_ := zA (zR (g := gb148) (o := .cells #[.string (⟨#[]⟩ : ByteArray), .string (⟨#[]⟩ : ByteArray)] 36 (0, 0)) (by (with_reducible repeat (first | refine zF ?_ _ | refine zH ?_ | refine zG ?_ _)); exact BK148.out) hb); have n3_ := zA (zL (by repeat (first | (with_reducible first | exact HB.out | apply zD | apply zB | apply zC | refine zE ?_ GE148.out) | exact HB.out)) hb); have n4_ := zA (hbox); have n5_ := zA ((by rw [hg]; exact (zK (by repeat (first | (with_reducible first | exact HB.out | apply zD | apply zB | apply zC | refine zE ?_ GE148.out) | exact HB.out))) : w.heap.size ≤ gb158)); have n6_ := zA ((by rw [hg]; exact (zK (by repeat (first | (with_reducible first | exact HB.out | apply zD | apply zB | apply zC | refine zE ?_ GE148.out) | exact HB.out))) : w.heap.size ≤ gb158)); have n7_ := zA ((by rw [hg]; exact Nat.ne_of_lt (blk_lt (g := gb148) (o := .cells #[.string (⟨#[]⟩ : ByteArray), .string (⟨#[]⟩ : ByteArray)] 36 (0, 0)) (by (with_reducible repeat (first | refine zF ?_ _ | refine zH ?_ | refine zG ?_ _)); exact BK148.out)) : gb148 ≠ gb158)); have n8_ := zA ((by rw [hg]; exact Nat.ne_of_gt (blk_lt (g := gb148) (o := .cells #[.string (⟨#[]⟩ : ByteArray), .string (⟨#[]⟩ : ByteArray)] 36 (0, 0)) (by (with_reducible repeat (first | refine zF ?_ _ | refine zH ?_ | refine zG ?_ _)); exact BK148.out)) : gb158 ≠ gb148)); clear HO152; clear HO156; clear BK148; clear HB; have HO152 := n0_; have HO156 := n1_; have BK148 := n2_; have HB := n3_; have BK158 := n4_; have GW158 := n5_; have GE158 := n6_; have NB148_158 := n7_; have NB158_148 := n8_; clear n0_ n1_ n2_ n3_ n4_ n5_ n6_ n7_ n8_; clear hb hbox hg; have hnb43 := NB158_148.out; have hnc43 := NB148_158.out; have hcz44_0 : w42.cell? ⟨gb158, 0, none⟩ = some (.string (⟨#[]⟩ : ByteArray)) := (zJ BK158.out 0).trans rfl; have hcz44_1 : w42.cell? ⟨gb158, 1, none⟩ = some (.string (⟨#[]⟩ : ByteArray)) := (zJ BK158.out 1).trans rfl; have hfz44_0 := zI BK158.out 0; have hfz44_1 := zI BK158.out 1))
                          have n0_ : Aside0 (Kd.R Kd.string 9 ((w42.setCell ⟨gb158, 0, none⟩ (.string (rdOf ByteArray.empty t154 0))).setCell ⟨gb158, 1, none⟩ (.string (((rdOf ByteArray.empty t150 0).extract ((ji13) : Int).toNat ((rdOf ByteArray.empty t150 0).size)).extract ((ji29) : Int).toNat (((rdOf ByteArray.empty t150 0).size) - ((ji13) : Int).toNat)))) w.heap.size (fun k_ => some k_ ≠ (.slice (some ad157) t154.length co41 : Value).ownBlock) (.slice (some ad153) t150.length co39) t150) := ⟨by (with_reducible repeat (first | apply zU | apply zV | apply zW)); exact Kd.R_mono (Kd.R_far (p := ⟨gb158, 1, none⟩) (Kd.R_far (p := ⟨gb158, 0, none⟩) (Kd.R_types HO152.out BK158.out (by decide)) (fun _ hk => hk.2) (.string (rdOf ByteArray.empty t154 0))) (fun _ hk => hk.2) (.string (((rdOf ByteArray.empty t150 0).extract ((ji13) : Int).toNat ((rdOf ByteArray.empty t150 0).size)).extract ((ji29) : Int).toNat (((rdOf ByteArray.empty t150 0).size) - ((ji13) : Int).toNat)))) (fun _ hk => hk.1.2)⟩
                          have n1_ : Aside0 (Kd.R Kd.string 9 ((w42.setCell ⟨gb158, 0, none⟩ (.string (rdOf ByteArray.empty t154 0))).setCell ⟨gb158, 1, none⟩ (.string (((rdOf ByteArray.empty t150 0).extract ((ji13) : Int).toNat ((rdOf ByteArray.empty t150 0).size)).extract ((ji29) : Int).toNat (((rdOf ByteArray.empty t150 0).size) - ((ji13) : Int).toNat)))) w.heap.size (fun k_ => some k_ ≠ (.slice (some ad153) t150.length co39 : Value).ownBlock) (.slice (some ad157) t154.length co41) t154) := ⟨by (with_reducible repeat (first | apply zU | apply zV | apply zW)); exact Kd.R_mono (Kd.R_far (p := ⟨gb158, 1, none⟩) (Kd.R_far (p := ⟨gb158, 0, none⟩) (Kd.R_types HO156.out BK158.out (by decide)) (fun _ hk => hk.2) (.string (rdOf ByteArray.empty t154 0))) (fun _ hk => hk.2) (.string (((rdOf ByteArray.empty t150 0).extract ((ji13) : Int).toNat ((rdOf ByteArray.empty t150 0).size)).extract ((ji29) : Int).toNat (((rdOf ByteArray.empty t150 0).size) - ((ji13) : Int).toNat)))) (fun _ hk => hk.1.2)⟩
                          have n2_ : Aside0 (((w42.setCell ⟨gb158, 0, none⟩ (.string (rdOf ByteArray.empty t154 0))).setCell ⟨gb158, 1, none⟩ (.string (((rdOf ByteArray.empty t150 0).extract ((ji13) : Int).toNat ((rdOf ByteArray.empty t150 0).size)).extract ((ji29) : Int).toNat (((rdOf ByteArray.empty t150 0).size) - ((ji13) : Int).toNat)))).heap[gb148]? = some (.cells #[.string (⟨#[]⟩ : ByteArray), .string (⟨#[]⟩ : ByteArray)] 36 (0, 0))) := ⟨by (with_reducible repeat (first | refine zF ?_ _ | refine zH ?_ | refine zG ?_ _)); refine blk_far ?_ NB148_158.out _; (with_reducible repeat (first | refine zF ?_ _ | refine zH ?_ | refine zG ?_ _)); refine blk_far ?_ NB148_158.out _; (with_reducible repeat (first | refine zF ?_ _ | refine zH ?_ | refine zG ?_ _)); exact BK148.out⟩
                          have n3_ : Aside0 (((w42.setCell ⟨gb158, 0, none⟩ (.string (rdOf ByteArray.empty t154 0))).setCell ⟨gb158, 1, none⟩ (.string (((rdOf ByteArray.empty t150 0).extract ((ji13) : Int).toNat ((rdOf ByteArray.empty t150 0).size)).extract ((ji29) : Int).toNat (((rdOf ByteArray.empty t150 0).size) - ((ji13) : Int).toNat)))).heap[gb158]? = some (.cells #[.string (rdOf ByteArray.empty t154 0), .string (((rdOf ByteArray.empty t150 0).extract ((ji13) : Int).toNat ((rdOf ByteArray.empty t150 0).size)).extract ((ji29) : Int).toNat (((rdOf ByteArray.empty t150 0).size) - ((ji13) : Int).toNat))] 36 (0, 0))) := ⟨by (with_reducible repeat (first | refine zF ?_ _ | refine zH ?_ | refine zG ?_ _)); refine zX (cs := #[.string (rdOf ByteArray.empty t154 0), .string (⟨#[]⟩ : ByteArray)]) ?_ 1 _ rfl; (with_reducible repeat (first | refine zF ?_ _ | refine zH ?_ | refine zG ?_ _)); refine zX (cs := #[.string (⟨#[]⟩ : ByteArray), .string (⟨#[]⟩ : ByteArray)]) ?_ 0 _ rfl; (with_reducible repeat (first | refine zF ?_ _ | refine zH ?_ | refine zG ?_ _)); exact BK158.out⟩
                          have n4_ : Aside0 (Below w.heap.size w ((w42.setCell ⟨gb158, 0, none⟩ (.string (rdOf ByteArray.empty t154 0))).setCell ⟨gb158, 1, none⟩ (.string (((rdOf ByteArray.empty t150 0).extract ((ji13) : Int).toNat ((rdOf ByteArray.empty t150 0).size)).extract ((ji29) : Int).toNat (((rdOf ByteArray.empty t150 0).size) - ((ji13) : Int).toNat))))) := ⟨by repeat (first | (with_reducible first | exact HB.out | apply zD | apply zB | apply zC | refine zE ?_ GE148.out | refine zE ?_ GE158.out) | exact HB.out)⟩
                          (try clear HO152)
                          (try clear HO156)
                          (try clear BK148)
                          (try clear BK158)
                          (try clear HB)
                          generalize ((w42.setCell ⟨gb158, 0, none⟩ (.string (rdOf ByteArray.empty t154 0))).setCell ⟨gb158, 1, none⟩ (.string (((rdOf ByteArray.empty t150 0).extract ((ji13) : Int).toNat ((rdOf ByteArray.empty t150 0).size)).extract ((ji29) : Int).toNat (((rdOf ByteArray.empty t150 0).size) - ((ji13) : Int).toNat)))) = w45 at n0_ n1_ n2_ n3_ n4_ ⊢
                          have HO152 := n0_
                          have HO156 := n1_
                          have BK148 := n2_
                          have BK158 := n3_
                          have HB := n4_
                          clear n0_ n1_ n2_ n3_ n4_
                          have n0_ := zA (zW HO152.out)
                          have n1_ := zA (zW HO156.out)
                          have n2_ := zA (zH BK148.out)
                          have n3_ := zA (zH BK158.out)
                          have n4_ := zA (zC HB.out)
                          clear HO152
                          clear HO156
                          clear BK148
                          clear BK158
                          clear HB
                          have HO152 := n0_
                          have HO156 := n1_
                          have BK148 := n2_
                          have BK158 := n3_
                          have HB := n4_
                          clear n0_ n1_ n2_ n3_ n4_
                          refine start_ (n := 13) (S := fun w' => w'.cell? ⟨gb158, 0, none⟩ = some (.string (rdOf ByteArray.empty t154 0)) ∧ w'.cell? ⟨gb158, 1, none⟩ = some (.string (((rdOf ByteArray.empty t150 0).extract ((ji13) : Int).toNat ((rdOf ByteArray.empty t150 0).size)).extract ((ji29) : Int).toNat (((rdOf ByteArray.empty t150 0).size) - ((ji13) : Int).toNat)))) (ds := []) #[false, false, false, false, false, false, false, false, false, false, false, false, false] (by kernel_rfl) rfl rfl ⟨(zJ BK158.out 0).trans rfl, (zJ BK158.out 1).trans rfl⟩ (fun hHeld => ?_); refine with_tabW spec_l12Decode.tab10 spec_l12Decode.bits10 (fun HT_ HW_ => ?_)
                          generalize w45.drew = w46 at HO152 HO156 BK148 BK158 HB hHeld ⊢
                          refine take_ (i := 0) (N := some 53) (v := ?_) (a' := ?_) #[true, false, false, false, false, false, false, false, false, false, false, false, false] rfl rfl (take_ofW HT_.out HW_.out (by kernel_rfl)) (fun _ _ _ h => h) (Or.inl ⟨by rfl, ?_⟩) hHeld ?_ ?_
                          rotate_left
                          · rintro w' ⟨s0, s1⟩
                            go_simp
                            with_reducible rfl
                          rotate_left
                          · simp only [Act.put, qJ, qK, qL, i64_w, i32_w]
                            rfl
                          refine take_ (i := 1) (N := some 54) (v := ?_) (a' := ?_) #[true, true, false, false, false, false, false, false, false, false, false, false, false] rfl rfl (take_ofW HT_.out HW_.out (by kernel_rfl)) (fun _ _ _ h => h) (Or.inl ⟨by rfl, ?_⟩) hHeld ?_ ?_
                          rotate_left
                          · rintro w' ⟨s0, s1⟩
                            go_simp
                            with_reducible rfl
                          rotate_left
                          · simp only [Act.put, qJ, qK, qL, i64_w, i32_w]
                            rfl
                          refine one_ (i := 2) (N := some 55) #[true, true, true, false, false, false, false, false, false, false, false, false, false] rfl rfl (one_of HT_.out (by kernel_rfl)) (by decide) (fun K hK => ?_)
                          refine goes_ Tryd.func52 (by kernel_rfl) rfl #[.agg #[.string (rdOf ByteArray.empty t154 0), .string (((rdOf ByteArray.empty t150 0).extract ((ji13) : Int).toNat ((rdOf ByteArray.empty t150 0).size)).extract ((ji29) : Int).toNat (((rdOf ByteArray.empty t150 0).size) - ((ji13) : Int).toNat))]] (by rfl) rfl rfl (by (try simp only [List.map_toArray, List.map_cons, List.map_nil]); first | done | (simp only [hji13, hji29]; rfl) | rfl | (simp only [qN, qM]; rfl)) ?_
                          with_reducible refine (spec_l12Record.calls k (rdOf ByteArray.empty t154 0) (((rdOf ByteArray.empty t150 0).extract ((ji13) : Int).toNat ((rdOf ByteArray.empty t150 0).size)).extract ((ji29) : Int).toNat (((rdOf ByteArray.empty t150 0).size) - ((ji13) : Int).toNat)) true _ A32.out).mono ?_
                          rintro e w47 ⟨rfl, hb⟩
                          refine ⟨_, rfl, ?_⟩
                          have n0_ := zA (Kd.R_below (by (with_reducible repeat (first | apply zU | apply zV | apply zW)); exact HO152.out) hb)
                          have n1_ := zA (Kd.R_below (by (with_reducible repeat (first | apply zU | apply zV | apply zW)); exact HO156.out) hb)
                          have n2_ := zA (zR (g := gb148) (o := .cells #[.string (⟨#[]⟩ : ByteArray), .string (⟨#[]⟩ : ByteArray)] 36 (0, 0)) (by (with_reducible repeat (first | refine zF ?_ _ | refine zH ?_ | refine zG ?_ _)); exact BK148.out) hb)
                          have n3_ := zA (zR (g := gb158) (o := .cells #[.string (rdOf ByteArray.empty t154 0), .string (((rdOf ByteArray.empty t150 0).extract ((ji13) : Int).toNat ((rdOf ByteArray.empty t150 0).size)).extract ((ji29) : Int).toNat (((rdOf ByteArray.empty t150 0).size) - ((ji13) : Int).toNat))] 36 (0, 0)) (by (with_reducible repeat (first | refine zF ?_ _ | refine zH ?_ | refine zG ?_ _)); exact BK158.out) hb)
                          have n4_ := zA (zL (by repeat (first | (with_reducible first | exact HB.out | apply zD | apply zB | apply zC | refine zE ?_ GE148.out | refine zE ?_ GE158.out) | exact HB.out)) hb)
                          clear HO152
                          clear HO156
                          clear BK148
                          clear BK158
                          clear HB
                          have HO152 := n0_
                          have HO156 := n1_
                          have BK148 := n2_
                          have BK158 := n3_
                          have HB := n4_
                          clear n0_ n1_ n2_ n3_ n4_
                          (try clear hb)
                          (try clear hb2)
                          (try clear hk)
                          (try clear hi)
                          refine hK.out _ _ ⟨(zJ BK158.out 0).trans rfl, (zJ BK158.out 1).trans rfl⟩ (fun hHeld => ?_)
                          clear hK K
                          refine norm_ (a' := ?_) ?_ ?_
                          rotate_left
                          · show Act.put _ (some 55) _ = _
                            simp only [Act.put, qJ, qK, qL, i64_w, i32_w]
                            rfl
                          refine pure_ (i := 3) (N := some 56) (v := ?_) (a' := ?_) #[true, true, true, true, false, false, false, false, false, false, false, false, false] rfl rfl (any_of HT_.out (by kernel_rfl)) (fun _ _ _ h => h) (Or.inl ⟨by rfl, ?_⟩) ?_ ?_
                          rotate_left
                          · intro w'
                            go_simp
                            with_reducible rfl
                          rotate_left
                          · simp only [Act.put, qJ, qK, qL, i64_w, i32_w]
                            rfl
                          refine pure_ (i := 4) (N := some 57) (v := ?_) (a' := ?_) #[true, true, true, true, true, false, false, false, false, false, false, false, false] rfl rfl (any_of HT_.out (by kernel_rfl)) (fun _ _ _ h => h) (Or.inl ⟨by rfl, ?_⟩) ?_ ?_
                          rotate_left
                          · intro w'
                            go_simp
                            with_reducible rfl
                          rotate_left
                          · simp only [Act.put, qJ, qK, qL, i64_w, i32_w]
                            rfl
                          refine pure_ (i := 7) (N := some 60) (v := ?_) (a' := ?_) #[true, true, true, true, true, false, false, true, false, false, false, false, false] rfl rfl (any_of HT_.out (by kernel_rfl)) (fun _ _ _ h => h) (Or.inl ⟨by rfl, ?_⟩) ?_ ?_
                          rotate_left
                          · intro w'
                            go_simp
                            with_reducible rfl
                          rotate_left
                          · simp only [Act.put, qJ, qK, qL, i64_w, i32_w]
                            rfl
                          refine pure_ (i := 8) (N := some 61) (v := ?_) (a' := ?_) #[true, true, true, true, true, false, false, true, true, false, false, false, false] rfl rfl (any_of HT_.out (by kernel_rfl)) (fun _ _ _ h => h) (Or.inl ⟨by rfl, ?_⟩) ?_ ?_
                          rotate_left
                          · intro w'
                            go_simp
                            with_reducible rfl
                          rotate_left
                          · simp only [Act.put, qJ, qK, qL, i64_w, i32_w]
                            rfl
                          refine take_ (i := 5) (N := some 58) (v := ?_) (a' := ?_) #[true, true, true, true, true, true, false, true, true, false, false, false, false] rfl rfl (take_ofW HT_.out HW_.out (by kernel_rfl)) (fun _ _ _ h => h) (Or.inl ⟨by rfl, ?_⟩) hHeld ?_ ?_
                          rotate_left
                          · rintro w' ⟨s0, s1⟩
                            go_simp
                            with_reducible rfl
                          rotate_left
                          · simp only [Act.put, qJ, qK, qL, i64_w, i32_w]
                            rfl
                          refine one_ (i := 6) (N := some 59) #[true, true, true, true, true, true, true, true, true, false, false, false, false] rfl rfl (one_of HT_.out (by kernel_rfl)) (by decide) (fun K hK => ?_)
                          refine goes_ Tryd.func53 (by kernel_rfl) rfl #[.int .i64 a1, .agg #[.string (rdOf ByteArray.empty t154 0), .string (((rdOf ByteArray.empty t150 0).extract ((ji13) : Int).toNat ((rdOf ByteArray.empty t150 0).size)).extract ((ji29) : Int).toNat (((rdOf ByteArray.empty t150 0).size) - ((ji13) : Int).toNat))]] (by rfl) rfl rfl (by (try simp only [List.map_toArray, List.map_cons, List.map_nil]); first | done | (simp only [hji13, hji29]; rfl) | rfl | (simp only [qN, qM]; rfl)) ?_
                          with_reducible refine (spec_l12Line.calls k a1 (rdOf ByteArray.empty t154 0) (((rdOf ByteArray.empty t150 0).extract ((ji13) : Int).toNat ((rdOf ByteArray.empty t150 0).size)).extract ((ji29) : Int).toNat (((rdOf ByteArray.empty t150 0).size) - ((ji13) : Int).toNat)) t160 _ A34.out).mono ?_
                          rintro e w48 ⟨rfl, hb⟩
                          refine ⟨_, rfl, ?_⟩
                          have n0_ := zA (Kd.R_below (by (with_reducible repeat (first | apply zU | apply zV | apply zW)); exact HO152.out) hb)
                          have n1_ := zA (Kd.R_below (by (with_reducible repeat (first | apply zU | apply zV | apply zW)); exact HO156.out) hb)
                          have n2_ := zA (zR (g := gb148) (o := .cells #[.string (⟨#[]⟩ : ByteArray), .string (⟨#[]⟩ : ByteArray)] 36 (0, 0)) (by (with_reducible repeat (first | refine zF ?_ _ | refine zH ?_ | refine zG ?_ _)); exact BK148.out) hb)
                          have n3_ := zA (zR (g := gb158) (o := .cells #[.string (rdOf ByteArray.empty t154 0), .string (((rdOf ByteArray.empty t150 0).extract ((ji13) : Int).toNat ((rdOf ByteArray.empty t150 0).size)).extract ((ji29) : Int).toNat (((rdOf ByteArray.empty t150 0).size) - ((ji13) : Int).toNat))] 36 (0, 0)) (by (with_reducible repeat (first | refine zF ?_ _ | refine zH ?_ | refine zG ?_ _)); exact BK158.out) hb)
                          have n4_ := zA (zL (by repeat (first | (with_reducible first | exact HB.out | apply zD | apply zB | apply zC | refine zE ?_ GE148.out | refine zE ?_ GE158.out) | exact HB.out)) hb)
                          clear HO152
                          clear HO156
                          clear BK148
                          clear BK158
                          clear HB
                          have HO152 := n0_
                          have HO156 := n1_
                          have BK148 := n2_
                          have BK158 := n3_
                          have HB := n4_
                          clear n0_ n1_ n2_ n3_ n4_
                          (try clear hb)
                          (try clear hb2)
                          (try clear hk)
                          (try clear hi)
                          refine hK.out _ _ ⟨(zJ BK158.out 0).trans rfl, (zJ BK158.out 1).trans rfl⟩ (fun hHeld => ?_)
                          clear hK K
                          refine norm_ (a' := ?_) ?_ ?_
                          rotate_left
                          · show Act.put _ (some 59) _ = _
                            simp only [Act.put, qJ, qK, qL, i64_w, i32_w]
                            rfl
                          refine pure_ (i := 9) (N := some 62) (v := ?_) (a' := ?_) #[true, true, true, true, true, true, true, true, true, true, false, false, false] rfl rfl (any_of HT_.out (by kernel_rfl)) (fun _ _ _ h => h) (Or.inl ⟨by rfl, ?_⟩) ?_ ?_
                          rotate_left
                          · intro w'
                            go_simp
                            with_reducible rfl
                          rotate_left
                          · simp only [Act.put, qJ, qK, qL, i64_w, i32_w]
                            rfl
                          refine pure_ (i := 10) (N := some 63) (v := ?_) (a' := ?_) #[true, true, true, true, true, true, true, true, true, true, true, false, false] rfl rfl (any_of HT_.out (by kernel_rfl)) (fun _ _ _ h => h) (Or.inl ⟨by rfl, ?_⟩) ?_ ?_
                          rotate_left
                          · intro w'
                            go_simp
                            with_reducible rfl
                          rotate_left
                          · simp only [Act.put, qJ, qK, qL, i64_w, i32_w]
                            rfl
                          refine one_ (i := 11) (N := none) #[true, true, true, true, true, true, true, true, true, true, true, true, false] rfl rfl (one_of HT_.out (by kernel_rfl)) (by decide) (fun K hK => ?_)
                          have hs49 : w48.cell? ⟨gb148, 0, none⟩ = some (.string (⟨#[]⟩ : ByteArray)) := (zJ BK148.out 0).trans rfl
                          have hfs49 := zI BK148.out 0
                          have hns49_1 := NB158_148.out
                          have hms49_1 := NB148_158.out
                          have hs50 : w48.cell? ⟨gb148, 1, none⟩ = some (.string (⟨#[]⟩ : ByteArray)) := (zJ BK148.out 1).trans rfl
                          have hfs50 := zI BK148.out 1
                          have hns50_1 := NB158_148.out
                          have hms50_1 := NB148_158.out
                          refine skip_ (w1 := ?_) (by rfl) rfl ?_ ?_
                          rotate_left
                          · go_simp
                            rfl
                          refine hK.out _ _ ⟨((cell_far (p := ⟨gb148, _, none⟩) NB158_148.out _).trans (((cell_far (p := ⟨gb148, _, none⟩) NB158_148.out _).trans (hHeld.1)))), ((cell_far (p := ⟨gb148, _, none⟩) NB158_148.out _).trans (((cell_far (p := ⟨gb148, _, none⟩) NB158_148.out _).trans (hHeld.2))))⟩ (fun hHeld => ?_)
                          clear hK K
                          refine pure_ (i := 12) (N := some 5) (v := ?_) (a' := ?_) #[true, true, true, true, true, true, true, true, true, true, true, true, true] rfl rfl (any_of HT_.out (by kernel_rfl)) (fun _ _ _ h => h) (Or.inl ⟨by rfl, ?_⟩) ?_ ?_
                          rotate_left
                          · intro w'
                            go_simp
                            with_reducible rfl
                          rotate_left
                          · simp only [Act.put, qJ, qK, qL, i64_w, i32_w]
                            rfl
                          refine done_ (done_of HT_.out (by kernel_rfl)) ?_
                          try go_wp2
                          refine bodyPost_ret (results_ct rfl _ _ gb148 36 #[.string (rdOf ByteArray.empty t154 0), .string (((rdOf ByteArray.empty t150 0).extract ((ji13) : Int).toNat ((rdOf ByteArray.empty t150 0).size)).extract ((ji29) : Int).toNat (((rdOf ByteArray.empty t150 0).size) - ((ji13) : Int).toNat))] (0, 0) _ rfl (by (with_reducible repeat (first | refine zF ?_ _ | refine zH ?_ | refine zG ?_ _)); refine zX (cs := #[.string (rdOf ByteArray.empty t154 0), .string (⟨#[]⟩ : ByteArray)]) ?_ 1 _ rfl; (with_reducible repeat (first | refine zF ?_ _ | refine zH ?_ | refine zG ?_ _)); refine zX (cs := #[.string (⟨#[]⟩ : ByteArray), .string (⟨#[]⟩ : ByteArray)]) ?_ 0 _ rfl; (with_reducible repeat (first | refine zF ?_ _ | refine zH ?_ | refine zG ?_ _)); exact BK148.out) Tryd.underlying36 rfl (by kernel_rfl)) rfl ?_
                          exact ⟨by first | rfl | (simp [qH, qI] <;> rfl) | (simp only [← hji13, ← hji29]; first | rfl | (simp [qH, qI] <;> rfl)) | (simp [*, qH, qI] <;> rfl), by repeat (first | (with_reducible first | exact HB.out | apply zD | apply zB | apply zC | refine zE ?_ GE148.out | refine zE ?_ GE158.out) | exact HB.out)⟩
                        · rw [if_neg c35] at H
                          exact absurd H (by simp)
                      · replace c33 := Bool.eq_false_iff.mpr c33
                        subst c33
                        have H1 : (some (rdOf ByteArray.empty t154 0, ((rdOf ByteArray.empty t150 0).extract ((ji13) : Int).toNat ((rdOf ByteArray.empty t150 0).size)).extract ((ji29) : Int).toNat (((rdOf ByteArray.empty t150 0).size) - ((ji13) : Int).toNat), false)) = some (r1, r2, r3) := by rw [if_neg (show ¬ (false = true) by decide)] at H; exact H
                        clear H
                        have H := H1
                        clear H1
                        simp only [Option.some.injEq, Prod.mk.injEq] at H
                        obtain ⟨rfl, rfl, rfl⟩ := H
                        go_enter Tryd.func84, Tryd.ntmps84
                        try go_wp2_with (first | ((with_reducible refine zZ (N := 4) rfl ?_); (try (refine gate_guard (by rfl) ?_; dsimp only)); refine zY ?hg (N := 4) ?hd (cs := #[.string (⟨#[]⟩ : ByteArray), .string (⟨#[]⟩ : ByteArray)]) (t := 36) ?hr ?_; (case hd => rfl); (case hg => rfl); (case hr => first | (go_simp; done) | (go_simp; rfl)); intro gb148 hg w51 hbox hb; have n0_ := zA (zL (by repeat (first | (with_reducible first | exact HB.out | apply zD | apply zB | apply zC) | exact HB.out)) hb); have n1_ := zA (hbox); have n2_ := zA ((by rw [hg]; exact (zK (by repeat (first | (with_reducible first | exact HB.out | apply zD | apply zB | apply zC) | exact HB.out))) : w.heap.size ≤ gb148)); have n3_ := zA ((by rw [hg]; exact (zK (by repeat (first | (with_reducible first | exact HB.out | apply zD | apply zB | apply zC) | exact HB.out))) : w.heap.size ≤ gb148)); clear HB; have HB := n0_; have BK148 := n1_; have GW148 := n2_; have GE148 := n3_; clear n0_ n1_ n2_ n3_; clear hb hbox hg) | ((with_reducible refine zS (f := 63) rfl ?_); refine qW (some 12) rfl rfl Tryd.func63 (by kernel_rfl) rfl #[.int .i64 a1] rfl (by (try simp only [List.map_toArray, List.map_cons, List.map_nil]); first | done | rfl | (simp only [qN, qM]; rfl)) ?_; (with_reducible refine (spec_l1Num.calls a1 t149 _ A3.out).mono ?_); rintro e w52 ⟨rfl, hb⟩; refine ⟨_, rfl, ?_⟩; have n0_ := zA (zR (g := gb148) (o := .cells #[.string (⟨#[]⟩ : ByteArray), .string (⟨#[]⟩ : ByteArray)] 36 (0, 0)) (by (with_reducible repeat (first | refine zF ?_ _ | refine zH ?_ | refine zG ?_ _)); exact BK148.out) hb); have n1_ := zA (zL (by repeat (first | (with_reducible first | exact HB.out | apply zD | apply zB | apply zC | refine zE ?_ GE148.out) | exact HB.out)) hb); clear BK148; clear HB; have BK148 := n0_; have HB := n1_; clear n0_ n1_; (try clear hb); (try clear hb2); (try clear hk); (try clear hi)) | ((with_reducible refine zS (f := 83) rfl ?_); refine qW (some 15) rfl rfl Tryd.func83 (by kernel_rfl) rfl #[.string a0, .int .u8 35] rfl (by (try simp only [List.map_toArray, List.map_cons, List.map_nil]); first | done | rfl | (simp only [qN, qM]; rfl)) ?_; (with_reducible refine (spec_l1Split.calls k a0 35 t150 _ A5.out).mono ?_); rintro e w53 ⟨v151, rfl, ho0, hb⟩; refine ⟨_, rfl, ?_⟩; have n0_ := zA (Kd.R_lower ho0 (zK (by repeat (first | (with_reducible first | exact HB.out | apply zD | apply zB | apply zC | refine zE ?_ GE148.out) | exact HB.out)))); have n1_ := zA (zR (g := gb148) (o := .cells #[.string (⟨#[]⟩ : ByteArray), .string (⟨#[]⟩ : ByteArray)] 36 (0, 0)) (by (with_reducible repeat (first | refine zF ?_ _ | refine zH ?_ | refine zG ?_ _)); exact BK148.out) hb); have n2_ := zA (zL (by repeat (first | (with_reducible first | exact HB.out | apply zD | apply zB | apply zC | refine zE ?_ GE148.out) | exact HB.out)) hb); clear BK148; clear HB; have HO152 := n0_; have BK148 := n1_; have HB := n2_; clear n0_ n1_ n2_; (try clear hb); (try clear hb2); (try clear hk); (try clear hi); (try clear ho0); obtain ⟨Ao54, co54, eo54⟩ := Kd.R_slice HO152.out; subst eo54; have p153 : 0 ≤ (0 : Int) := (by omega); have q153 : 0 < (t150.length : Int) := qF (by first | (with_reducible assumption) | assumption); obtain ⟨ad153, e153, hx153_0⟩ := Kd.at_string (Kd.R_reads' HO152.out).2.2 0 p153 q153; cases e153; have qi153 : (0 < t150.length) = True := eq_true (by omega); (try rw [show ((0 : Int)).toNat = 0 from rfl] at hx153_0); (try rw [Addr.add_zero'] at hx153_0); replace p153 := eq_true p153; replace q153 := eq_true q153) | ((with_reducible refine zS (f := 83) rfl ?_); refine qW (some 37) rfl rfl Tryd.func83 (by kernel_rfl) rfl #[.string ((rdOf ByteArray.empty t150 0).extract ((ji13) : Int).toNat ((rdOf ByteArray.empty t150 0).size)), .int .u8 64] rfl (by (try simp only [List.map_toArray, List.map_cons, List.map_nil]); first | done | (simp only [hji13]; rfl) | rfl | (simp only [qN, qM]; rfl)) ?_; (with_reducible refine (spec_l1Split.calls k ((rdOf ByteArray.empty t150 0).extract ((ji13) : Int).toNat ((rdOf ByteArray.empty t150 0).size)) 64 t154 _ A19.out).mono ?_); rintro e w55 ⟨v155, rfl, ho0, hb⟩; refine ⟨_, rfl, ?_⟩; have n0_ := zA (Kd.R_elder' (by (with_reducible repeat (first | apply zU | apply zV | apply zW)); exact HO152.out) (Kd.R_base ho0) hb); have n1_ := zA (Kd.R_lower (Kd.R_new' ho0 (Kd.R_lt (by (with_reducible repeat (first | apply zU | apply zV | apply zW)); exact HO152.out))) (zK (by repeat (first | (with_reducible first | exact HB.out | apply zD | apply zB | apply zC | refine zE ?_ GE148.out) | exact HB.out)))); have n2_ := zA (zR (g := gb148) (o := .cells #[.string (⟨#[]⟩ : ByteArray), .string (⟨#[]⟩ : ByteArray)] 36 (0, 0)) (by (with_reducible repeat (first | refine zF ?_ _ | refine zH ?_ | refine zG ?_ _)); exact BK148.out) hb); have n3_ := zA (zL (by repeat (first | (with_reducible first | exact HB.out | apply zD | apply zB | apply zC | refine zE ?_ GE148.out) | exact HB.out)) hb); clear HO152; clear BK148; clear HB; have HO152 := n0_; have HO156 := n1_; have BK148 := n2_; have HB := n3_; clear n0_ n1_ n2_ n3_; (try clear hb); (try clear hb2); (try clear hk); (try clear hi); (try clear ho0); obtain ⟨Ao56, co56, eo56⟩ := Kd.R_slice HO156.out; subst eo56; have p157 : 0 ≤ (0 : Int) := (by omega); have q157 : 0 < (t154.length : Int) := qF (by first | (with_reducible assumption) | assumption); obtain ⟨ad157, e157, hx157_0⟩ := Kd.at_string (Kd.R_reads' HO156.out).2.2 0 p157 q157; cases e157; have qi157 : (0 < t154.length) = True := eq_true (by omega); (try rw [show ((0 : Int)).toNat = 0 from rfl] at hx157_0); (try rw [Addr.add_zero'] at hx157_0); replace p157 := eq_true p157; replace q157 := eq_true q157) | ((with_reducible refine zZ (N := 10) rfl ?_); (try (refine gate_guard (by rfl) ?_; dsimp only)); refine zY ?hg (N := 10) ?hd (cs := #[.string (⟨#[]⟩ : ByteArray), .string (⟨#[]⟩ : ByteArray)]) (t := 36) ?hr ?_; (case hd => rfl); (case hg => rfl); (case hr => first | (go_simp; done) | (go_simp; rfl)); intro gb158 hg w57 hbox hb; have n0_ := zA (Kd.R_below (by (with_reducible repeat (first | apply zU | apply zV | apply zW)); exact HO152.out) hb); have n1_ := zA (Kd.R_below (by (with_reducible repeat (first | apply zU | apply zV | apply zW)); exact HO156.out) hb); have n2_ := zA (zR (g := gb148) (o := .cells #[.string (⟨#[]⟩ : ByteArray), .string (⟨#[]⟩ : ByteArray)] 36 (0, 0)) (by (with_reducible repeat (first | refine zF ?_ _ | refine zH ?_ | refine zG ?_ _)); exact BK148.out) hb); have n3_ := zA (zL (by repeat (first | (with_reducible first | exact HB.out | apply zD | apply zB | apply zC | refine zE ?_ GE148.out) | exact HB.out)) hb); have n4_ := zA (hbox); have n5_ := zA ((by rw [hg]; exact (zK (by repeat (first | (with_reducible first | exact HB.out | apply zD | apply zB | apply zC | refine zE ?_ GE148.out) | exact HB.out))) : w.heap.size ≤ gb158)); have n6_ := zA ((by rw [hg]; exact (zK (by repeat (first | (with_reducible first | exact HB.out | apply zD | apply zB | apply zC | refine zE ?_ GE148.out) | exact HB.out))) : w.heap.size ≤ gb158)); have n7_ := zA ((by rw [hg]; exact Nat.ne_of_lt (blk_lt (g := gb148) (o := .cells #[.string (⟨#[]⟩ : ByteArray), .string (⟨#[]⟩ : ByteArray)] 36 (0, 0)) (by (with_reducible repeat (first | refine zF ?_ _ | refine zH ?_ | refine zG ?_ _)); exact BK148.out)) : gb148 ≠ gb158)); have n8_ := zA ((by rw [hg]; exact Nat.ne_of_gt (blk_lt (g := gb148) (o := .cells #[.string (⟨#[]⟩ : ByteArray), .string (⟨#[]⟩ : ByteArray)] 36 (0, 0)) (by (with_reducible repeat (first | refine zF ?_ _ | refine zH ?_ | refine zG ?_ _)); exact BK148.out)) : gb158 ≠ gb148)); clear HO152; clear HO156; clear BK148; clear HB; have HO152 := n0_; have HO156 := n1_; have BK148 := n2_; have HB := n3_; have BK158 := n4_; have GW158 := n5_; have GE158 := n6_; have NB148_158 := n7_; have NB158_148 := n8_; clear n0_ n1_ n2_ n3_ n4_ n5_ n6_ n7_ n8_; clear hb hbox hg; have hnb58 := NB158_148.out; have hnc58 := NB148_158.out; have hcz59_0 : w57.cell? ⟨gb158, 0, none⟩ = some (.string (⟨#[]⟩ : ByteArray)) := (zJ BK158.out 0).trans rfl; have hcz59_1 : w57.cell? ⟨gb158, 1, none⟩ = some (.string (⟨#[]⟩ : ByteArray)) := (zJ BK158.out 1).trans rfl; have hfz59_0 := zI BK158.out 0; have hfz59_1 := zI BK158.out 1))
                        have n0_ : Aside0 (Kd.R Kd.string 9 ((w57.setCell ⟨gb158, 0, none⟩ (.string (rdOf ByteArray.empty t154 0))).setCell ⟨gb158, 1, none⟩ (.string (((rdOf ByteArray.empty t150 0).extract ((ji13) : Int).toNat ((rdOf ByteArray.empty t150 0).size)).extract ((ji29) : Int).toNat (((rdOf ByteArray.empty t150 0).size) - ((ji13) : Int).toNat)))) w.heap.size (fun k_ => some k_ ≠ (.slice (some ad157) t154.length co56 : Value).ownBlock) (.slice (some ad153) t150.length co54) t150) := ⟨by (with_reducible repeat (first | apply zU | apply zV | apply zW)); exact Kd.R_mono (Kd.R_far (p := ⟨gb158, 1, none⟩) (Kd.R_far (p := ⟨gb158, 0, none⟩) (Kd.R_types HO152.out BK158.out (by decide)) (fun _ hk => hk.2) (.string (rdOf ByteArray.empty t154 0))) (fun _ hk => hk.2) (.string (((rdOf ByteArray.empty t150 0).extract ((ji13) : Int).toNat ((rdOf ByteArray.empty t150 0).size)).extract ((ji29) : Int).toNat (((rdOf ByteArray.empty t150 0).size) - ((ji13) : Int).toNat)))) (fun _ hk => hk.1.2)⟩
                        have n1_ : Aside0 (Kd.R Kd.string 9 ((w57.setCell ⟨gb158, 0, none⟩ (.string (rdOf ByteArray.empty t154 0))).setCell ⟨gb158, 1, none⟩ (.string (((rdOf ByteArray.empty t150 0).extract ((ji13) : Int).toNat ((rdOf ByteArray.empty t150 0).size)).extract ((ji29) : Int).toNat (((rdOf ByteArray.empty t150 0).size) - ((ji13) : Int).toNat)))) w.heap.size (fun k_ => some k_ ≠ (.slice (some ad153) t150.length co54 : Value).ownBlock) (.slice (some ad157) t154.length co56) t154) := ⟨by (with_reducible repeat (first | apply zU | apply zV | apply zW)); exact Kd.R_mono (Kd.R_far (p := ⟨gb158, 1, none⟩) (Kd.R_far (p := ⟨gb158, 0, none⟩) (Kd.R_types HO156.out BK158.out (by decide)) (fun _ hk => hk.2) (.string (rdOf ByteArray.empty t154 0))) (fun _ hk => hk.2) (.string (((rdOf ByteArray.empty t150 0).extract ((ji13) : Int).toNat ((rdOf ByteArray.empty t150 0).size)).extract ((ji29) : Int).toNat (((rdOf ByteArray.empty t150 0).size) - ((ji13) : Int).toNat)))) (fun _ hk => hk.1.2)⟩
                        have n2_ : Aside0 (((w57.setCell ⟨gb158, 0, none⟩ (.string (rdOf ByteArray.empty t154 0))).setCell ⟨gb158, 1, none⟩ (.string (((rdOf ByteArray.empty t150 0).extract ((ji13) : Int).toNat ((rdOf ByteArray.empty t150 0).size)).extract ((ji29) : Int).toNat (((rdOf ByteArray.empty t150 0).size) - ((ji13) : Int).toNat)))).heap[gb148]? = some (.cells #[.string (⟨#[]⟩ : ByteArray), .string (⟨#[]⟩ : ByteArray)] 36 (0, 0))) := ⟨by (with_reducible repeat (first | refine zF ?_ _ | refine zH ?_ | refine zG ?_ _)); refine blk_far ?_ NB148_158.out _; (with_reducible repeat (first | refine zF ?_ _ | refine zH ?_ | refine zG ?_ _)); refine blk_far ?_ NB148_158.out _; (with_reducible repeat (first | refine zF ?_ _ | refine zH ?_ | refine zG ?_ _)); exact BK148.out⟩
                        have n3_ : Aside0 (((w57.setCell ⟨gb158, 0, none⟩ (.string (rdOf ByteArray.empty t154 0))).setCell ⟨gb158, 1, none⟩ (.string (((rdOf ByteArray.empty t150 0).extract ((ji13) : Int).toNat ((rdOf ByteArray.empty t150 0).size)).extract ((ji29) : Int).toNat (((rdOf ByteArray.empty t150 0).size) - ((ji13) : Int).toNat)))).heap[gb158]? = some (.cells #[.string (rdOf ByteArray.empty t154 0), .string (((rdOf ByteArray.empty t150 0).extract ((ji13) : Int).toNat ((rdOf ByteArray.empty t150 0).size)).extract ((ji29) : Int).toNat (((rdOf ByteArray.empty t150 0).size) - ((ji13) : Int).toNat))] 36 (0, 0))) := ⟨by (with_reducible repeat (first | refine zF ?_ _ | refine zH ?_ | refine zG ?_ _)); refine zX (cs := #[.string (rdOf ByteArray.empty t154 0), .string (⟨#[]⟩ : ByteArray)]) ?_ 1 _ rfl; (with_reducible repeat (first | refine zF ?_ _ | refine zH ?_ | refine zG ?_ _)); refine zX (cs := #[.string (⟨#[]⟩ : ByteArray), .string (⟨#[]⟩ : ByteArray)]) ?_ 0 _ rfl; (with_reducible repeat (first | refine zF ?_ _ | refine zH ?_ | refine zG ?_ _)); exact BK158.out⟩
                        have n4_ : Aside0 (Below w.heap.size w ((w57.setCell ⟨gb158, 0, none⟩ (.string (rdOf ByteArray.empty t154 0))).setCell ⟨gb158, 1, none⟩ (.string (((rdOf ByteArray.empty t150 0).extract ((ji13) : Int).toNat ((rdOf ByteArray.empty t150 0).size)).extract ((ji29) : Int).toNat (((rdOf ByteArray.empty t150 0).size) - ((ji13) : Int).toNat))))) := ⟨by repeat (first | (with_reducible first | exact HB.out | apply zD | apply zB | apply zC | refine zE ?_ GE148.out | refine zE ?_ GE158.out) | exact HB.out)⟩
                        (try clear HO152)
                        (try clear HO156)
                        (try clear BK148)
                        (try clear BK158)
                        (try clear HB)
                        generalize ((w57.setCell ⟨gb158, 0, none⟩ (.string (rdOf ByteArray.empty t154 0))).setCell ⟨gb158, 1, none⟩ (.string (((rdOf ByteArray.empty t150 0).extract ((ji13) : Int).toNat ((rdOf ByteArray.empty t150 0).size)).extract ((ji29) : Int).toNat (((rdOf ByteArray.empty t150 0).size) - ((ji13) : Int).toNat)))) = w60 at n0_ n1_ n2_ n3_ n4_ ⊢
                        have HO152 := n0_
                        have HO156 := n1_
                        have BK148 := n2_
                        have BK158 := n3_
                        have HB := n4_
                        clear n0_ n1_ n2_ n3_ n4_
                        have n0_ := zA (zW HO152.out)
                        have n1_ := zA (zW HO156.out)
                        have n2_ := zA (zH BK148.out)
                        have n3_ := zA (zH BK158.out)
                        have n4_ := zA (zC HB.out)
                        clear HO152
                        clear HO156
                        clear BK148
                        clear BK158
                        clear HB
                        have HO152 := n0_
                        have HO156 := n1_
                        have BK148 := n2_
                        have BK158 := n3_
                        have HB := n4_
                        clear n0_ n1_ n2_ n3_ n4_
                        refine start_ (n := 13) (S := fun w' => w'.cell? ⟨gb158, 0, none⟩ = some (.string (rdOf ByteArray.empty t154 0)) ∧ w'.cell? ⟨gb158, 1, none⟩ = some (.string (((rdOf ByteArray.empty t150 0).extract ((ji13) : Int).toNat ((rdOf ByteArray.empty t150 0).size)).extract ((ji29) : Int).toNat (((rdOf ByteArray.empty t150 0).size) - ((ji13) : Int).toNat)))) (ds := []) #[false, false, false, false, false, false, false, false, false, false, false, false, false] (by kernel_rfl) rfl rfl ⟨(zJ BK158.out 0).trans rfl, (zJ BK158.out 1).trans rfl⟩ (fun hHeld => ?_); refine with_tabW spec_l12Decode.tab10 spec_l12Decode.bits10 (fun HT_ HW_ => ?_)
                        generalize w60.drew = w61 at HO152 HO156 BK148 BK158 HB hHeld ⊢
                        refine take_ (i := 0) (N := some 53) (v := ?_) (a' := ?_) #[true, false, false, false, false, false, false, false, false, false, false, false, false] rfl rfl (take_ofW HT_.out HW_.out (by kernel_rfl)) (fun _ _ _ h => h) (Or.inl ⟨by rfl, ?_⟩) hHeld ?_ ?_
                        rotate_left
                        · rintro w' ⟨s0, s1⟩
                          go_simp
                          with_reducible rfl
                        rotate_left
                        · simp only [Act.put, qJ, qK, qL, i64_w, i32_w]
                          rfl
                        refine take_ (i := 1) (N := some 54) (v := ?_) (a' := ?_) #[true, true, false, false, false, false, false, false, false, false, false, false, false] rfl rfl (take_ofW HT_.out HW_.out (by kernel_rfl)) (fun _ _ _ h => h) (Or.inl ⟨by rfl, ?_⟩) hHeld ?_ ?_
                        rotate_left
                        · rintro w' ⟨s0, s1⟩
                          go_simp
                          with_reducible rfl
                        rotate_left
                        · simp only [Act.put, qJ, qK, qL, i64_w, i32_w]
                          rfl
                        refine one_ (i := 2) (N := some 55) #[true, true, true, false, false, false, false, false, false, false, false, false, false] rfl rfl (one_of HT_.out (by kernel_rfl)) (by decide) (fun K hK => ?_)
                        refine goes_ Tryd.func52 (by kernel_rfl) rfl #[.agg #[.string (rdOf ByteArray.empty t154 0), .string (((rdOf ByteArray.empty t150 0).extract ((ji13) : Int).toNat ((rdOf ByteArray.empty t150 0).size)).extract ((ji29) : Int).toNat (((rdOf ByteArray.empty t150 0).size) - ((ji13) : Int).toNat))]] (by rfl) rfl rfl (by (try simp only [List.map_toArray, List.map_cons, List.map_nil]); first | done | (simp only [hji13, hji29]; rfl) | rfl | (simp only [qN, qM]; rfl)) ?_
                        with_reducible refine (spec_l12Record.calls k (rdOf ByteArray.empty t154 0) (((rdOf ByteArray.empty t150 0).extract ((ji13) : Int).toNat ((rdOf ByteArray.empty t150 0).size)).extract ((ji29) : Int).toNat (((rdOf ByteArray.empty t150 0).size) - ((ji13) : Int).toNat)) false _ A32.out).mono ?_
                        rintro e w62 ⟨rfl, hb⟩
                        refine ⟨_, rfl, ?_⟩
                        have n0_ := zA (Kd.R_below (by (with_reducible repeat (first | apply zU | apply zV | apply zW)); exact HO152.out) hb)
                        have n1_ := zA (Kd.R_below (by (with_reducible repeat (first | apply zU | apply zV | apply zW)); exact HO156.out) hb)
                        have n2_ := zA (zR (g := gb148) (o := .cells #[.string (⟨#[]⟩ : ByteArray), .string (⟨#[]⟩ : ByteArray)] 36 (0, 0)) (by (with_reducible repeat (first | refine zF ?_ _ | refine zH ?_ | refine zG ?_ _)); exact BK148.out) hb)
                        have n3_ := zA (zR (g := gb158) (o := .cells #[.string (rdOf ByteArray.empty t154 0), .string (((rdOf ByteArray.empty t150 0).extract ((ji13) : Int).toNat ((rdOf ByteArray.empty t150 0).size)).extract ((ji29) : Int).toNat (((rdOf ByteArray.empty t150 0).size) - ((ji13) : Int).toNat))] 36 (0, 0)) (by (with_reducible repeat (first | refine zF ?_ _ | refine zH ?_ | refine zG ?_ _)); exact BK158.out) hb)
                        have n4_ := zA (zL (by repeat (first | (with_reducible first | exact HB.out | apply zD | apply zB | apply zC | refine zE ?_ GE148.out | refine zE ?_ GE158.out) | exact HB.out)) hb)
                        clear HO152
                        clear HO156
                        clear BK148
                        clear BK158
                        clear HB
                        have HO152 := n0_
                        have HO156 := n1_
                        have BK148 := n2_
                        have BK158 := n3_
                        have HB := n4_
                        clear n0_ n1_ n2_ n3_ n4_
                        (try clear hb)
                        (try clear hb2)
                        (try clear hk)
                        (try clear hi)
                        refine hK.out _ _ ⟨(zJ BK158.out 0).trans rfl, (zJ BK158.out 1).trans rfl⟩ (fun hHeld => ?_)
                        clear hK K
                        refine norm_ (a' := ?_) ?_ ?_
                        rotate_left
                        · show Act.put _ (some 55) _ = _
                          simp only [Act.put, qJ, qK, qL, i64_w, i32_w]
                          rfl
                        refine pure_ (i := 3) (N := some 56) (v := ?_) (a' := ?_) #[true, true, true, true, false, false, false, false, false, false, false, false, false] rfl rfl (any_of HT_.out (by kernel_rfl)) (fun _ _ _ h => h) (Or.inl ⟨by rfl, ?_⟩) ?_ ?_
                        rotate_left
                        · intro w'
                          go_simp
                          with_reducible rfl
                        rotate_left
                        · simp only [Act.put, qJ, qK, qL, i64_w, i32_w]
                          rfl
                        refine pure_ (i := 4) (N := some 57) (v := undef) (a' := ?_) #[true, true, true, true, true, false, false, false, false, false, false, false, false] rfl rfl (any_of HT_.out (by kernel_rfl)) (fun _ _ _ h => h) (Or.inr ⟨by rfl, rfl⟩) ?_ ?_
                        rotate_left
                        · simp only [Act.put, qJ, qK, qL, i64_w, i32_w]
                          rfl
                        refine pure_ (i := 5) (N := some 58) (v := undef) (a' := ?_) #[true, true, true, true, true, true, false, false, false, false, false, false, false] rfl rfl (any_of HT_.out (by kernel_rfl)) (fun _ _ _ h => h) (Or.inr ⟨by rfl, rfl⟩) ?_ ?_
                        rotate_left
                        · simp only [Act.put, qJ, qK, qL, i64_w, i32_w]
                          rfl
                        refine pure_ (i := 6) (N := some 59) (v := undef) (a' := ?_) #[true, true, true, true, true, true, true, false, false, false, false, false, false] rfl rfl (any_of HT_.out (by kernel_rfl)) (fun _ _ _ h => h) (Or.inr ⟨by rfl, rfl⟩) ?_ ?_
                        rotate_left
                        · simp only [Act.put, qJ, qK, qL, i64_w, i32_w]
                          rfl
                        refine pure_ (i := 7) (N := some 60) (v := undef) (a' := ?_) #[true, true, true, true, true, true, true, true, false, false, false, false, false] rfl rfl (any_of HT_.out (by kernel_rfl)) (fun _ _ _ h => h) (Or.inr ⟨by rfl, rfl⟩) ?_ ?_
                        rotate_left
                        · simp only [Act.put, qJ, qK, qL, i64_w, i32_w]
                          rfl
                        refine pure_ (i := 8) (N := some 61) (v := undef) (a' := ?_) #[true, true, true, true, true, true, true, true, true, false, false, false, false] rfl rfl (any_of HT_.out (by kernel_rfl)) (fun _ _ _ h => h) (Or.inr ⟨by rfl, rfl⟩) ?_ ?_
                        rotate_left
                        · simp only [Act.put, qJ, qK, qL, i64_w, i32_w]
                          rfl
                        refine pure_ (i := 9) (N := some 62) (v := undef) (a' := ?_) #[true, true, true, true, true, true, true, true, true, true, false, false, false] rfl rfl (any_of HT_.out (by kernel_rfl)) (fun _ _ _ h => h) (Or.inr ⟨by rfl, rfl⟩) ?_ ?_
                        rotate_left
                        · simp only [Act.put, qJ, qK, qL, i64_w, i32_w]
                          rfl
                        refine pure_ (i := 10) (N := some 63) (v := ?_) (a' := ?_) #[true, true, true, true, true, true, true, true, true, true, true, false, false] rfl rfl (any_of HT_.out (by kernel_rfl)) (fun _ _ _ h => h) (Or.inl ⟨by rfl, ?_⟩) ?_ ?_
                        rotate_left
                        · intro w'
                          go_simp
                          with_reducible rfl
                        rotate_left
                        · simp only [Act.put, qJ, qK, qL, i64_w, i32_w]
                          rfl
                        refine one_ (i := 11) (N := none) #[true, true, true, true, true, true, true, true, true, true, true, true, false] rfl rfl (one_of HT_.out (by kernel_rfl)) (by decide) (fun K hK => ?_)
                        have hs63 : w62.cell? ⟨gb148, 0, none⟩ = some (.string (⟨#[]⟩ : ByteArray)) := (zJ BK148.out 0).trans rfl
                        have hfs63 := zI BK148.out 0
                        have hns63_1 := NB158_148.out
                        have hms63_1 := NB148_158.out
                        have hs64 : w62.cell? ⟨gb148, 1, none⟩ = some (.string (⟨#[]⟩ : ByteArray)) := (zJ BK148.out 1).trans rfl
                        have hfs64 := zI BK148.out 1
                        have hns64_1 := NB158_148.out
                        have hms64_1 := NB148_158.out
                        refine skip_ (w1 := ?_) (by rfl) rfl ?_ ?_
                        rotate_left
                        · go_simp
                          rfl
                        refine hK.out _ _ ⟨((cell_far (p := ⟨gb148, _, none⟩) NB158_148.out _).trans (((cell_far (p := ⟨gb148, _, none⟩) NB158_148.out _).trans (hHeld.1)))), ((cell_far (p := ⟨gb148, _, none⟩) NB158_148.out _).trans (((cell_far (p := ⟨gb148, _, none⟩) NB158_148.out _).trans (hHeld.2))))⟩ (fun hHeld => ?_)
                        clear hK K
                        refine pure_ (i := 12) (N := some 5) (v := ?_) (a' := ?_) #[true, true, true, true, true, true, true, true, true, true, true, true, true] rfl rfl (any_of HT_.out (by kernel_rfl)) (fun _ _ _ h => h) (Or.inl ⟨by rfl, ?_⟩) ?_ ?_
                        rotate_left
                        · intro w'
                          go_simp
                          with_reducible rfl
                        rotate_left
                        · simp only [Act.put, qJ, qK, qL, i64_w, i32_w]
                          rfl
                        refine done_ (done_of HT_.out (by kernel_rfl)) ?_
                        try go_wp2
                        refine bodyPost_ret (results_ct rfl _ _ gb148 36 #[.string (rdOf ByteArray.empty t154 0), .string (((rdOf ByteArray.empty t150 0).extract ((ji13) : Int).toNat ((rdOf ByteArray.empty t150 0).size)).extract ((ji29) : Int).toNat (((rdOf ByteArray.empty t150 0).size) - ((ji13) : Int).toNat))] (0, 0) _ rfl (by (with_reducible repeat (first | refine zF ?_ _ | refine zH ?_ | refine zG ?_ _)); refine zX (cs := #[.string (rdOf ByteArray.empty t154 0), .string (⟨#[]⟩ : ByteArray)]) ?_ 1 _ rfl; (with_reducible repeat (first | refine zF ?_ _ | refine zH ?_ | refine zG ?_ _)); refine zX (cs := #[.string (⟨#[]⟩ : ByteArray), .string (⟨#[]⟩ : ByteArray)]) ?_ 0 _ rfl; (with_reducible repeat (first | refine zF ?_ _ | refine zH ?_ | refine zG ?_ _)); exact BK148.out) Tryd.underlying36 rfl (by kernel_rfl)) rfl ?_
                        exact ⟨by first | rfl | (simp [qH, qI] <;> rfl) | (simp only [← hji13, ← hji29]; first | rfl | (simp [qH, qI] <;> rfl)) | (simp [*, qH, qI] <;> rfl), by repeat (first | (with_reducible first | exact HB.out | apply zD | apply zB | apply zC | refine zE ?_ GE148.out | refine zE ?_ GE158.out) | exact HB.out)⟩
                    · rw [if_neg c31] at H
                      exact absurd H (by simp)
                  · rw [if_neg c30] at H
                    exact absurd H (by simp)
              · rw [if_neg c20] at H
                exact absurd H (by simp)
            · rw [if_neg c16] at H
              have c16b0 : (((rdOf ByteArray.empty t150 0).extract 0 ((ji13) : Int).toNat).toList == (t149 ++ (⟨#[32]⟩ : ByteArray)).toList) = false := beq_eq_false_iff_ne.mpr c16
              have c16b1 : (((rdOf ByteArray.empty t150 0).extract 0 ((ji13) : Int).toNat).toList != (t149 ++ (⟨#[32]⟩ : ByteArray)).toList) = true := bne_iff_ne.mpr c16
              simp only [Option.some.injEq, Prod.mk.injEq] at H
              obtain ⟨rfl, rfl, rfl⟩ := H
              go_enter Tryd.func84, Tryd.ntmps84
              go_wp2_with (first | ((with_reducible refine zZ (N := 4) rfl ?_); (try (refine gate_guard (by rfl) ?_; dsimp only)); refine zY ?hg (N := 4) ?hd (cs := #[.string (⟨#[]⟩ : ByteArray), .string (⟨#[]⟩ : ByteArray)]) (t := 36) ?hr ?_; (case hd => rfl); (case hg => rfl); (case hr => first | (go_simp; done) | (go_simp; rfl)); intro gb148 hg w65 hbox hb; have n0_ := zA (zL (by repeat (first | (with_reducible first | exact HB.out | apply zD | apply zB | apply zC) | exact HB.out)) hb); have n1_ := zA (hbox); have n2_ := zA ((by rw [hg]; exact (zK (by repeat (first | (with_reducible first | exact HB.out | apply zD | apply zB | apply zC) | exact HB.out))) : w.heap.size ≤ gb148)); have n3_ := zA ((by rw [hg]; exact (zK (by repeat (first | (with_reducible first | exact HB.out | apply zD | apply zB | apply zC) | exact HB.out))) : w.heap.size ≤ gb148)); clear HB; have HB := n0_; have BK148 := n1_; have GW148 := n2_; have GE148 := n3_; clear n0_ n1_ n2_ n3_; clear hb hbox hg) | ((with_reducible refine zS (f := 63) rfl ?_); refine qW (some 12) rfl rfl Tryd.func63 (by kernel_rfl) rfl #[.int .i64 a1] rfl (by (try simp only [List.map_toArray, List.map_cons, List.map_nil]); first | done | rfl | (simp only [qN, qM]; rfl)) ?_; (with_reducible refine (spec_l1Num.calls a1 t149 _ A3.out).mono ?_); rintro e w66 ⟨rfl, hb⟩; refine ⟨_, rfl, ?_⟩; have n0_ := zA (zR (g := gb148) (o := .cells #[.string (⟨#[]⟩ : ByteArray), .string (⟨#[]⟩ : ByteArray)] 36 (0, 0)) (by (with_reducible repeat (first | refine zF ?_ _ | refine zH ?_ | refine zG ?_ _)); exact BK148.out) hb); have n1_ := zA (zL (by repeat (first | (with_reducible first | exact HB.out | apply zD | apply zB | apply zC | refine zE ?_ GE148.out) | exact HB.out)) hb); clear BK148; clear HB; have BK148 := n0_; have HB := n1_; clear n0_ n1_; (try clear hb); (try clear hb2); (try clear hk); (try clear hi)) | ((with_reducible refine zS (f := 83) rfl ?_); refine qW (some 15) rfl rfl Tryd.func83 (by kernel_rfl) rfl #[.string a0, .int .u8 35] rfl (by (try simp only [List.map_toArray, List.map_cons, List.map_nil]); first | done | rfl | (simp only [qN, qM]; rfl)) ?_; (with_reducible refine (spec_l1Split.calls k a0 35 t150 _ A5.out).mono ?_); rintro e w67 ⟨v151, rfl, ho0, hb⟩; refine ⟨_, rfl, ?_⟩; have n0_ := zA (Kd.R_lower ho0 (zK (by repeat (first | (with_reducible first | exact HB.out | apply zD | apply zB | apply zC | refine zE ?_ GE148.out) | exact HB.out)))); have n1_ := zA (zR (g := gb148) (o := .cells #[.string (⟨#[]⟩ : ByteArray), .string (⟨#[]⟩ : ByteArray)] 36 (0, 0)) (by (with_reducible repeat (first | refine zF ?_ _ | refine zH ?_ | refine zG ?_ _)); exact BK148.out) hb); have n2_ := zA (zL (by repeat (first | (with_reducible first | exact HB.out | apply zD | apply zB | apply zC | refine zE ?_ GE148.out) | exact HB.out)) hb); clear BK148; clear HB; have HO152 := n0_; have BK148 := n1_; have HB := n2_; clear n0_ n1_ n2_; (try clear hb); (try clear hb2); (try clear hk); (try clear hi); (try clear ho0); obtain ⟨Ao68, co68, eo68⟩ := Kd.R_slice HO152.out; subst eo68; have p153 : 0 ≤ (0 : Int) := (by omega); have q153 : 0 < (t150.length : Int) := qF (by first | (with_reducible assumption) | assumption); obtain ⟨ad153, e153, hx153_0⟩ := Kd.at_string (Kd.R_reads' HO152.out).2.2 0 p153 q153; cases e153; have qi153 : (0 < t150.length) = True := eq_true (by omega); (try rw [show ((0 : Int)).toNat = 0 from rfl] at hx153_0); (try rw [Addr.add_zero'] at hx153_0); replace p153 := eq_true p153; replace q153 := eq_true q153; have hcz69_0 : w67.cell? ⟨gb148, 0, none⟩ = some (.string (⟨#[]⟩ : ByteArray)) := (zJ BK148.out 0).trans rfl; have hcz69_1 : w67.cell? ⟨gb148, 1, none⟩ = some (.string (⟨#[]⟩ : ByteArray)) := (zJ BK148.out 1).trans rfl; have hfz69_0 := zI BK148.out 0; have hfz69_1 := zI BK148.out 1))
              refine bodyPost_ret (results_ct rfl _ _ gb148 36 #[.string (⟨#[]⟩ : ByteArray), .string (⟨#[]⟩ : ByteArray)] (0, 0) _ rfl (by (with_reducible repeat (first | refine zF ?_ _ | refine zH ?_ | refine zG ?_ _)); refine zX (cs := #[.string (⟨#[]⟩ : ByteArray), .string (⟨#[]⟩ : ByteArray)]) ?_ 1 _ rfl; (with_reducible repeat (first | refine zF ?_ _ | refine zH ?_ | refine zG ?_ _)); refine zX (cs := #[.string (⟨#[]⟩ : ByteArray), .string (⟨#[]⟩ : ByteArray)]) ?_ 0 _ rfl; (with_reducible repeat (first | refine zF ?_ _ | refine zH ?_ | refine zG ?_ _)); exact BK148.out) Tryd.underlying36 rfl (by kernel_rfl)) rfl ?_
              exact ⟨by first | rfl | (simp [qH, qI] <;> rfl) | (simp only [← hji13]; first | rfl | (simp [qH, qI] <;> rfl)) | (simp [*, qH, qI] <;> rfl), by repeat (first | (with_reducible first | exact HB.out | apply zD | apply zB | apply zC | refine zE ?_ GE148.out) | exact HB.out)⟩
          · rw [if_neg c15] at H
            exact absurd H (by simp)
        · rw [if_neg c14] at H
          exact absurd H (by simp)
    · rw [if_neg c6] at H
      exact absurd H (by simp)
  · rw [if_neg c4] at H
    exact absurd H (by simp)
mutual
def spec_l12Open.l0 : Nat → ByteArray → List (S36) → Int → Option ((List (S36)) × Int)
  | 0, _, _, _ => none
  | k + 1, x0, x4, x5 => if x5 < (x0.size : Int) then (spec_l12Open.j1 k x0 x4 x5 (decide ((x4.length : Int) < 60))) else (spec_l12Open.j1 k x0 x4 x5 false)
def spec_l12Open.j1 : Nat → ByteArray → List (S36) → Int → Bool → Option ((List (S36)) × Int)
  | 0, _, _, _, _ => none
  | k + 1, x0, x4, x5, x18 => if x18 = true then (if 0 ≤ x5 then (if x5 ≤ (x0.size : Int) then ((spec_l1Split.f k (x0.extract (x5 : Int).toNat x0.size) 10).bind fun t164 => (if 0 < (t164.length : Int) then ((spec_l12Decode.f k (rdOf ByteArray.empty t164 0) (x4.length : Int)).bind fun bt168 => (if (t164.length : Int) < 2 then (some (x4, x5)) else (if bt168.2.2 = true then (if x4.length < 4398046511104 then (spec_l12Open.l0 k x0 (x4 ++ [(⟨bt168.1, bt168.2.1⟩ : S36)]) (wrap64 ((wrap64 (x5 + ((rdOf ByteArray.empty t164 0).size : Int))) + 1))) else (none)) else (some (x4, x5))))) else (none))) else (none)) else (none)) else (some (x4, x5))
end
def spec_l12Open.f (k : Nat) (a0 : ByteArray) : Option ((List (S36)) × Int) := spec_l12Open.l0 k a0 (([] : List (S36))) 0
set_option maxHeartbeats 8000000 in
set_option maxRecDepth 100000 in
theorem spec_l12Open.calls (k : Nat) (a0 : ByteArray) (r1 : List (S36)) (r2 : Int) (w : World) (h : spec_l12Open.f k a0 = some (r1, r2)) :
    Calls Tryd.prog 54 #[.string a0] w fun e w' => ∃ v0_ : Value, e = .returned (.tuple #[v0_, .int .i64 r2]) ∧ Kd.R k36 36 w' w.heap.size (fun _ => True) v0_ r1 ∧ Below w.heap.size w w' := by
  have hu36 := Tryd.underlying36
  have HB := zA (qO w.heap.size w)
  have H : (spec_l12Open.l0 k a0 (([] : List (S36))) 0) = some (r1, r2) := h
  clear h
  obtain ⟨y161, hy161⟩ : ∃ y_ : List (S36), y_ = (([] : List (S36))) := ⟨_, rfl⟩
  replace H : (spec_l12Open.l0 k a0 y161 0) = some (r1, r2) := by first | (rw [hy161]; with_reducible exact H) | (have H2_ := (Option.bind_some _ _).symm.trans H; rw [hy161]; with_reducible exact H2_) | (have H2_ := (Option.bind_some _ _).symm.trans H; with_reducible exact H2_) | with_reducible exact H | (rw [hy161]; exact H) | exact H
  have Ny161 := zA hy161
  clear hy161
  have H' := zA H
  clear H
  go_enter Tryd.func54, Tryd.ntmps54
  go_wp2_with (first | ((with_reducible refine zZ (N := 9) rfl ?_); (try (refine gate_guard (by rfl) ?_; dsimp only)); refine Kd.R_lit k36 _ 36 ?hg (N := 9) ?hd (xs := ([] : List (S36))) (inner := []) (ok := fun _ => True) (okp := fun _ => True) ?hr ?hp (fun _ hk => hk) trivial (qO _ _) (Nat.le_refl _) (by simp) ?_; (case hd => rfl); (case hg => rfl); (case hr => first | (go_simp; done) | (go_simp; rfl)); (case hp => exact (Reps.none _ _)); intro v162 w2 ho3 hb hg_ hnew_; clear hg_ hnew_; (first | rw [← Ny161.out] at ho3 | (simp only [Int.reduceToNat] at ho3; rw [← Ny161.out] at ho3)); have n0_ := zA (Kd.R_lower ho3 (zK (by repeat (first | (with_reducible first | exact HB.out | apply zD | apply zB | apply zC) | exact HB.out)))); have n1_ := zA (zL (by repeat (first | (with_reducible first | exact HB.out | apply zD | apply zB | apply zC) | exact HB.out)) hb); clear HB; have HO163 := n0_; have HB := n1_; clear n0_ n1_; clear hb ho3))
  go_loopg [4, 5] k (fun kq v4 v5 w' => ∃ (x4_1 : List (S36)) (x5_1 : Int), v5 = .int .i64 x5_1 ∧ Aside0 (spec_l12Open.l0 kq a0 x4_1 x5_1 = some (r1, r2)) ∧ Aside0 (kq ≤ k) ∧ Aside0 (Kd.R k36 36 w' w.heap.size (fun _ => True) v4 x4_1) ∧ Aside0 (Below w.heap.size w w'))
  case atStart => exact ⟨(y161), (0), (by first | rfl | (simp; done) | (simp [*]; done)), H', ⟨Nat.le_refl _⟩, ⟨by (with_reducible repeat (first | apply zU | apply zV | apply zW)); exact HO163.out⟩, ⟨by repeat (first | (with_reducible first | exact HB.out | apply zD | apply zB | apply zC) | exact HB.out)⟩⟩
  case round =>
    clear H'
    try clear p2
    obtain ⟨x4_1, x5_1, rfl, HA, HK1, HO_4, HB⟩ := hrel
    cases gk with
    | zero => exact absurd HA.out (by simp [spec_l12Open.l0])
    | succ k1 =>
      have H := HA.out
      clear HA
      simp only [spec_l12Open.l0] at H
      have HC4 := zA H
      clear H
      go_upto_region 3 with (fail)
      go_cut [18] (fun v18 wc => ∃ (kq : Nat) (x18_3 : Bool), v18 = .bool x18_3 ∧ Aside0 (spec_l12Open.j1 kq a0 x4_1 x5_1 x18_3 = some (r1, r2)) ∧ Aside0 (kq ≤ k1) ∧ Aside0 (Kd.R k36 36 wc w.heap.size (fun _ => True) u4 x4_1) ∧ Aside0 (Below w.heap.size w wc))
      case first =>
        have H := HC4.out
        clear HC4
        by_cases c5 : x5_1 < (a0.size : Int)
        · rw [if_pos c5] at H
          have c5b0 : decide (x5_1 < (a0.size : Int)) = true := qE c5
          clear c5
          (first | rw [c5b0] | (simp only [i64_w, i32_w]; rw [c5b0]) | skip)
          have H' := zA H
          clear H
          obtain ⟨Ao6, co6, eo6⟩ := Kd.R_slice HO_4.out
          subst eo6
          go_wp2
          go_meet
          case rel => exact ⟨_, (decide ((x4_1.length : Int) < 60)), (by first | rfl | (simp; done) | (simp [*]; done)), H', ⟨by have := HK1.out; first | omega | exact Nat.le_refl _⟩, ⟨by (with_reducible repeat (first | apply zU | apply zV | apply zW)); exact HO_4.out⟩, ⟨by repeat (first | (with_reducible first | exact HB.out | apply zD | apply zB | apply zC) | exact HB.out)⟩⟩
        · rw [if_neg c5] at H
          have c5b0 : decide (x5_1 < (a0.size : Int)) = false := qG c5
          clear c5
          (first | rw [c5b0] | (simp only [i64_w, i32_w]; rw [c5b0]) | skip)
          have H' := zA H
          clear H
          go_wp2
          go_meet
          case rel => exact ⟨_, (false), (by first | rfl | (simp; done) | (simp [*]; done)), H', ⟨by have := HK1.out; first | omega | exact Nat.le_refl _⟩, ⟨by (with_reducible repeat (first | apply zU | apply zV | apply zW)); exact HO_4.out⟩, ⟨by repeat (first | (with_reducible first | exact HB.out | apply zD | apply zB | apply zC) | exact HB.out)⟩⟩
      case rest =>
        clear HC4
        try clear p2
        try clear c5
        try clear c5b0
        try clear p2
        obtain ⟨kq, x18_3, rfl, HA, HJ3, HO_4, HB⟩ := hcut
        cases kq with
        | zero => exact absurd HA.out (by simp [spec_l12Open.j1])
        | succ kj3 =>
          have H := HA.out
          clear HA
          simp only [spec_l12Open.j1] at H
          by_cases c7 : x18_3 = true
          · subst c7
            have H1 : (if 0 ≤ x5_1 then (if x5_1 ≤ (a0.size : Int) then ((spec_l1Split.f kj3 (a0.extract (x5_1 : Int).toNat a0.size) 10).bind fun t164 => (if 0 < (t164.length : Int) then ((spec_l12Decode.f kj3 (rdOf ByteArray.empty t164 0) (x4_1.length : Int)).bind fun bt168 => (if (t164.length : Int) < 2 then (some (x4_1, x5_1)) else (if bt168.2.2 = true then (if x4_1.length < 4398046511104 then (spec_l12Open.l0 kj3 a0 (x4_1 ++ [(⟨bt168.1, bt168.2.1⟩ : S36)]) (wrap64 ((wrap64 (x5_1 + ((rdOf ByteArray.empty t164 0).size : Int))) + 1))) else (none)) else (some (x4_1, x5_1))))) else (none))) else (none)) else (none)) = some (r1, r2) := by rw [if_pos rfl] at H; exact H
            clear H
            have H := H1
            clear H1
            by_cases c8 : 0 ≤ x5_1
            · rw [if_pos c8] at H
              have c8b0 := eq_true c8
              have c8b1 : decide (0 ≤ x5_1) = true := qE c8
              clear c8
              by_cases c9 : x5_1 ≤ (a0.size : Int)
              · rw [if_pos c9] at H
                have c9b0 := eq_true c9
                have c9b1 : decide (x5_1 ≤ (a0.size : Int)) = true := qE c9
                clear c9
                replace H := Option.bind_eq_some_iff.mp H
                obtain ⟨t164, A100, H⟩ := H
                replace H : (if 0 < (t164.length : Int) then ((spec_l12Decode.f kj3 (rdOf ByteArray.empty t164 0) (x4_1.length : Int)).bind fun bt168 => (if (t164.length : Int) < 2 then (some (x4_1, x5_1)) else (if bt168.2.2 = true then (if x4_1.length < 4398046511104 then (spec_l12Open.l0 kj3 a0 (x4_1 ++ [(⟨bt168.1, bt168.2.1⟩ : S36)]) (wrap64 ((wrap64 (x5_1 + ((rdOf ByteArray.empty t164 0).size : Int))) + 1))) else (none)) else (some (x4_1, x5_1))))) else (none)) = some (r1, r2) := H
                have A10 := zA A100
                clear A100
                by_cases c11 : 0 < (t164.length : Int)
                · rw [if_pos c11] at H
                  have c11b0 : decide (0 < (t164.length : Int)) = true := qE c11
                  have c11b1 : decide (0 < t164.length) = true := qE (by omega)
                  clear c11
                  replace H := Option.bind_eq_some_iff.mp H
                  obtain ⟨⟨t168, t169, t170⟩, A120, H⟩ := H
                  replace H : (if (t164.length : Int) < 2 then (some (x4_1, x5_1)) else (if t170 = true then (if x4_1.length < 4398046511104 then (spec_l12Open.l0 kj3 a0 (x4_1 ++ [(⟨t168, t169⟩ : S36)]) (wrap64 ((wrap64 (x5_1 + ((rdOf ByteArray.empty t164 0).size : Int))) + 1))) else (none)) else (some (x4_1, x5_1)))) = some (r1, r2) := H
                  have A12 := zA A120
                  clear A120
                  by_cases c13 : (t164.length : Int) < 2
                  · rw [if_pos c13] at H
                    have c13b0 : decide ((t164.length : Int) < 2) = true := qE c13
                    have c13b1 : decide (t164.length < 2) = true := qE (by omega)
                    clear c13
                    simp only [Option.some.injEq, Prod.mk.injEq] at H
                    obtain ⟨rfl, rfl⟩ := H
                    go_wp2_with (first | ((with_reducible refine zS (f := 83) rfl ?_); refine qW (some 22) rfl rfl Tryd.func83 (by kernel_rfl) rfl #[.string (a0.extract (x5_1 : Int).toNat a0.size), .int .u8 10] rfl (by (try simp only [List.map_toArray, List.map_cons, List.map_nil]); first | done | rfl | (simp only [qN, qM]; rfl)) ?_; (with_reducible refine (spec_l1Split.calls kj3 (a0.extract (x5_1 : Int).toNat a0.size) 10 t164 _ A10.out).mono ?_); rintro e w14 ⟨v165, rfl, ho0, hb⟩; refine ⟨_, rfl, ?_⟩; have n0_ := zA (Kd.R_below (by (with_reducible repeat (first | apply zU | apply zV | apply zW)); exact HO_4.out) hb); have n1_ := zA (Kd.R_lower ho0 (zK (by repeat (first | (with_reducible first | exact HB.out | apply zD | apply zB | apply zC) | exact HB.out)))); have n2_ := zA (zL (by repeat (first | (with_reducible first | exact HB.out | apply zD | apply zB | apply zC) | exact HB.out)) hb); clear HO_4; clear HB; have HO_4 := n0_; have HO166 := n1_; have HB := n2_; clear n0_ n1_ n2_; (try clear hb); (try clear hb2); (try clear hk); (try clear hi); (try clear ho0); obtain ⟨Ao15, co15, eo15⟩ := Kd.R_slice HO166.out; subst eo15; have p167 : 0 ≤ (0 : Int) := (by omega); have q167 : 0 < (t164.length : Int) := qF (by first | (with_reducible assumption) | assumption); obtain ⟨ad167, e167, hx167_0⟩ := Kd.at_string (Kd.R_reads' HO166.out).2.2 0 p167 q167; cases e167; have qi167 : (0 < t164.length) = True := eq_true (by omega); (try rw [show ((0 : Int)).toNat = 0 from rfl] at hx167_0); (try rw [Addr.add_zero'] at hx167_0); replace p167 := eq_true p167; replace q167 := eq_true q167; obtain ⟨Ao16, co16, eo16⟩ := Kd.R_slice HO_4.out; subst eo16) | ((with_reducible refine zS (f := 84) rfl ?_); refine qW (some 29) rfl rfl Tryd.func84 (by kernel_rfl) rfl #[.string (rdOf ByteArray.empty t164 0), .int .i64 (x4_1.length : Int)] rfl (by (try simp only [List.map_toArray, List.map_cons, List.map_nil]); first | done | rfl | (simp only [qN, qM]; rfl)) ?_; (with_reducible refine (spec_l12Decode.calls kj3 (rdOf ByteArray.empty t164 0) (x4_1.length : Int) t168 t169 t170 _ A12.out).mono ?_); rintro e w17 ⟨rfl, hb⟩; refine ⟨_, rfl, ?_⟩; have n0_ := zA (Kd.R_below (by (with_reducible repeat (first | apply zU | apply zV | apply zW)); exact HO_4.out) hb); have n1_ := zA (Kd.R_below (by (with_reducible repeat (first | apply zU | apply zV | apply zW)); exact HO166.out) hb); have n2_ := zA (zL (by repeat (first | (with_reducible first | exact HB.out | apply zD | apply zB | apply zC) | exact HB.out)) hb); clear HO_4; clear HO166; clear HB; have HO_4 := n0_; have HO166 := n1_; have HB := n2_; clear n0_ n1_ n2_; (try clear hb); (try clear hb2); (try clear hk); (try clear hi)) | ((with_reducible refine zZ (N := 7) rfl ?_); (try (refine gate_guard (by rfl) ?_; dsimp only)); refine zY ?hg (N := 7) ?hd (cs := #[.string (⟨#[]⟩ : ByteArray), .string (⟨#[]⟩ : ByteArray)]) (t := 36) ?hr ?_; (case hd => rfl); (case hg => rfl); (case hr => first | (go_simp; done) | (go_simp; rfl)); intro gb171 hg w18 hbox hb; have n0_ := zA (Kd.R_below (Kd.R_elderB (by (with_reducible repeat (first | apply zU | apply zV | apply zW)); exact HO_4.out) gb171 (Nat.le_of_eq hg.symm)) hb); have n1_ := zA (Kd.R_below (by (with_reducible repeat (first | apply zU | apply zV | apply zW)); exact HO166.out) hb); have n2_ := zA (zL (by repeat (first | (with_reducible first | exact HB.out | apply zD | apply zB | apply zC) | exact HB.out)) hb); have n3_ := zA (hbox); have n4_ := zA ((by rw [hg]; exact (zK (by repeat (first | (with_reducible first | exact HB.out | apply zD | apply zB | apply zC) | exact HB.out))) : w.heap.size ≤ gb171)); have n5_ := zA ((by rw [hg]; exact (zK (by repeat (first | (with_reducible first | exact HB.out | apply zD | apply zB | apply zC) | exact HB.out))) : w.heap.size ≤ gb171)); clear HO_4; clear HO166; clear HB; have HO_4 := n0_; have HO166 := n1_; have HB := n2_; have BK171 := n3_; have GW171 := n4_; have GE171 := n5_; clear n0_ n1_ n2_ n3_ n4_ n5_; clear hb hbox hg; have hcz19_0 : w18.cell? ⟨gb171, 0, none⟩ = some (.string (⟨#[]⟩ : ByteArray)) := (zJ BK171.out 0).trans rfl; have hcz19_1 : w18.cell? ⟨gb171, 1, none⟩ = some (.string (⟨#[]⟩ : ByteArray)) := (zJ BK171.out 1).trans rfl; have hfz19_0 := zI BK171.out 0; have hfz19_1 := zI BK171.out 1))
                    go_ret2
                    exact ⟨_, by first | rfl | (simp [qH, qI] <;> rfl) | (simp [*, qH, qI] <;> rfl), by (with_reducible repeat (first | apply zU | apply zV | apply zW)); exact Kd.R_mono (Kd.R_far (p := ⟨gb171, 1, none⟩) (Kd.R_far (p := ⟨gb171, 0, none⟩) (Kd.R_mono HO_4.out (fun k_ hk => (⟨hk, hk.2⟩ : _ ∧ k_ ≠ gb171))) (fun _ hk => hk.2) (.string t168)) (fun _ hk => hk.2) (.string t169)) (fun _ hk => trivial), by repeat (first | (with_reducible first | exact HB.out | apply zD | apply zB | apply zC | refine zE ?_ GE171.out) | exact HB.out)⟩
                  · rw [if_neg c13] at H
                    have c13b0 : decide ((t164.length : Int) < 2) = false := qG c13
                    have c13b1 : decide (t164.length < 2) = false := qG (by omega)
                    clear c13
                    by_cases c20 : t170 = true
                    · subst c20
                      have H1 : (if x4_1.length < 4398046511104 then (spec_l12Open.l0 kj3 a0 (x4_1 ++ [(⟨t168, t169⟩ : S36)]) (wrap64 ((wrap64 (x5_1 + ((rdOf ByteArray.empty t164 0).size : Int))) + 1))) else (none)) = some (r1, r2) := by rw [if_pos rfl] at H; exact H
                      clear H
                      have H := H1
                      clear H1
                      by_cases c21 : x4_1.length < 4398046511104
                      · rw [if_pos c21] at H
                        have LMc21 := zA c21
                        clear c21
                        obtain ⟨y172, hy172⟩ : ∃ y_ : List (S36), y_ = (x4_1 ++ [(⟨t168, t169⟩ : S36)]) := ⟨_, rfl⟩
                        replace H : (spec_l12Open.l0 kj3 a0 y172 (wrap64 ((wrap64 (x5_1 + ((rdOf ByteArray.empty t164 0).size : Int))) + 1))) = some (r1, r2) := by first | (rw [hy172]; with_reducible exact H) | (have H2_ := (Option.bind_some _ _).symm.trans H; rw [hy172]; with_reducible exact H2_) | (have H2_ := (Option.bind_some _ _).symm.trans H; with_reducible exact H2_) | with_reducible exact H | (rw [hy172]; exact H) | exact H
                        have Ny172 := zA hy172
                        clear hy172
                        have H' := zA H
                        clear H
                        go_wp2_with (first | ((with_reducible refine zS (f := 83) rfl ?_); refine qW (some 22) rfl rfl Tryd.func83 (by kernel_rfl) rfl #[.string (a0.extract (x5_1 : Int).toNat a0.size), .int .u8 10] rfl (by (try simp only [List.map_toArray, List.map_cons, List.map_nil]); first | done | rfl | (simp only [qN, qM]; rfl)) ?_; (with_reducible refine (spec_l1Split.calls kj3 (a0.extract (x5_1 : Int).toNat a0.size) 10 t164 _ A10.out).mono ?_); rintro e w22 ⟨v165, rfl, ho0, hb⟩; refine ⟨_, rfl, ?_⟩; have n0_ := zA (Kd.R_below (by (with_reducible repeat (first | apply zU | apply zV | apply zW)); exact HO_4.out) hb); have n1_ := zA (Kd.R_lower ho0 (zK (by repeat (first | (with_reducible first | exact HB.out | apply zD | apply zB | apply zC) | exact HB.out)))); have n2_ := zA (zL (by repeat (first | (with_reducible first | exact HB.out | apply zD | apply zB | apply zC) | exact HB.out)) hb); clear HO_4; clear HB; have HO_4 := n0_; have HO166 := n1_; have HB := n2_; clear n0_ n1_ n2_; (try clear hb); (try clear hb2); (try clear hk); (try clear hi); (try clear ho0); obtain ⟨Ao23, co23, eo23⟩ := Kd.R_slice HO166.out; subst eo23; have p167 : 0 ≤ (0 : Int) := (by omega); have q167 : 0 < (t164.length : Int) := qF (by first | (with_reducible assumption) | assumption); obtain ⟨ad167, e167, hx167_0⟩ := Kd.at_string (Kd.R_reads' HO166.out).2.2 0 p167 q167; cases e167; have qi167 : (0 < t164.length) = True := eq_true (by omega); (try rw [show ((0 : Int)).toNat = 0 from rfl] at hx167_0); (try rw [Addr.add_zero'] at hx167_0); replace p167 := eq_true p167; replace q167 := eq_true q167; obtain ⟨Ao24, co24, eo24⟩ := Kd.R_slice HO_4.out; subst eo24) | ((with_reducible refine zS (f := 84) rfl ?_); refine qW (some 29) rfl rfl Tryd.func84 (by kernel_rfl) rfl #[.string (rdOf ByteArray.empty t164 0), .int .i64 (x4_1.length : Int)] rfl (by (try simp only [List.map_toArray, List.map_cons, List.map_nil]); first | done | rfl | (simp only [qN, qM]; rfl)) ?_; (with_reducible refine (spec_l12Decode.calls kj3 (rdOf ByteArray.empty t164 0) (x4_1.length : Int) t168 t169 true _ A12.out).mono ?_); rintro e w25 ⟨rfl, hb⟩; refine ⟨_, rfl, ?_⟩; have n0_ := zA (Kd.R_below (by (with_reducible repeat (first | apply zU | apply zV | apply zW)); exact HO_4.out) hb); have n1_ := zA (Kd.R_below (by (with_reducible repeat (first | apply zU | apply zV | apply zW)); exact HO166.out) hb); have n2_ := zA (zL (by repeat (first | (with_reducible first | exact HB.out | apply zD | apply zB | apply zC) | exact HB.out)) hb); clear HO_4; clear HO166; clear HB; have HO_4 := n0_; have HO166 := n1_; have HB := n2_; clear n0_ n1_ n2_; (try clear hb); (try clear hb2); (try clear hk); (try clear hi)) | ((with_reducible refine zZ (N := 7) rfl ?_); (try (refine gate_guard (by rfl) ?_; dsimp only)); refine zY ?hg (N := 7) ?hd (cs := #[.string (⟨#[]⟩ : ByteArray), .string (⟨#[]⟩ : ByteArray)]) (t := 36) ?hr ?_; (case hd => rfl); (case hg => rfl); (case hr => first | (go_simp; done) | (go_simp; rfl)); intro gb171 hg w26 hbox hb; have n0_ := zA (Kd.R_below (Kd.R_elderB (by (with_reducible repeat (first | apply zU | apply zV | apply zW)); exact HO_4.out) gb171 (Nat.le_of_eq hg.symm)) hb); have n1_ := zA (Kd.R_below (by (with_reducible repeat (first | apply zU | apply zV | apply zW)); exact HO166.out) hb); have n2_ := zA (zL (by repeat (first | (with_reducible first | exact HB.out | apply zD | apply zB | apply zC) | exact HB.out)) hb); have n3_ := zA (hbox); have n4_ := zA ((by rw [hg]; exact (zK (by repeat (first | (with_reducible first | exact HB.out | apply zD | apply zB | apply zC) | exact HB.out))) : w.heap.size ≤ gb171)); have n5_ := zA ((by rw [hg]; exact (zK (by repeat (first | (with_reducible first | exact HB.out | apply zD | apply zB | apply zC) | exact HB.out))) : w.heap.size ≤ gb171)); clear HO_4; clear HO166; clear HB; have HO_4 := n0_; have HO166 := n1_; have HB := n2_; have BK171 := n3_; have GW171 := n4_; have GE171 := n5_; clear n0_ n1_ n2_ n3_ n4_ n5_; clear hb hbox hg; have hcz27_0 : w26.cell? ⟨gb171, 0, none⟩ = some (.string (⟨#[]⟩ : ByteArray)) := (zJ BK171.out 0).trans rfl; have hcz27_1 : w26.cell? ⟨gb171, 1, none⟩ = some (.string (⟨#[]⟩ : ByteArray)) := (zJ BK171.out 1).trans rfl; have hfz27_0 := zI BK171.out 0; have hfz27_1 := zI BK171.out 1) | ((with_reducible refine gate_builtin (b := .append) (xs := #[.tmp 39, .tmp 41]) rfl ?_); (try (refine gate_guard (by rfl) ?_; dsimp only)); at_builtin; refine Kd.R_append k36 (w0 := w) w.heap.size rfl (.tmp 39) (.tmp 41) 39 36 (.agg #[(.string ⟨#[]⟩), (.string ⟨#[]⟩)]) 32 rfl Tryd.underlying39 info36 rfl (by decide) (by omega) (.slice Ao24 x4_1.length co24) x4_1 (⟨t168, t169⟩ : S36) [.string t168, .string t169] (fun k_ => k_ ≠ gb171) (fun _ => False) rfl (by first | (go_simp; done) | (go_simp; rfl)) ?aP (fun _ hk => hk.elim) ?aF ?aO ?aB ?aS ?aL ?_; (case aP => exact k36_mkM _ _ _ (⟨t168, t169⟩ : S36)); (case aB => exact (by repeat (first | (with_reducible first | exact HB.out | apply zD | apply zB | apply zC | refine zE ?_ GE171.out) | exact HB.out))); (case aF => exact (fun k_ hk => Kd.freshB (g := gb171) (o := .cells #[.string t168, .string t169] 36 (0, 0)) (by (with_reducible repeat (first | refine zF ?_ _ | refine zH ?_ | refine zG ?_ _)); refine zX (cs := #[.string t168, .string (⟨#[]⟩ : ByteArray)]) ?_ 1 _ rfl; (with_reducible repeat (first | refine zF ?_ _ | refine zH ?_ | refine zG ?_ _)); refine zX (cs := #[.string (⟨#[]⟩ : ByteArray), .string (⟨#[]⟩ : ByteArray)]) ?_ 0 _ rfl; (with_reducible repeat (first | refine zF ?_ _ | refine zH ?_ | refine zG ?_ _)); exact BK171.out) k_ hk)); (case aO => exact (by (with_reducible repeat (first | apply zU | apply zV | apply zW)); exact Kd.R_mono (Kd.R_far (p := ⟨gb171, 1, none⟩) (Kd.R_far (p := ⟨gb171, 0, none⟩) (Kd.R_mono HO_4.out (fun k_ hk => (⟨hk, hk.2⟩ : _ ∧ k_ ≠ gb171))) (fun _ hk => hk.2) (.string t168)) (fun _ hk => hk.2) (.string t169)) (fun _ hk => hk.1.2))); (case aS => exact (zK (by repeat (first | (with_reducible first | exact HB.out | apply zD | apply zB | apply zC | refine zE ?_ GE171.out) | exact HB.out)))); (case aL => have := LMc21.out; omega); intro v173 w28 ho hb hg hat; rw [← Ny172.out] at ho; have n0_ := zA (Kd.R_over' (by (with_reducible repeat (first | apply zU | apply zV | apply zW)); exact (Kd.R_mono (Kd.R_far (p := ⟨gb171, 1, none⟩) (Kd.R_far (p := ⟨gb171, 0, none⟩) (Kd.R_types HO166.out BK171.out (by decide)) (fun _ hk => hk.2) (.string t168)) (fun _ hk => hk.2) (.string t169)) (fun _ h_ => h_.1))) (Kd.R_typed (by (with_reducible repeat (first | apply zU | apply zV | apply zW)); exact (Kd.R_mono (Kd.R_far (p := ⟨gb171, 1, none⟩) (Kd.R_far (p := ⟨gb171, 0, none⟩) (Kd.R_mono HO_4.out (fun k_ hk => (⟨hk, hk.2⟩ : _ ∧ k_ ≠ gb171))) (fun _ hk => hk.2) (.string t168)) (fun _ hk => hk.2) (.string t169)) (fun _ h_ => h_.1)))) (by decide) hg); have n1_ := zA (blk_grown (g := gb171) (o := .cells #[.string t168, .string t169] 36 (0, 0)) (by (with_reducible repeat (first | refine zF ?_ _ | refine zH ?_ | refine zG ?_ _)); refine zX (cs := #[.string t168, .string (⟨#[]⟩ : ByteArray)]) ?_ 1 _ rfl; (with_reducible repeat (first | refine zF ?_ _ | refine zH ?_ | refine zG ?_ _)); refine zX (cs := #[.string (⟨#[]⟩ : ByteArray), .string (⟨#[]⟩ : ByteArray)]) ?_ 0 _ rfl; (with_reducible repeat (first | refine zF ?_ _ | refine zH ?_ | refine zG ?_ _)); exact BK171.out) hg (Kd.R_away HO_4.out (fun _ hk => hk.2))); have n2_ := zA (hb); have n3_ := zA (ho); clear HO166; clear BK171; clear HB; clear HO_4; have HO166 := n0_; have BK171 := n1_; have HB := n2_; have HO174 := n3_; clear n0_ n1_ n2_ n3_; clear ho hb hg hat; have p175 : 0 ≤ (0 : Int) := (by omega); have q175 : 0 < (t164.length : Int) := qF (by first | (with_reducible assumption) | assumption); obtain ⟨ad175, e175, hx175_0⟩ := Kd.at_string (Kd.R_reads' HO166.out).2.2 0 p175 q175; obtain rfl : ad167 = ad175 := (by injection e175); have qi175 : (0 < t164.length) = True := eq_true (by omega); (try rw [show ((0 : Int)).toNat = 0 from rfl] at hx175_0); (try rw [Addr.add_zero'] at hx175_0); replace p175 := eq_true p175; replace q175 := eq_true q175))
                        go_roundg kj3
                        case measure => have := HK1.out; have := HJ3.out; omega
                        case rel => exact ⟨(y172), (wrap64 ((wrap64 (x5_1 + ((rdOf ByteArray.empty t164 0).size : Int))) + 1)), (by first | rfl | (simp; done) | (simp [*]; done)), H', ⟨by have := HK1.out; have := HJ3.out; omega⟩, ⟨by (with_reducible repeat (first | apply zU | apply zV | apply zW)); exact Kd.R_mono HO174.out (fun _ hk => trivial)⟩, ⟨by repeat (first | (with_reducible first | exact HB.out | apply zD | apply zB | apply zC | refine zE ?_ GE171.out) | exact HB.out)⟩⟩
                      · rw [if_neg c21] at H
                        exact absurd H (by simp)
                    · replace c20 := Bool.eq_false_iff.mpr c20
                      subst c20
                      have H1 : (some (x4_1, x5_1)) = some (r1, r2) := by rw [if_neg (show ¬ (false = true) by decide)] at H; exact H
                      clear H
                      have H := H1
                      clear H1
                      simp only [Option.some.injEq, Prod.mk.injEq] at H
                      obtain ⟨rfl, rfl⟩ := H
                      go_wp2_with (first | ((with_reducible refine zS (f := 83) rfl ?_); refine qW (some 22) rfl rfl Tryd.func83 (by kernel_rfl) rfl #[.string (a0.extract (x5_1 : Int).toNat a0.size), .int .u8 10] rfl (by (try simp only [List.map_toArray, List.map_cons, List.map_nil]); first | done | rfl | (simp only [qN, qM]; rfl)) ?_; (with_reducible refine (spec_l1Split.calls kj3 (a0.extract (x5_1 : Int).toNat a0.size) 10 t164 _ A10.out).mono ?_); rintro e w29 ⟨v165, rfl, ho0, hb⟩; refine ⟨_, rfl, ?_⟩; have n0_ := zA (Kd.R_below (by (with_reducible repeat (first | apply zU | apply zV | apply zW)); exact HO_4.out) hb); have n1_ := zA (Kd.R_lower ho0 (zK (by repeat (first | (with_reducible first | exact HB.out | apply zD | apply zB | apply zC) | exact HB.out)))); have n2_ := zA (zL (by repeat (first | (with_reducible first | exact HB.out | apply zD | apply zB | apply zC) | exact HB.out)) hb); clear HO_4; clear HB; have HO_4 := n0_; have HO166 := n1_; have HB := n2_; clear n0_ n1_ n2_; (try clear hb); (try clear hb2); (try clear hk); (try clear hi); (try clear ho0); obtain ⟨Ao30, co30, eo30⟩ := Kd.R_slice HO166.out; subst eo30; have p167 : 0 ≤ (0 : Int) := (by omega); have q167 : 0 < (t164.length : Int) := qF (by first | (with_reducible assumption) | assumption); obtain ⟨ad167, e167, hx167_0⟩ := Kd.at_string (Kd.R_reads' HO166.out).2.2 0 p167 q167; cases e167; have qi167 : (0 < t164.length) = True := eq_true (by omega); (try rw [show ((0 : Int)).toNat = 0 from rfl] at hx167_0); (try rw [Addr.add_zero'] at hx167_0); replace p167 := eq_true p167; replace q167 := eq_true q167; obtain ⟨Ao31, co31, eo31⟩ := Kd.R_slice HO_4.out; subst eo31) | ((with_reducible refine zS (f := 84) rfl ?_); refine qW (some 29) rfl rfl Tryd.func84 (by kernel_rfl) rfl #[.string (rdOf ByteArray.empty t164 0), .int .i64 (x4_1.length : Int)] rfl (by (try simp only [List.map_toArray, List.map_cons, List.map_nil]); first | done | rfl | (simp only [qN, qM]; rfl)) ?_; (with_reducible refine (spec_l12Decode.calls kj3 (rdOf ByteArray.empty t164 0) (x4_1.length : Int) t168 t169 false _ A12.out).mono ?_); rintro e w32 ⟨rfl, hb⟩; refine ⟨_, rfl, ?_⟩; have n0_ := zA (Kd.R_below (by (with_reducible repeat (first | apply zU | apply zV | apply zW)); exact HO_4.out) hb); have n1_ := zA (Kd.R_below (by (with_reducible repeat (first | apply zU | apply zV | apply zW)); exact HO166.out) hb); have n2_ := zA (zL (by repeat (first | (with_reducible first | exact HB.out | apply zD | apply zB | apply zC) | exact HB.out)) hb); clear HO_4; clear HO166; clear HB; have HO_4 := n0_; have HO166 := n1_; have HB := n2_; clear n0_ n1_ n2_; (try clear hb); (try clear hb2); (try clear hk); (try clear hi)) | ((with_reducible refine zZ (N := 7) rfl ?_); (try (refine gate_guard (by rfl) ?_; dsimp only)); refine zY ?hg (N := 7) ?hd (cs := #[.string (⟨#[]⟩ : ByteArray), .string (⟨#[]⟩ : ByteArray)]) (t := 36) ?hr ?_; (case hd => rfl); (case hg => rfl); (case hr => first | (go_simp; done) | (go_simp; rfl)); intro gb171 hg w33 hbox hb; have n0_ := zA (Kd.R_below (Kd.R_elderB (by (with_reducible repeat (first | apply zU | apply zV | apply zW)); exact HO_4.out) gb171 (Nat.le_of_eq hg.symm)) hb); have n1_ := zA (Kd.R_below (by (with_reducible repeat (first | apply zU | apply zV | apply zW)); exact HO166.out) hb); have n2_ := zA (zL (by repeat (first | (with_reducible first | exact HB.out | apply zD | apply zB | apply zC) | exact HB.out)) hb); have n3_ := zA (hbox); have n4_ := zA ((by rw [hg]; exact (zK (by repeat (first | (with_reducible first | exact HB.out | apply zD | apply zB | apply zC) | exact HB.out))) : w.heap.size ≤ gb171)); have n5_ := zA ((by rw [hg]; exact (zK (by repeat (first | (with_reducible first | exact HB.out | apply zD | apply zB | apply zC) | exact HB.out))) : w.heap.size ≤ gb171)); clear HO_4; clear HO166; clear HB; have HO_4 := n0_; have HO166 := n1_; have HB := n2_; have BK171 := n3_; have GW171 := n4_; have GE171 := n5_; clear n0_ n1_ n2_ n3_ n4_ n5_; clear hb hbox hg; have hcz34_0 : w33.cell? ⟨gb171, 0, none⟩ = some (.string (⟨#[]⟩ : ByteArray)) := (zJ BK171.out 0).trans rfl; have hcz34_1 : w33.cell? ⟨gb171, 1, none⟩ = some (.string (⟨#[]⟩ : ByteArray)) := (zJ BK171.out 1).trans rfl; have hfz34_0 := zI BK171.out 0; have hfz34_1 := zI BK171.out 1))
                      go_ret2
                      exact ⟨_, by first | rfl | (simp [qH, qI] <;> rfl) | (simp [*, qH, qI] <;> rfl), by (with_reducible repeat (first | apply zU | apply zV | apply zW)); exact Kd.R_mono (Kd.R_far (p := ⟨gb171, 1, none⟩) (Kd.R_far (p := ⟨gb171, 0, none⟩) (Kd.R_mono HO_4.out (fun k_ hk => (⟨hk, hk.2⟩ : _ ∧ k_ ≠ gb171))) (fun _ hk => hk.2) (.string t168)) (fun _ hk => hk.2) (.string t169)) (fun _ hk => trivial), by repeat (first | (with_reducible first | exact HB.out | apply zD | apply zB | apply zC | refine zE ?_ GE171.out) | exact HB.out)⟩
                · rw [if_neg c11] at H
                  exact absurd H (by simp)
              · rw [if_neg c9] at H
                exact absurd H (by simp)
            · rw [if_neg c8] at H
              exact absurd H (by simp)
          · replace c7 := Bool.eq_false_iff.mpr c7
            subst c7
            have H1 : (some (x4_1, x5_1)) = some (r1, r2) := by rw [if_neg (show ¬ (false = true) by decide)] at H; exact H
            clear H
            have H := H1
            clear H1
            simp only [Option.some.injEq, Prod.mk.injEq] at H
            obtain ⟨rfl, rfl⟩ := H
            go_wp2
            go_ret2
            exact ⟨_, by first | rfl | (simp [qH, qI] <;> rfl) | (simp [*, qH, qI] <;> rfl), by (with_reducible repeat (first | apply zU | apply zV | apply zW)); exact HO_4.out, by repeat (first | (with_reducible first | exact HB.out | apply zD | apply zB | apply zC) | exact HB.out)⟩
def spec_l12Valid.f (k : Nat) (a0_0 : ByteArray) (a0_1 : ByteArray) (a0_2 : Int) : Option (Bool) := if a0_0.size + a0_1.size ≤ 9223372036854775807 then (if (a0_0.size + a0_1.size : Int) > 30000 then (some false) else ((spec_l12Open.f k (a0_0 ++ a0_1)).bind fun bt177 => ((spec_l12Open.f k a0_0).bind fun bt181 => (if bt177.2 = (a0_0.size + a0_1.size : Int) then (if bt181.2 = (a0_0.size : Int) then (some ((bt177.1.length : Int) == a0_2)) else (some false)) else (some false))))) else (none)
set_option maxHeartbeats 8000000 in
set_option maxRecDepth 100000 in
theorem spec_l12Valid.calls (k : Nat) (a0_0 : ByteArray) (a0_1 : ByteArray) (a0_2 : Int) (r : Bool) (w : World) (h : spec_l12Valid.f k a0_0 a0_1 a0_2 = some r) :
    Calls Tryd.prog 51 #[.agg #[.string a0_0, .string a0_1, .int .i64 a0_2]] w fun e w' => e = .returned (.bool r) ∧ Below w.heap.size w w' := by
  have hu25 := Tryd.underlying25
  have HB := zA (qO w.heap.size w)
  have H : (if a0_0.size + a0_1.size ≤ 9223372036854775807 then (if (a0_0.size + a0_1.size : Int) > 30000 then (some false) else ((spec_l12Open.f k (a0_0 ++ a0_1)).bind fun bt177 => ((spec_l12Open.f k a0_0).bind fun bt181 => (if bt177.2 = (a0_0.size + a0_1.size : Int) then (if bt181.2 = (a0_0.size : Int) then (some ((bt177.1.length : Int) == a0_2)) else (some false)) else (some false))))) else (none)) = some r := h
  clear h
  by_cases c2 : a0_0.size + a0_1.size ≤ 9223372036854775807
  · rw [if_pos c2] at H
    have c2b0 := eq_true c2
    have c2b1 : decide (a0_0.size + a0_1.size ≤ 9223372036854775807) = true := qE c2
    try have c2b2 : (9223372036854775807 < a0_0.size + a0_1.size) = False := eq_false (Nat.not_lt.2 c2)
    by_cases c3 : (a0_0.size + a0_1.size : Int) > 30000
    · rw [if_pos c3] at H
      have c3b0 : decide (30000 < (a0_0.size + a0_1.size : Int)) = true := qE c3
      have c3b1 : decide (30000 < a0_0.size + a0_1.size) = true := qE (by omega)
      clear c3
      obtain rfl := Option.some.inj H
      go_enter Tryd.func51, Tryd.ntmps51
      go_wp2_with (first | ((with_reducible refine zZ (N := 1) rfl ?_); (try (refine gate_guard (by rfl) ?_; dsimp only)); refine zY ?hg (N := 1) ?hd (cs := #[.string a0_0, .string a0_1, .int .i64 a0_2]) (t := 25) ?hr ?_; (case hd => rfl); (case hg => rfl); (case hr => first | (go_simp; done) | (go_simp; rfl)); intro gb176 hg w4 hbox hb; have n0_ := zA (zL (by repeat (first | (with_reducible first | exact HB.out | apply zD | apply zB | apply zC) | exact HB.out)) hb); have n1_ := zA (hbox); have n2_ := zA ((by rw [hg]; exact (zK (by repeat (first | (with_reducible first | exact HB.out | apply zD | apply zB | apply zC) | exact HB.out))) : w.heap.size ≤ gb176)); have n3_ := zA ((by rw [hg]; exact (zK (by repeat (first | (with_reducible first | exact HB.out | apply zD | apply zB | apply zC) | exact HB.out))) : w.heap.size ≤ gb176)); clear HB; have HB := n0_; have BK176 := n1_; have GW176 := n2_; have GE176 := n3_; clear n0_ n1_ n2_ n3_; clear hb hbox hg; have hcz5_0 : w4.cell? ⟨gb176, 0, none⟩ = some (.string a0_0) := (zJ BK176.out 0).trans rfl; have hcz5_1 : w4.cell? ⟨gb176, 1, none⟩ = some (.string a0_1) := (zJ BK176.out 1).trans rfl; have hcz5_2 : w4.cell? ⟨gb176, 2, none⟩ = some (.int .i64 a0_2) := (zJ BK176.out 2).trans rfl; have hfz5_0 := zI BK176.out 0; have hfz5_1 := zI BK176.out 1; have hfz5_2 := zI BK176.out 2))
      go_ret
      exact ⟨by first | rfl | (simp [qH, qI] <;> rfl) | (simp [*, qH, qI] <;> rfl), by repeat (first | (with_reducible first | exact HB.out | apply zD | apply zB | apply zC | refine zE ?_ GE176.out) | exact HB.out)⟩
    · rw [if_neg c3] at H
      have c3b0 : decide (30000 < (a0_0.size + a0_1.size : Int)) = false := qG c3
      have c3b1 : decide (30000 < a0_0.size + a0_1.size) = false := qG (by omega)
      clear c3
      replace H := Option.bind_eq_some_iff.mp H
      obtain ⟨⟨t177, t178⟩, A60, H⟩ := H
      replace H : ((spec_l12Open.f k a0_0).bind fun bt181 => (if t178 = (a0_0.size + a0_1.size : Int) then (if bt181.2 = (a0_0.size : Int) then (some ((t177.length : Int) == a0_2)) else (some false)) else (some false))) = some r := H
      have A6 := zA A60
      clear A60
      replace H := Option.bind_eq_some_iff.mp H
      obtain ⟨⟨t181, t182⟩, A70, H⟩ := H
      replace H : (if t178 = (a0_0.size + a0_1.size : Int) then (if t182 = (a0_0.size : Int) then (some ((t177.length : Int) == a0_2)) else (some false)) else (some false)) = some r := H
      have A7 := zA A70
      clear A70
      by_cases c8 : t178 = (a0_0.size + a0_1.size : Int)
      · rw [if_pos c8] at H
        have c8b0 : (t178 == (a0_0.size + a0_1.size : Int)) = true := beq_iff_eq.mpr c8
        have c8b1 : (t178 != (a0_0.size + a0_1.size : Int)) = false := bne_eq_false_iff_eq.mpr c8
        clear c8
        by_cases c9 : t182 = (a0_0.size : Int)
        · rw [if_pos c9] at H
          have c9b0 : (t182 == (a0_0.size : Int)) = true := beq_iff_eq.mpr c9
          have c9b1 : (t182 != (a0_0.size : Int)) = false := bne_eq_false_iff_eq.mpr c9
          clear c9
          obtain rfl := Option.some.inj H
          go_enter Tryd.func51, Tryd.ntmps51
          go_wp2_with (first | ((with_reducible refine zZ (N := 1) rfl ?_); (try (refine gate_guard (by rfl) ?_; dsimp only)); refine zY ?hg (N := 1) ?hd (cs := #[.string a0_0, .string a0_1, .int .i64 a0_2]) (t := 25) ?hr ?_; (case hd => rfl); (case hg => rfl); (case hr => first | (go_simp; done) | (go_simp; rfl)); intro gb176 hg w10 hbox hb; have n0_ := zA (zL (by repeat (first | (with_reducible first | exact HB.out | apply zD | apply zB | apply zC) | exact HB.out)) hb); have n1_ := zA (hbox); have n2_ := zA ((by rw [hg]; exact (zK (by repeat (first | (with_reducible first | exact HB.out | apply zD | apply zB | apply zC) | exact HB.out))) : w.heap.size ≤ gb176)); have n3_ := zA ((by rw [hg]; exact (zK (by repeat (first | (with_reducible first | exact HB.out | apply zD | apply zB | apply zC) | exact HB.out))) : w.heap.size ≤ gb176)); clear HB; have HB := n0_; have BK176 := n1_; have GW176 := n2_; have GE176 := n3_; clear n0_ n1_ n2_ n3_; clear hb hbox hg; have hcz11_0 : w10.cell? ⟨gb176, 0, none⟩ = some (.string a0_0) := (zJ BK176.out 0).trans rfl; have hcz11_1 : w10.cell? ⟨gb176, 1, none⟩ = some (.string a0_1) := (zJ BK176.out 1).trans rfl; have hcz11_2 : w10.cell? ⟨gb176, 2, none⟩ = some (.int .i64 a0_2) := (zJ BK176.out 2).trans rfl; have hfz11_0 := zI BK176.out 0; have hfz11_1 := zI BK176.out 1; have hfz11_2 := zI BK176.out 2) | ((with_reducible refine zS (f := 54) rfl ?_); refine qW (some 21) rfl rfl Tryd.func54 (by kernel_rfl) rfl #[.string (a0_0 ++ a0_1)] rfl (by (try simp only [List.map_toArray, List.map_cons, List.map_nil]); first | done | rfl | (simp only [qN, qM]; rfl)) ?_; (with_reducible refine (spec_l12Open.calls k (a0_0 ++ a0_1) t177 t178 _ A6.out).mono ?_); rintro e w12 ⟨v179, rfl, ho0, hb⟩; refine ⟨_, rfl, ?_⟩; have n0_ := zA (Kd.R_lower ho0 (zK (by repeat (first | (with_reducible first | exact HB.out | apply zD | apply zB | apply zC | refine zE ?_ GE176.out) | exact HB.out)))); have n1_ := zA (zR (g := gb176) (o := .cells #[.string a0_0, .string a0_1, .int .i64 a0_2] 25 (0, 0)) (by (with_reducible repeat (first | refine zF ?_ _ | refine zH ?_ | refine zG ?_ _)); exact BK176.out) hb); have n2_ := zA (zL (by repeat (first | (with_reducible first | exact HB.out | apply zD | apply zB | apply zC | refine zE ?_ GE176.out) | exact HB.out)) hb); clear BK176; clear HB; have HO180 := n0_; have BK176 := n1_; have HB := n2_; clear n0_ n1_ n2_; (try clear hb); (try clear hb2); (try clear hk); (try clear hi); (try clear ho0); have hcz13_0 : w12.cell? ⟨gb176, 0, none⟩ = some (.string a0_0) := (zJ BK176.out 0).trans rfl; have hcz13_1 : w12.cell? ⟨gb176, 1, none⟩ = some (.string a0_1) := (zJ BK176.out 1).trans rfl; have hcz13_2 : w12.cell? ⟨gb176, 2, none⟩ = some (.int .i64 a0_2) := (zJ BK176.out 2).trans rfl; have hfz13_0 := zI BK176.out 0; have hfz13_1 := zI BK176.out 1; have hfz13_2 := zI BK176.out 2) | ((with_reducible refine zS (f := 54) rfl ?_); refine qW (some 27) rfl rfl Tryd.func54 (by kernel_rfl) rfl #[.string a0_0] rfl (by (try simp only [List.map_toArray, List.map_cons, List.map_nil]); first | done | rfl | (simp only [qN, qM]; rfl)) ?_; (with_reducible refine (spec_l12Open.calls k a0_0 t181 t182 _ A7.out).mono ?_); rintro e w14 ⟨v183, rfl, ho0, hb⟩; refine ⟨_, rfl, ?_⟩; have n0_ := zA (Kd.R_elder' (by (with_reducible repeat (first | apply zU | apply zV | apply zW)); exact HO180.out) (Kd.R_base ho0) hb); have n1_ := zA (Kd.R_lower (Kd.R_new' ho0 (Kd.R_lt (by (with_reducible repeat (first | apply zU | apply zV | apply zW)); exact HO180.out))) (zK (by repeat (first | (with_reducible first | exact HB.out | apply zD | apply zB | apply zC | refine zE ?_ GE176.out) | exact HB.out)))); have n2_ := zA (zR (g := gb176) (o := .cells #[.string a0_0, .string a0_1, .int .i64 a0_2] 25 (0, 0)) (by (with_reducible repeat (first | refine zF ?_ _ | refine zH ?_ | refine zG ?_ _)); exact BK176.out) hb); have n3_ := zA (zL (by repeat (first | (with_reducible first | exact HB.out | apply zD | apply zB | apply zC | refine zE ?_ GE176.out) | exact HB.out)) hb); clear HO180; clear BK176; clear HB; have HO180 := n0_; have HO184 := n1_; have BK176 := n2_; have HB := n3_; clear n0_ n1_ n2_ n3_; (try clear hb); (try clear hb2); (try clear hk); (try clear hi); (try clear ho0); have hcz15_0 : w14.cell? ⟨gb176, 0, none⟩ = some (.string a0_0) := (zJ BK176.out 0).trans rfl; have hcz15_1 : w14.cell? ⟨gb176, 1, none⟩ = some (.string a0_1) := (zJ BK176.out 1).trans rfl; have hcz15_2 : w14.cell? ⟨gb176, 2, none⟩ = some (.int .i64 a0_2) := (zJ BK176.out 2).trans rfl; have hfz15_0 := zI BK176.out 0; have hfz15_1 := zI BK176.out 1; have hfz15_2 := zI BK176.out 2; obtain ⟨Ao16, co16, eo16⟩ := Kd.R_slice HO180.out; subst eo16))
          go_ret
          exact ⟨by first | rfl | (simp [qH, qI] <;> rfl) | (simp [*, qH, qI] <;> rfl), by repeat (first | (with_reducible first | exact HB.out | apply zD | apply zB | apply zC | refine zE ?_ GE176.out) | exact HB.out)⟩
        · rw [if_neg c9] at H
          have c9b0 : (t182 == (a0_0.size : Int)) = false := beq_eq_false_iff_ne.mpr c9
          have c9b1 : (t182 != (a0_0.size : Int)) = true := bne_iff_ne.mpr c9
          obtain rfl := Option.some.inj H
          go_enter Tryd.func51, Tryd.ntmps51
          go_wp2_with (first | ((with_reducible refine zZ (N := 1) rfl ?_); (try (refine gate_guard (by rfl) ?_; dsimp only)); refine zY ?hg (N := 1) ?hd (cs := #[.string a0_0, .string a0_1, .int .i64 a0_2]) (t := 25) ?hr ?_; (case hd => rfl); (case hg => rfl); (case hr => first | (go_simp; done) | (go_simp; rfl)); intro gb176 hg w17 hbox hb; have n0_ := zA (zL (by repeat (first | (with_reducible first | exact HB.out | apply zD | apply zB | apply zC) | exact HB.out)) hb); have n1_ := zA (hbox); have n2_ := zA ((by rw [hg]; exact (zK (by repeat (first | (with_reducible first | exact HB.out | apply zD | apply zB | apply zC) | exact HB.out))) : w.heap.size ≤ gb176)); have n3_ := zA ((by rw [hg]; exact (zK (by repeat (first | (with_reducible first | exact HB.out | apply zD | apply zB | apply zC) | exact HB.out))) : w.heap.size ≤ gb176)); clear HB; have HB := n0_; have BK176 := n1_; have GW176 := n2_; have GE176 := n3_; clear n0_ n1_ n2_ n3_; clear hb hbox hg; have hcz18_0 : w17.cell? ⟨gb176, 0, none⟩ = some (.string a0_0) := (zJ BK176.out 0).trans rfl; have hcz18_1 : w17.cell? ⟨gb176, 1, none⟩ = some (.string a0_1) := (zJ BK176.out 1).trans rfl; have hcz18_2 : w17.cell? ⟨gb176, 2, none⟩ = some (.int .i64 a0_2) := (zJ BK176.out 2).trans rfl; have hfz18_0 := zI BK176.out 0; have hfz18_1 := zI BK176.out 1; have hfz18_2 := zI BK176.out 2) | ((with_reducible refine zS (f := 54) rfl ?_); refine qW (some 21) rfl rfl Tryd.func54 (by kernel_rfl) rfl #[.string (a0_0 ++ a0_1)] rfl (by (try simp only [List.map_toArray, List.map_cons, List.map_nil]); first | done | rfl | (simp only [qN, qM]; rfl)) ?_; (with_reducible refine (spec_l12Open.calls k (a0_0 ++ a0_1) t177 t178 _ A6.out).mono ?_); rintro e w19 ⟨v179, rfl, ho0, hb⟩; refine ⟨_, rfl, ?_⟩; have n0_ := zA (Kd.R_lower ho0 (zK (by repeat (first | (with_reducible first | exact HB.out | apply zD | apply zB | apply zC | refine zE ?_ GE176.out) | exact HB.out)))); have n1_ := zA (zR (g := gb176) (o := .cells #[.string a0_0, .string a0_1, .int .i64 a0_2] 25 (0, 0)) (by (with_reducible repeat (first | refine zF ?_ _ | refine zH ?_ | refine zG ?_ _)); exact BK176.out) hb); have n2_ := zA (zL (by repeat (first | (with_reducible first | exact HB.out | apply zD | apply zB | apply zC | refine zE ?_ GE176.out) | exact HB.out)) hb); clear BK176; clear HB; have HO180 := n0_; have BK176 := n1_; have HB := n2_; clear n0_ n1_ n2_; (try clear hb); (try clear hb2); (try clear hk); (try clear hi); (try clear ho0); have hcz20_0 : w19.cell? ⟨gb176, 0, none⟩ = some (.string a0_0) := (zJ BK176.out 0).trans rfl; have hcz20_1 : w19.cell? ⟨gb176, 1, none⟩ = some (.string a0_1) := (zJ BK176.out 1).trans rfl; have hcz20_2 : w19.cell? ⟨gb176, 2, none⟩ = some (.int .i64 a0_2) := (zJ BK176.out 2).trans rfl; have hfz20_0 := zI BK176.out 0; have hfz20_1 := zI BK176.out 1; have hfz20_2 := zI BK176.out 2) | ((with_reducible refine zS (f := 54) rfl ?_); refine qW (some 27) rfl rfl Tryd.func54 (by kernel_rfl) rfl #[.string a0_0] rfl (by (try simp only [List.map_toArray, List.map_cons, List.map_nil]); first | done | rfl | (simp only [qN, qM]; rfl)) ?_; (with_reducible refine (spec_l12Open.calls k a0_0 t181 t182 _ A7.out).mono ?_); rintro e w21 ⟨v183, rfl, ho0, hb⟩; refine ⟨_, rfl, ?_⟩; have n0_ := zA (Kd.R_elder' (by (with_reducible repeat (first | apply zU | apply zV | apply zW)); exact HO180.out) (Kd.R_base ho0) hb); have n1_ := zA (Kd.R_lower (Kd.R_new' ho0 (Kd.R_lt (by (with_reducible repeat (first | apply zU | apply zV | apply zW)); exact HO180.out))) (zK (by repeat (first | (with_reducible first | exact HB.out | apply zD | apply zB | apply zC | refine zE ?_ GE176.out) | exact HB.out)))); have n2_ := zA (zR (g := gb176) (o := .cells #[.string a0_0, .string a0_1, .int .i64 a0_2] 25 (0, 0)) (by (with_reducible repeat (first | refine zF ?_ _ | refine zH ?_ | refine zG ?_ _)); exact BK176.out) hb); have n3_ := zA (zL (by repeat (first | (with_reducible first | exact HB.out | apply zD | apply zB | apply zC | refine zE ?_ GE176.out) | exact HB.out)) hb); clear HO180; clear BK176; clear HB; have HO180 := n0_; have HO184 := n1_; have BK176 := n2_; have HB := n3_; clear n0_ n1_ n2_ n3_; (try clear hb); (try clear hb2); (try clear hk); (try clear hi); (try clear ho0); have hcz22_0 : w21.cell? ⟨gb176, 0, none⟩ = some (.string a0_0) := (zJ BK176.out 0).trans rfl; have hcz22_1 : w21.cell? ⟨gb176, 1, none⟩ = some (.string a0_1) := (zJ BK176.out 1).trans rfl; have hcz22_2 : w21.cell? ⟨gb176, 2, none⟩ = some (.int .i64 a0_2) := (zJ BK176.out 2).trans rfl; have hfz22_0 := zI BK176.out 0; have hfz22_1 := zI BK176.out 1; have hfz22_2 := zI BK176.out 2))
          go_ret
          exact ⟨by first | rfl | (simp [qH, qI] <;> rfl) | (simp [*, qH, qI] <;> rfl), by repeat (first | (with_reducible first | exact HB.out | apply zD | apply zB | apply zC | refine zE ?_ GE176.out) | exact HB.out)⟩
      · rw [if_neg c8] at H
        have c8b0 : (t178 == (a0_0.size + a0_1.size : Int)) = false := beq_eq_false_iff_ne.mpr c8
        have c8b1 : (t178 != (a0_0.size + a0_1.size : Int)) = true := bne_iff_ne.mpr c8
        obtain rfl := Option.some.inj H
        go_enter Tryd.func51, Tryd.ntmps51
        go_wp2_with (first | ((with_reducible refine zZ (N := 1) rfl ?_); (try (refine gate_guard (by rfl) ?_; dsimp only)); refine zY ?hg (N := 1) ?hd (cs := #[.string a0_0, .string a0_1, .int .i64 a0_2]) (t := 25) ?hr ?_; (case hd => rfl); (case hg => rfl); (case hr => first | (go_simp; done) | (go_simp; rfl)); intro gb176 hg w23 hbox hb; have n0_ := zA (zL (by repeat (first | (with_reducible first | exact HB.out | apply zD | apply zB | apply zC) | exact HB.out)) hb); have n1_ := zA (hbox); have n2_ := zA ((by rw [hg]; exact (zK (by repeat (first | (with_reducible first | exact HB.out | apply zD | apply zB | apply zC) | exact HB.out))) : w.heap.size ≤ gb176)); have n3_ := zA ((by rw [hg]; exact (zK (by repeat (first | (with_reducible first | exact HB.out | apply zD | apply zB | apply zC) | exact HB.out))) : w.heap.size ≤ gb176)); clear HB; have HB := n0_; have BK176 := n1_; have GW176 := n2_; have GE176 := n3_; clear n0_ n1_ n2_ n3_; clear hb hbox hg; have hcz24_0 : w23.cell? ⟨gb176, 0, none⟩ = some (.string a0_0) := (zJ BK176.out 0).trans rfl; have hcz24_1 : w23.cell? ⟨gb176, 1, none⟩ = some (.string a0_1) := (zJ BK176.out 1).trans rfl; have hcz24_2 : w23.cell? ⟨gb176, 2, none⟩ = some (.int .i64 a0_2) := (zJ BK176.out 2).trans rfl; have hfz24_0 := zI BK176.out 0; have hfz24_1 := zI BK176.out 1; have hfz24_2 := zI BK176.out 2) | ((with_reducible refine zS (f := 54) rfl ?_); refine qW (some 21) rfl rfl Tryd.func54 (by kernel_rfl) rfl #[.string (a0_0 ++ a0_1)] rfl (by (try simp only [List.map_toArray, List.map_cons, List.map_nil]); first | done | rfl | (simp only [qN, qM]; rfl)) ?_; (with_reducible refine (spec_l12Open.calls k (a0_0 ++ a0_1) t177 t178 _ A6.out).mono ?_); rintro e w25 ⟨v179, rfl, ho0, hb⟩; refine ⟨_, rfl, ?_⟩; have n0_ := zA (Kd.R_lower ho0 (zK (by repeat (first | (with_reducible first | exact HB.out | apply zD | apply zB | apply zC | refine zE ?_ GE176.out) | exact HB.out)))); have n1_ := zA (zR (g := gb176) (o := .cells #[.string a0_0, .string a0_1, .int .i64 a0_2] 25 (0, 0)) (by (with_reducible repeat (first | refine zF ?_ _ | refine zH ?_ | refine zG ?_ _)); exact BK176.out) hb); have n2_ := zA (zL (by repeat (first | (with_reducible first | exact HB.out | apply zD | apply zB | apply zC | refine zE ?_ GE176.out) | exact HB.out)) hb); clear BK176; clear HB; have HO180 := n0_; have BK176 := n1_; have HB := n2_; clear n0_ n1_ n2_; (try clear hb); (try clear hb2); (try clear hk); (try clear hi); (try clear ho0); have hcz26_0 : w25.cell? ⟨gb176, 0, none⟩ = some (.string a0_0) := (zJ BK176.out 0).trans rfl; have hcz26_1 : w25.cell? ⟨gb176, 1, none⟩ = some (.string a0_1) := (zJ BK176.out 1).trans rfl; have hcz26_2 : w25.cell? ⟨gb176, 2, none⟩ = some (.int .i64 a0_2) := (zJ BK176.out 2).trans rfl; have hfz26_0 := zI BK176.out 0; have hfz26_1 := zI BK176.out 1; have hfz26_2 := zI BK176.out 2) | ((with_reducible refine zS (f := 54) rfl ?_); refine qW (some 27) rfl rfl Tryd.func54 (by kernel_rfl) rfl #[.string a0_0] rfl (by (try simp only [List.map_toArray, List.map_cons, List.map_nil]); first | done | rfl | (simp only [qN, qM]; rfl)) ?_; (with_reducible refine (spec_l12Open.calls k a0_0 t181 t182 _ A7.out).mono ?_); rintro e w27 ⟨v183, rfl, ho0, hb⟩; refine ⟨_, rfl, ?_⟩; have n0_ := zA (Kd.R_elder' (by (with_reducible repeat (first | apply zU | apply zV | apply zW)); exact HO180.out) (Kd.R_base ho0) hb); have n1_ := zA (Kd.R_lower (Kd.R_new' ho0 (Kd.R_lt (by (with_reducible repeat (first | apply zU | apply zV | apply zW)); exact HO180.out))) (zK (by repeat (first | (with_reducible first | exact HB.out | apply zD | apply zB | apply zC | refine zE ?_ GE176.out) | exact HB.out)))); have n2_ := zA (zR (g := gb176) (o := .cells #[.string a0_0, .string a0_1, .int .i64 a0_2] 25 (0, 0)) (by (with_reducible repeat (first | refine zF ?_ _ | refine zH ?_ | refine zG ?_ _)); exact BK176.out) hb); have n3_ := zA (zL (by repeat (first | (with_reducible first | exact HB.out | apply zD | apply zB | apply zC | refine zE ?_ GE176.out) | exact HB.out)) hb); clear HO180; clear BK176; clear HB; have HO180 := n0_; have HO184 := n1_; have BK176 := n2_; have HB := n3_; clear n0_ n1_ n2_ n3_; (try clear hb); (try clear hb2); (try clear hk); (try clear hi); (try clear ho0); have hcz28_0 : w27.cell? ⟨gb176, 0, none⟩ = some (.string a0_0) := (zJ BK176.out 0).trans rfl; have hcz28_1 : w27.cell? ⟨gb176, 1, none⟩ = some (.string a0_1) := (zJ BK176.out 1).trans rfl; have hcz28_2 : w27.cell? ⟨gb176, 2, none⟩ = some (.int .i64 a0_2) := (zJ BK176.out 2).trans rfl; have hfz28_0 := zI BK176.out 0; have hfz28_1 := zI BK176.out 1; have hfz28_2 := zI BK176.out 2))
        go_ret
        exact ⟨by first | rfl | (simp [qH, qI] <;> rfl) | (simp [*, qH, qI] <;> rfl), by repeat (first | (with_reducible first | exact HB.out | apply zD | apply zB | apply zC | refine zE ?_ GE176.out) | exact HB.out)⟩
  · rw [if_neg c2] at H
    exact absurd H (by simp)
end Go.Proofs.YtnbhbnndfpfikaaDoor.X
