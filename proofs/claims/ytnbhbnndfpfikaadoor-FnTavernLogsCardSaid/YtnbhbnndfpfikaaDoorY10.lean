/- What functions of the program return (each as a Lean function and its contract); written by a program of this session's over the kit's printer. -/
import Derived.Test.YtnbhbnndfpfikaaDoorY0
import Derived.Test.YtnbhbnndfpfikaaDoorY3
import Derived.Test.YtnbhbnndfpfikaaDoorY4
import Derived.Test.YtnbhbnndfpfikaaDoorY6
import Derived.Test.YtnbhbnndfpfikaaDoorY7
import Derived.Test.YtnbhbnndfpfikaaDoorY9
namespace Go.Proofs.YtnbhbnndfpfikaaDoor.X
open Go.RowKit Go.Proofs.YtnbhbnndfpfikaaDoorW.PrintWords Go.Proofs.YtnbhbnndfpfikaaDoorW.PrintLast Go.Proofs.YtnbhbnndfpfikaaDoorW.PrintMore
attribute [local go_sem] max2_int min2_int max_two min_two max_three min_three max_four min_four   -- for this text's walks alone
set_option linter.unusedVariables false
set_option linter.unusedSimpArgs false
def laws_rCut.f (l0 : List Int) (a1 : Int) : Option (List Int) := if a1 > (l0.length : Int) then (if 0 ≤ (l0.length : Int) then (if (l0.length : Int) ≤ (l0.length : Int) then (some (l0.drop ((l0.length : Int) : Int).toNat)) else (none)) else (none)) else (if 0 ≤ a1 then (if a1 ≤ (l0.length : Int) then (some (l0.drop (a1 : Int).toNat)) else (none)) else (none))
set_option maxHeartbeats 8000000 in
set_option maxRecDepth 100000 in
theorem laws_rCut.calls (P0_ : Nat → Prop) (A0 : Option Addr) (c0 : Nat) (l0 : List Int) (a1 : Int) (r : List Int) (w : World) (hs0 : Kd.V (Kd.int .u8) 5 w w.heap.size (fun k_ => P0_ k_) (.slice A0 l0.length c0) l0) (h : laws_rCut.f l0 a1 = some r) :
    Calls Tryd.prog 37 #[.slice A0 l0.length c0, .int .i64 a1] w fun e w' => ∃ v0_ : Value, e = .returned (v0_) ∧ Kd.V (Kd.int .u8) 5 w' w.heap.size (fun k_ => (P0_ k_ ∨ w.heap.size ≤ k_)) v0_ r ∧ Below w.heap.size w w' := by
  have HO0 := zA (show Kd.V (Kd.int .u8) 5 w w.heap.size (fun k_ => (P0_ k_ ∨ w.heap.size ≤ k_)) (.slice A0 l0.length c0) l0 from Kd.V_mono hs0 (fun k_ hk => .inl hk))
  have HB := zA (qO w.heap.size w)
  have H : (if a1 > (l0.length : Int) then (if 0 ≤ (l0.length : Int) then (if (l0.length : Int) ≤ (l0.length : Int) then (some (l0.drop ((l0.length : Int) : Int).toNat)) else (none)) else (none)) else (if 0 ≤ a1 then (if a1 ≤ (l0.length : Int) then (some (l0.drop (a1 : Int).toNat)) else (none)) else (none))) = some r := h
  clear h
  by_cases c3 : a1 > (l0.length : Int)
  · rw [if_pos c3] at H
    have c3b0 : decide ((l0.length : Int) < a1) = true := qE c3
    clear c3
    by_cases c4 : 0 ≤ (l0.length : Int)
    · rw [if_pos c4] at H
      have c4b0 := eq_true c4
      have c4b1 : decide (0 ≤ (l0.length : Int)) = true := qE c4
      clear c4
      by_cases c5 : (l0.length : Int) ≤ (l0.length : Int)
      · rw [if_pos c5] at H
        have c5b0 := eq_true c5
        have c5b1 : decide ((l0.length : Int) ≤ (l0.length : Int)) = true := qE c5
        clear c5
        obtain ⟨y299, hy299⟩ : ∃ y_ : List Int, y_ = (l0.drop ((l0.length : Int) : Int).toNat) := ⟨_, rfl⟩
        replace H : (some y299) = some r := by first | (rw [hy299]; with_reducible exact H) | (have H2_ := (Option.bind_some _ _).symm.trans H; rw [hy299]; with_reducible exact H2_) | (have H2_ := (Option.bind_some _ _).symm.trans H; with_reducible exact H2_) | with_reducible exact H | (rw [hy299]; exact H) | exact H
        have Ny299 := zA hy299
        clear hy299
        obtain rfl := Option.some.inj H
        have q6 : ((l0.length : Int) : Int) ≤ ((l0.length : Int) : Int) := qF (by first | (with_reducible assumption) | assumption)
        obtain ⟨i06, hi06, _, hsz6, _⟩ := info_parts info5
        have hroom6 : l0.length ≤ c0 := (Kd.V_reads' HO0.out).2.1
        have hC6 : Kd.F (Kd.int .u8) _ _ A0 l0.length l0 := (Kd.V_at (base := w.heap.size) HO0.out).2.2
        have q06 : (0 : Int) ≤ ((l0.length : Int) : Int) := qF (by first | (with_reducible assumption) | assumption)
        have hcut6 := cut_from (P := Tryd.prog) 44 5 .i64 Tryd.underlying44 hi06 1 hsz6 A0 l0.length c0 (l0.length : Int) q06 q6
        have hr6 := Kd.F_cut (m := ((l0.length : Int) : Int).toNat) (c := c0) hC6 (by omega) hroom6
        obtain ⟨A6, hA6⟩ : ∃ A1, A1 = (if c0 = ((l0.length : Int) : Int).toNat then A0 else (A0 : Option Addr).map (·.add (((l0.length : Int) : Int).toNat * 1))) := ⟨_, rfl⟩
        obtain ⟨c6, hc6⟩ : ∃ c1, c1 = c0 - ((l0.length : Int) : Int).toNat := ⟨_, rfl⟩
        have hy6 : y299.length = l0.length - ((l0.length : Int) : Int).toNat := (by rw [Ny299.out, qN] <;> omega)
        rw [show (l0).drop ((l0.length : Int) : Int).toNat = y299 from Ny299.out.symm] at hr6
        replace hr6 : Kd.F (Kd.int .u8) _ _ A6 y299.length y299 := (by rw [hA6]; exact hr6)
        rw [← hy6, ← hA6, ← hc6] at hcut6
        have HO303 := zA (show Kd.V (Kd.int .u8) 5 _ w.heap.size _ (.slice A6 y299.length c6) y299 from Kd.V_mk (by rw [hy6, hc6]; exact Nat.sub_le_sub_right hroom6 _) hr6)
        have HC303 := zA (show y299.length ≤ c6 from by rw [hy6, hc6]; exact Nat.sub_le_sub_right hroom6 _)
        clear hr6 hC6 hroom6 hi06 hsz6 hc6
        have KY6 := zA hy6
        have KA6 := zA hA6
        clear hy6 hA6
        replace q6 := eq_true q6
        go_enter Tryd.func37, Tryd.ntmps37
        go_wp2
        go_ret
        exact ⟨_, by first | rfl | (simp [qH, qI] <;> rfl) | (simp [*, qH, qI] <;> rfl), by (with_reducible repeat (first | apply Kd.V_alloc | apply Kd.V_drewN | apply Kd.V_drew)); exact HO303.out, by repeat (first | (with_reducible first | exact HB.out | apply zD | apply zB | apply zC) | exact HB.out)⟩
      · rw [if_neg c5] at H
        exact absurd H (by simp)
    · rw [if_neg c4] at H
      exact absurd H (by simp)
  · rw [if_neg c3] at H
    have c3b0 : decide ((l0.length : Int) < a1) = false := qG c3
    clear c3
    by_cases c7 : 0 ≤ a1
    · rw [if_pos c7] at H
      have c7b0 := eq_true c7
      have c7b1 : decide (0 ≤ a1) = true := qE c7
      clear c7
      by_cases c8 : a1 ≤ (l0.length : Int)
      · rw [if_pos c8] at H
        have c8b0 := eq_true c8
        have c8b1 : decide (a1 ≤ (l0.length : Int)) = true := qE c8
        clear c8
        obtain ⟨y304, hy304⟩ : ∃ y_ : List Int, y_ = (l0.drop (a1 : Int).toNat) := ⟨_, rfl⟩
        replace H : (some y304) = some r := by first | (rw [hy304]; with_reducible exact H) | (have H2_ := (Option.bind_some _ _).symm.trans H; rw [hy304]; with_reducible exact H2_) | (have H2_ := (Option.bind_some _ _).symm.trans H; with_reducible exact H2_) | with_reducible exact H | (rw [hy304]; exact H) | exact H
        have Ny304 := zA hy304
        clear hy304
        obtain rfl := Option.some.inj H
        have q9 : (a1 : Int) ≤ ((l0.length : Int) : Int) := qF (by first | (with_reducible assumption) | assumption)
        obtain ⟨i09, hi09, _, hsz9, _⟩ := info_parts info5
        have hroom9 : l0.length ≤ c0 := (Kd.V_reads' HO0.out).2.1
        have hC9 : Kd.F (Kd.int .u8) _ _ A0 l0.length l0 := (Kd.V_at (base := w.heap.size) HO0.out).2.2
        have q09 : (0 : Int) ≤ (a1 : Int) := qF (by first | (with_reducible assumption) | assumption)
        have hcut9 := cut_from (P := Tryd.prog) 44 5 .i64 Tryd.underlying44 hi09 1 hsz9 A0 l0.length c0 a1 q09 q9
        have hr9 := Kd.F_cut (m := (a1 : Int).toNat) (c := c0) hC9 (by omega) hroom9
        obtain ⟨A9, hA9⟩ : ∃ A1, A1 = (if c0 = (a1 : Int).toNat then A0 else (A0 : Option Addr).map (·.add ((a1 : Int).toNat * 1))) := ⟨_, rfl⟩
        obtain ⟨c9, hc9⟩ : ∃ c1, c1 = c0 - (a1 : Int).toNat := ⟨_, rfl⟩
        have hy9 : y304.length = l0.length - (a1 : Int).toNat := (by rw [Ny304.out, qN] <;> omega)
        rw [show (l0).drop (a1 : Int).toNat = y304 from Ny304.out.symm] at hr9
        replace hr9 : Kd.F (Kd.int .u8) _ _ A9 y304.length y304 := (by rw [hA9]; exact hr9)
        rw [← hy9, ← hA9, ← hc9] at hcut9
        have HO308 := zA (show Kd.V (Kd.int .u8) 5 _ w.heap.size _ (.slice A9 y304.length c9) y304 from Kd.V_mk (by rw [hy9, hc9]; exact Nat.sub_le_sub_right hroom9 _) hr9)
        have HC308 := zA (show y304.length ≤ c9 from by rw [hy9, hc9]; exact Nat.sub_le_sub_right hroom9 _)
        clear hr9 hC9 hroom9 hi09 hsz9 hc9
        have KY9 := zA hy9
        have KA9 := zA hA9
        clear hy9 hA9
        replace q9 := eq_true q9
        go_enter Tryd.func37, Tryd.ntmps37
        go_wp2
        go_ret
        exact ⟨_, by first | rfl | (simp [qH, qI] <;> rfl) | (simp [*, qH, qI] <;> rfl), by (with_reducible repeat (first | apply Kd.V_alloc | apply Kd.V_drewN | apply Kd.V_drew)); exact HO308.out, by repeat (first | (with_reducible first | exact HB.out | apply zD | apply zB | apply zC) | exact HB.out)⟩
      · rw [if_neg c8] at H
        exact absurd H (by simp)
    · rw [if_neg c7] at H
      exact absurd H (by simp)
def spec_EncodeRecord.f (k : Nat) (a0 : Int) (a1_0 : ByteArray) (a1_1 : ByteArray) : Option (ByteArray × Bool) := (spec_l1In.f a0 0 59).bind fun t310 => (if t310 = true then ((spec_l12Record.f k a1_0 a1_1).bind fun t311 => (if t311 = true then ((spec_l12Line.f k a0 a1_0 a1_1).bind fun t312 => (some (t312, true))) else (some ((⟨#[]⟩ : ByteArray), false)))) else (some ((⟨#[]⟩ : ByteArray), false)))
set_option maxHeartbeats 8000000 in
set_option maxRecDepth 100000 in
theorem spec_EncodeRecord.calls (k : Nat) (a0 : Int) (a1_0 : ByteArray) (a1_1 : ByteArray) (r1 : ByteArray) (r2 : Bool) (w : World) (h : spec_EncodeRecord.f k a0 a1_0 a1_1 = some (r1, r2)) :
    Calls Tryd.prog 39 #[.int .i64 a0, .agg #[.string a1_0, .string a1_1]] w fun e w' => e = .returned (.tuple #[.string r1, .bool r2]) ∧ Below w.heap.size w w' := by
  have hu36 := Tryd.underlying36
  have HB := zA (qO w.heap.size w)
  have H : ((spec_l1In.f a0 0 59).bind fun t310 => (if t310 = true then ((spec_l12Record.f k a1_0 a1_1).bind fun t311 => (if t311 = true then ((spec_l12Line.f k a0 a1_0 a1_1).bind fun t312 => (some (t312, true))) else (some ((⟨#[]⟩ : ByteArray), false)))) else (some ((⟨#[]⟩ : ByteArray), false)))) = some (r1, r2) := h
  clear h
  replace H := Option.bind_eq_some_iff.mp H
  obtain ⟨t310, A30, H⟩ := H
  replace H : (if t310 = true then ((spec_l12Record.f k a1_0 a1_1).bind fun t311 => (if t311 = true then ((spec_l12Line.f k a0 a1_0 a1_1).bind fun t312 => (some (t312, true))) else (some ((⟨#[]⟩ : ByteArray), false)))) else (some ((⟨#[]⟩ : ByteArray), false))) = some (r1, r2) := H
  have A3 := zA A30
  clear A30
  by_cases c4 : t310 = true
  · subst c4
    have H1 : ((spec_l12Record.f k a1_0 a1_1).bind fun t311 => (if t311 = true then ((spec_l12Line.f k a0 a1_0 a1_1).bind fun t312 => (some (t312, true))) else (some ((⟨#[]⟩ : ByteArray), false)))) = some (r1, r2) := by rw [if_pos rfl] at H; exact H
    clear H
    have H := H1
    clear H1
    replace H := Option.bind_eq_some_iff.mp H
    obtain ⟨t311, A50, H⟩ := H
    replace H : (if t311 = true then ((spec_l12Line.f k a0 a1_0 a1_1).bind fun t312 => (some (t312, true))) else (some ((⟨#[]⟩ : ByteArray), false))) = some (r1, r2) := H
    have A5 := zA A50
    clear A50
    by_cases c6 : t311 = true
    · subst c6
      have H1 : ((spec_l12Line.f k a0 a1_0 a1_1).bind fun t312 => (some (t312, true))) = some (r1, r2) := by rw [if_pos rfl] at H; exact H
      clear H
      have H := H1
      clear H1
      replace H := Option.bind_eq_some_iff.mp H
      obtain ⟨t312, A70, H⟩ := H
      replace H : (some (t312, true)) = some (r1, r2) := H
      have A7 := zA A70
      clear A70
      simp only [Option.some.injEq, Prod.mk.injEq] at H
      obtain ⟨rfl, rfl⟩ := H
      go_enter Tryd.func39, Tryd.ntmps39
      go_wp2_with (first | ((with_reducible refine zZ (N := 3) rfl ?_); refine zY ?hg (N := 3) ?hd (cs := #[.string a1_0, .string a1_1]) (t := 36) ?hr ?_; (case hd => rfl); (case hg => rfl); (case hr => first | (go_simp; done) | (go_simp; rfl)); intro gb309 hg w8 hbox hb; have n0_ := zA (zL (by repeat (first | (with_reducible first | exact HB.out | apply zD | apply zB | apply zC) | exact HB.out)) hb); have n1_ := zA (hbox); have n2_ := zA ((by rw [hg]; exact (zK (by repeat (first | (with_reducible first | exact HB.out | apply zD | apply zB | apply zC) | exact HB.out))) : w.heap.size ≤ gb309)); have n3_ := zA ((by rw [hg]; exact (zK (by repeat (first | (with_reducible first | exact HB.out | apply zD | apply zB | apply zC) | exact HB.out))) : w.heap.size ≤ gb309)); clear HB; have HB := n0_; have BK309 := n1_; have GW309 := n2_; have GE309 := n3_; clear n0_ n1_ n2_ n3_; clear hb hbox hg) | ((with_reducible refine zS (f := 62) rfl ?_); refine qW (some 7) rfl rfl Tryd.func62 (by kernel_rfl) rfl #[.int .i64 a0, .int .i64 0, .int .i64 59] rfl (by (try simp only [List.map_toArray, List.map_cons, List.map_nil]); first | done | rfl | (simp only [qN, qM]; rfl)) ?_; (with_reducible refine (spec_l1In.calls a0 0 59 true _ A3.out).mono ?_); rintro e w' ⟨rfl, ⟨nd, rfl⟩⟩; refine ⟨_, rfl, ?_⟩; have hcz9_0 : w8.cell? ⟨gb309, 0, none⟩ = some (.string a1_0) := (zJ BK309.out 0).trans rfl; have hcz9_1 : w8.cell? ⟨gb309, 1, none⟩ = some (.string a1_1) := (zJ BK309.out 1).trans rfl; have hfz9_0 := zI BK309.out 0; have hfz9_1 := zI BK309.out 1) | (go_at_call 52; (with_reducible refine (spec_l12Record.calls k a1_0 a1_1 true _ A5.out).mono ?_); rintro e w10 ⟨rfl, hb⟩; have n0_ := zA (zR (g := gb309) (o := .cells #[.string a1_0, .string a1_1] 36 (0, 0)) (by (with_reducible repeat (first | refine zF ?_ _ | refine zH ?_ | refine zG ?_ _)); exact BK309.out) hb); have n1_ := zA (zL (by repeat (first | (with_reducible first | exact HB.out | apply zD | apply zB | apply zC | refine zE ?_ GE309.out) | exact HB.out)) hb); clear BK309; clear HB; have BK309 := n0_; have HB := n1_; clear n0_ n1_; (try clear hb); (try clear hb2); (try clear hk); (try clear hi); have hcz11_0 : w10.cell? ⟨gb309, 0, none⟩ = some (.string a1_0) := (zJ BK309.out 0).trans rfl; have hcz11_1 : w10.cell? ⟨gb309, 1, none⟩ = some (.string a1_1) := (zJ BK309.out 1).trans rfl; have hfz11_0 := zI BK309.out 0; have hfz11_1 := zI BK309.out 1) | ((with_reducible refine zS (f := 53) rfl ?_); refine qW (some 16) rfl rfl Tryd.func53 (by kernel_rfl) rfl #[.int .i64 a0, .agg #[.string a1_0, .string a1_1]] rfl (by (try simp only [List.map_toArray, List.map_cons, List.map_nil]); first | done | rfl | (simp only [qN, qM]; rfl)) ?_; (with_reducible refine (spec_l12Line.calls k a0 a1_0 a1_1 t312 _ A7.out).mono ?_); rintro e w12 ⟨rfl, hb⟩; refine ⟨_, rfl, ?_⟩; have n0_ := zA (zR (g := gb309) (o := .cells #[.string a1_0, .string a1_1] 36 (0, 0)) (by (with_reducible repeat (first | refine zF ?_ _ | refine zH ?_ | refine zG ?_ _)); exact BK309.out) hb); have n1_ := zA (zL (by repeat (first | (with_reducible first | exact HB.out | apply zD | apply zB | apply zC | refine zE ?_ GE309.out) | exact HB.out)) hb); clear BK309; clear HB; have BK309 := n0_; have HB := n1_; clear n0_ n1_; (try clear hb); (try clear hb2); (try clear hk); (try clear hi)))
      go_ret2
      exact ⟨by first | rfl | (simp [qH, qI] <;> rfl) | (simp [*, qH, qI] <;> rfl), by repeat (first | (with_reducible first | exact HB.out | apply zD | apply zB | apply zC | refine zE ?_ GE309.out) | exact HB.out)⟩
    · replace c6 := Bool.eq_false_iff.mpr c6
      subst c6
      have H1 : (some ((⟨#[]⟩ : ByteArray), false)) = some (r1, r2) := by rw [if_neg (show ¬ (false = true) by decide)] at H; exact H
      clear H
      have H := H1
      clear H1
      simp only [Option.some.injEq, Prod.mk.injEq] at H
      obtain ⟨rfl, rfl⟩ := H
      go_enter Tryd.func39, Tryd.ntmps39
      go_wp2_with (first | ((with_reducible refine zZ (N := 3) rfl ?_); refine zY ?hg (N := 3) ?hd (cs := #[.string a1_0, .string a1_1]) (t := 36) ?hr ?_; (case hd => rfl); (case hg => rfl); (case hr => first | (go_simp; done) | (go_simp; rfl)); intro gb309 hg w13 hbox hb; have n0_ := zA (zL (by repeat (first | (with_reducible first | exact HB.out | apply zD | apply zB | apply zC) | exact HB.out)) hb); have n1_ := zA (hbox); have n2_ := zA ((by rw [hg]; exact (zK (by repeat (first | (with_reducible first | exact HB.out | apply zD | apply zB | apply zC) | exact HB.out))) : w.heap.size ≤ gb309)); have n3_ := zA ((by rw [hg]; exact (zK (by repeat (first | (with_reducible first | exact HB.out | apply zD | apply zB | apply zC) | exact HB.out))) : w.heap.size ≤ gb309)); clear HB; have HB := n0_; have BK309 := n1_; have GW309 := n2_; have GE309 := n3_; clear n0_ n1_ n2_ n3_; clear hb hbox hg) | ((with_reducible refine zS (f := 62) rfl ?_); refine qW (some 7) rfl rfl Tryd.func62 (by kernel_rfl) rfl #[.int .i64 a0, .int .i64 0, .int .i64 59] rfl (by (try simp only [List.map_toArray, List.map_cons, List.map_nil]); first | done | rfl | (simp only [qN, qM]; rfl)) ?_; (with_reducible refine (spec_l1In.calls a0 0 59 true _ A3.out).mono ?_); rintro e w' ⟨rfl, ⟨nd, rfl⟩⟩; refine ⟨_, rfl, ?_⟩; have hcz14_0 : w13.cell? ⟨gb309, 0, none⟩ = some (.string a1_0) := (zJ BK309.out 0).trans rfl; have hcz14_1 : w13.cell? ⟨gb309, 1, none⟩ = some (.string a1_1) := (zJ BK309.out 1).trans rfl; have hfz14_0 := zI BK309.out 0; have hfz14_1 := zI BK309.out 1) | (go_at_call 52; (with_reducible refine (spec_l12Record.calls k a1_0 a1_1 false _ A5.out).mono ?_); rintro e w15 ⟨rfl, hb⟩; have n0_ := zA (zR (g := gb309) (o := .cells #[.string a1_0, .string a1_1] 36 (0, 0)) (by (with_reducible repeat (first | refine zF ?_ _ | refine zH ?_ | refine zG ?_ _)); exact BK309.out) hb); have n1_ := zA (zL (by repeat (first | (with_reducible first | exact HB.out | apply zD | apply zB | apply zC | refine zE ?_ GE309.out) | exact HB.out)) hb); clear BK309; clear HB; have BK309 := n0_; have HB := n1_; clear n0_ n1_; (try clear hb); (try clear hb2); (try clear hk); (try clear hi)))
      go_ret2
      exact ⟨by first | rfl | (simp [qH, qI] <;> rfl) | (simp [*, qH, qI] <;> rfl), by repeat (first | (with_reducible first | exact HB.out | apply zD | apply zB | apply zC | refine zE ?_ GE309.out) | exact HB.out)⟩
  · replace c4 := Bool.eq_false_iff.mpr c4
    subst c4
    have H1 : (some ((⟨#[]⟩ : ByteArray), false)) = some (r1, r2) := by rw [if_neg (show ¬ (false = true) by decide)] at H; exact H
    clear H
    have H := H1
    clear H1
    simp only [Option.some.injEq, Prod.mk.injEq] at H
    obtain ⟨rfl, rfl⟩ := H
    go_enter Tryd.func39, Tryd.ntmps39
    go_wp2_with (first | ((with_reducible refine zZ (N := 3) rfl ?_); refine zY ?hg (N := 3) ?hd (cs := #[.string a1_0, .string a1_1]) (t := 36) ?hr ?_; (case hd => rfl); (case hg => rfl); (case hr => first | (go_simp; done) | (go_simp; rfl)); intro gb309 hg w16 hbox hb; have n0_ := zA (zL (by repeat (first | (with_reducible first | exact HB.out | apply zD | apply zB | apply zC) | exact HB.out)) hb); have n1_ := zA (hbox); have n2_ := zA ((by rw [hg]; exact (zK (by repeat (first | (with_reducible first | exact HB.out | apply zD | apply zB | apply zC) | exact HB.out))) : w.heap.size ≤ gb309)); have n3_ := zA ((by rw [hg]; exact (zK (by repeat (first | (with_reducible first | exact HB.out | apply zD | apply zB | apply zC) | exact HB.out))) : w.heap.size ≤ gb309)); clear HB; have HB := n0_; have BK309 := n1_; have GW309 := n2_; have GE309 := n3_; clear n0_ n1_ n2_ n3_; clear hb hbox hg) | ((with_reducible refine zS (f := 62) rfl ?_); refine qW (some 7) rfl rfl Tryd.func62 (by kernel_rfl) rfl #[.int .i64 a0, .int .i64 0, .int .i64 59] rfl (by (try simp only [List.map_toArray, List.map_cons, List.map_nil]); first | done | rfl | (simp only [qN, qM]; rfl)) ?_; (with_reducible refine (spec_l1In.calls a0 0 59 false _ A3.out).mono ?_); rintro e w' ⟨rfl, ⟨nd, rfl⟩⟩; refine ⟨_, rfl, ?_⟩))
    go_ret2
    exact ⟨by first | rfl | (simp [qH, qI] <;> rfl) | (simp [*, qH, qI] <;> rfl), by repeat (first | (with_reducible first | exact HB.out | apply zD | apply zB | apply zC | refine zE ?_ GE309.out) | exact HB.out)⟩
def spec_IsValidRecord.f (k : Nat) (a0_0 : ByteArray) (a0_1 : ByteArray) : Option (Bool) := (spec_l12Record.f k a0_0 a0_1).bind fun t314 => (some t314)
set_option maxHeartbeats 8000000 in
set_option maxRecDepth 100000 in
theorem spec_IsValidRecord.calls (k : Nat) (a0_0 : ByteArray) (a0_1 : ByteArray) (r : Bool) (w : World) (h : spec_IsValidRecord.f k a0_0 a0_1 = some r) :
    Calls Tryd.prog 41 #[.agg #[.string a0_0, .string a0_1]] w fun e w' => e = .returned (.bool r) ∧ Below w.heap.size w w' := by
  have hu36 := Tryd.underlying36
  have HB := zA (qO w.heap.size w)
  have H : ((spec_l12Record.f k a0_0 a0_1).bind fun t314 => (some t314)) = some r := h
  clear h
  replace H := Option.bind_eq_some_iff.mp H
  obtain ⟨t314, A20, H⟩ := H
  replace H : (some t314) = some r := H
  have A2 := zA A20
  clear A20
  obtain rfl := Option.some.inj H
  go_enter Tryd.func41, Tryd.ntmps41
  go_wp2_with (first | ((with_reducible refine zZ (N := 1) rfl ?_); refine zY ?hg (N := 1) ?hd (cs := #[.string a0_0, .string a0_1]) (t := 36) ?hr ?_; (case hd => rfl); (case hg => rfl); (case hr => first | (go_simp; done) | (go_simp; rfl)); intro gb313 hg w3 hbox hb; have n0_ := zA (zL (by repeat (first | (with_reducible first | exact HB.out | apply zD | apply zB | apply zC) | exact HB.out)) hb); have n1_ := zA (hbox); have n2_ := zA ((by rw [hg]; exact (zK (by repeat (first | (with_reducible first | exact HB.out | apply zD | apply zB | apply zC) | exact HB.out))) : w.heap.size ≤ gb313)); have n3_ := zA ((by rw [hg]; exact (zK (by repeat (first | (with_reducible first | exact HB.out | apply zD | apply zB | apply zC) | exact HB.out))) : w.heap.size ≤ gb313)); clear HB; have HB := n0_; have BK313 := n1_; have GW313 := n2_; have GE313 := n3_; clear n0_ n1_ n2_ n3_; clear hb hbox hg; have hcz4_0 : w3.cell? ⟨gb313, 0, none⟩ = some (.string a0_0) := (zJ BK313.out 0).trans rfl; have hcz4_1 : w3.cell? ⟨gb313, 1, none⟩ = some (.string a0_1) := (zJ BK313.out 1).trans rfl; have hfz4_0 := zI BK313.out 0; have hfz4_1 := zI BK313.out 1) | ((with_reducible refine zS (f := 52) rfl ?_); refine qW (some 4) rfl rfl Tryd.func52 (by kernel_rfl) rfl #[.agg #[.string a0_0, .string a0_1]] rfl (by (try simp only [List.map_toArray, List.map_cons, List.map_nil]); first | done | rfl | (simp only [qN, qM]; rfl)) ?_; (with_reducible refine (spec_l12Record.calls k a0_0 a0_1 t314 _ A2.out).mono ?_); rintro e w5 ⟨rfl, hb⟩; refine ⟨_, rfl, ?_⟩; have n0_ := zA (zR (g := gb313) (o := .cells #[.string a0_0, .string a0_1] 36 (0, 0)) (by (with_reducible repeat (first | refine zF ?_ _ | refine zH ?_ | refine zG ?_ _)); exact BK313.out) hb); have n1_ := zA (zL (by repeat (first | (with_reducible first | exact HB.out | apply zD | apply zB | apply zC | refine zE ?_ GE313.out) | exact HB.out)) hb); clear BK313; clear HB; have BK313 := n0_; have HB := n1_; clear n0_ n1_; (try clear hb); (try clear hb2); (try clear hk); (try clear hi)))
  go_ret
  exact ⟨by first | rfl | (simp [qH, qI] <;> rfl) | (simp [*, qH, qI] <;> rfl), by repeat (first | (with_reducible first | exact HB.out | apply zD | apply zB | apply zC | refine zE ?_ GE313.out) | exact HB.out)⟩
def spec_l1Cur_one.f (s0_0 : List Int) (s0_1 : Int) (s0_2 : Int) (a1 : Int) : Option (Bool × Int × Int) := (spec_l1Cur_pick.f s0_0 s0_1 s0_2 a1).bind fun bt315 => (some ((bt315.1 == 0), bt315.2.1, bt315.2.2))
set_option maxHeartbeats 8000000 in
set_option maxRecDepth 100000 in
theorem spec_l1Cur_one.calls (g : Nat) (s0_0 : List Int) (s0_1 : Int) (s0_2 : Int) (a1 : Int) (r1 : Bool) (r2 : Int) (r3 : Int) (w0 w : World) (hI : IsS75 w0 w g s0_0 s0_1 s0_2) (hB : Below w0.heap.size w0 w) (h : spec_l1Cur_one.f s0_0 s0_1 s0_2 a1 = some (r1, r2, r3)) :
    Calls Tryd.prog 64 #[.pointer (some ⟨g, 0, none⟩), .int .i64 a1] w fun e w' => e = .returned (.bool r1) ∧ IsS75 w0 w' g s0_0 r2 r3 ∧ Below w0.heap.size w0 w' ∧ KeepBut w w' g none := by
  have HI0 := zA hI
  have HK := zA (KeepBut.refl w g none)
  have HL := zA hB.size
  clear hI
  have HW0 := zA hB.size
  have HB := zA hB
  clear hB
  have H : ((spec_l1Cur_pick.f s0_0 s0_1 s0_2 a1).bind fun bt315 => (some ((bt315.1 == 0), bt315.2.1, bt315.2.2))) = some (r1, r2, r3) := h
  clear h
  replace H := Option.bind_eq_some_iff.mp H
  obtain ⟨⟨t315, t316, t317⟩, A30, H⟩ := H
  replace H : (some ((t315 == 0), t316, t317)) = some (r1, r2, r3) := H
  have A3 := zA A30
  clear A30
  simp only [Option.some.injEq, Prod.mk.injEq] at H
  obtain ⟨rfl, rfl, rfl⟩ := H
  go_enter Tryd.func64, Tryd.ntmps64
  go_wp2_with (first | ((with_reducible refine zS (f := 59) rfl ?_); refine qW (some 7) rfl rfl Tryd.func59 (by kernel_rfl) rfl #[.pointer (some ⟨g, 0, none⟩), .int .i64 a1] rfl (by (try simp only [List.map_toArray, List.map_cons, List.map_nil]); first | done | rfl | (simp only [qN, qM]; rfl)) ?_; (with_reducible refine (spec_l1Cur_pick.calls g s0_0 s0_1 s0_2 a1 t315 t316 t317 w0 _ ?side1 ?side2 A3.out).mono ?_); (case side1 => repeat (first | (with_reducible first | exact HI0.out | apply jB | apply jA | apply jE | apply jC | apply jD) | exact HI0.out)); (case side2 => repeat (first | (with_reducible first | exact HB.out | apply zD | apply zB | apply zC | refine zE ?_ (jG HI0.out)) | exact HB.out)); rintro e w4 ⟨rfl, hi, hb, hk⟩; refine ⟨_, rfl, ?_⟩; have n0_ := zA (zT (by repeat (first | (with_reducible first | exact HK.out | apply zM | apply zN | apply zP | apply zO) | exact HK.out)) hk (.inl rfl)); have n1_ := zA (hb); have n2_ := zA (hi); clear HK; clear HB; clear HI0; have HK := n0_; have HB := n1_; have HI0 := n2_; clear n0_ n1_ n2_; (try clear hb); (try clear hb2); (try clear hk); (try clear hi)))
  go_ret
  exact ⟨by first | rfl | (simp [qH, qI] <;> rfl) | (simp [*, qH, qI] <;> rfl), by repeat (first | (with_reducible first | exact HI0.out | apply jB | apply jA | apply jE | apply jC | apply jD) | exact HI0.out), by repeat (first | (with_reducible first | exact HB.out | apply zD | apply zB | apply zC | refine zE ?_ (jG HI0.out)) | exact HB.out), by repeat (first | (with_reducible first | exact HK.out | apply zM | apply zN | apply zP | apply zO) | exact HK.out)⟩
def spec_l1Cur_log12.l0 : Nat → Int → List Int → Int → Int → ByteArray → ByteArray → Int → Option (ByteArray × ByteArray × Int × Int × Int)
  | 0, _, _, _, _, _, _, _ => none
  | k + 1, x4, x1000, x1001, x1002, x320000, x320001, x320002 => if x4 > 0 then ((spec_l1Cur_logRecord.f x1000 x1001 x1002).bind fun bt323 => ((spec_AppendRecord.f k x320000 x320001 x320002 bt323.1 bt323.2.1).bind fun bt327 => ((spec_l1Cur_one.f x1000 bt323.2.2.1 bt323.2.2.2 4).bind fun bt331 => (if bt331.1 = true then ((spec_SyncLog.f k bt327.1 bt327.2.1 bt327.2.2.1).bind fun bt334 => (spec_l1Cur_log12.l0 k (wrap64 (x4 - 1)) x1000 bt331.2.1 bt331.2.2 bt334.1 bt334.2.1 bt334.2.2.1)) else (spec_l1Cur_log12.l0 k (wrap64 (x4 - 1)) x1000 bt331.2.1 bt331.2.2 bt327.1 bt327.2.1 bt327.2.2.1))))) else (some (x320000, x320001, x320002, x1001, x1002))
def spec_l1Cur_log12.f (k : Nat) (s0_0 : List Int) (s0_1 : Int) (s0_2 : Int) : Option (ByteArray × ByteArray × Int × Int × Int) := (spec_l1Cur_pick.f s0_0 s0_1 s0_2 7).bind fun bt320 => (spec_l1Cur_log12.l0 k bt320.1 s0_0 bt320.2.1 bt320.2.2 (⟨#[]⟩ : ByteArray) (⟨#[]⟩ : ByteArray) 0)
def spec_l1Cur_log12.T5 : Bool × List (List Nat × List Nat) := (true, [([], []), ([], []), ([1], [1]), ([0, 2, 2], [0, 2]), ([3], [3]), ([4], [4]), ([4], [4]), ([5, 3, 0, 1, 2, 3, 4, 5], [5])])
def spec_l1Cur_log12.B5 : List Nat := [0, 0, 2, 7, 15, 31, 31, 63]
theorem spec_l1Cur_log12.tab5 : rtab .any (opsOf Tryd.f79 5) = spec_l1Cur_log12.T5 := by kernel_rfl
theorem spec_l1Cur_log12.bits5 : waitsOk spec_l1Cur_log12.T5.2 spec_l1Cur_log12.B5 = true := by kernel_rfl
set_option maxHeartbeats 8000000 in
set_option maxRecDepth 100000 in
theorem spec_l1Cur_log12.calls (k : Nat) (g : Nat) (s0_0 : List Int) (s0_1 : Int) (s0_2 : Int) (r1 : ByteArray) (r2 : ByteArray) (r3 : Int) (r4 : Int) (r5 : Int) (w0 w : World) (hI : IsS75 w0 w g s0_0 s0_1 s0_2) (hB : Below w0.heap.size w0 w) (h : spec_l1Cur_log12.f k s0_0 s0_1 s0_2 = some (r1, r2, r3, r4, r5)) :
    Calls Tryd.prog 79 #[.pointer (some ⟨g, 0, none⟩)] w fun e w' => e = .returned (.agg #[.string r1, .string r2, .int .i64 r3]) ∧ IsS75 w0 w' g s0_0 r4 r5 ∧ Below w0.heap.size w0 w' ∧ KeepBut w w' g none := by
  have hu25 := Tryd.underlying25
  have HI0 := zA hI
  have HK := zA (KeepBut.refl w g none)
  have HL := zA hB.size
  clear hI
  have HW0 := zA hB.size
  have HB := zA hB
  clear hB
  have H : ((spec_l1Cur_pick.f s0_0 s0_1 s0_2 7).bind fun bt320 => (spec_l1Cur_log12.l0 k bt320.1 s0_0 bt320.2.1 bt320.2.2 (⟨#[]⟩ : ByteArray) (⟨#[]⟩ : ByteArray) 0)) = some (r1, r2, r3, r4, r5) := h
  clear h
  replace H := Option.bind_eq_some_iff.mp H
  obtain ⟨⟨t320, t321, t322⟩, A20, H⟩ := H
  replace H : (spec_l1Cur_log12.l0 k t320 s0_0 t321 t322 (⟨#[]⟩ : ByteArray) (⟨#[]⟩ : ByteArray) 0) = some (r1, r2, r3, r4, r5) := H
  have A2 := zA A20
  clear A20
  have H' := zA H
  clear H
  go_enter Tryd.func79, Tryd.ntmps79
  go_wp2_with (first | ((with_reducible refine zZ (N := 2) rfl ?_); refine zY ?hg (N := 2) ?hd (cs := #[.string (⟨#[]⟩ : ByteArray), .string (⟨#[]⟩ : ByteArray), .int .i64 0]) (t := 25) ?hr ?_; (case hd => rfl); (case hg => rfl); (case hr => first | (go_simp; done) | (go_simp; rfl)); intro gb318 hg w3 hbox hb; have n0_ := zA (jH (by repeat (first | (with_reducible first | exact HI0.out | apply jB | apply jA | apply jE | apply jC | apply jD) | exact HI0.out)) hb); have n1_ := zA (zT (by repeat (first | (with_reducible first | exact HK.out | apply zM | apply zN | apply zP | apply zO) | exact HK.out)) (qC hb g none) (.inl rfl)); have n2_ := zA (zL (by repeat (first | (with_reducible first | exact HB.out | apply zD | apply zB | apply zC | refine zE ?_ (jG HI0.out)) | exact HB.out)) hb); have n3_ := zA (hbox); have n4_ := zA ((by rw [hg]; exact (qD (w := w) (g := g) (row := none) (by repeat (first | (with_reducible first | exact HK.out | apply zM | apply zN | apply zP | apply zO) | exact HK.out))) : w.heap.size ≤ gb318)); have n5_ := zA ((Nat.le_trans HW0.out (by rw [hg]; exact (qD (w := w) (g := g) (row := none) (by repeat (first | (with_reducible first | exact HK.out | apply zM | apply zN | apply zP | apply zO) | exact HK.out))) : w.heap.size ≤ gb318) : w0.heap.size ≤ gb318)); have n6_ := zA ((by rw [hg]; exact Nat.ne_of_lt (jI (show IsS75 w0 _ g s0_0 s0_1 s0_2 from by repeat (first | (with_reducible first | exact HI0.out | apply jB | apply jA | apply jE | apply jC | apply jD) | exact HI0.out))) : g ≠ gb318)); have n7_ := zA ((by rw [hg]; exact Nat.ne_of_gt (jI (show IsS75 w0 _ g s0_0 s0_1 s0_2 from by repeat (first | (with_reducible first | exact HI0.out | apply jB | apply jA | apply jE | apply jC | apply jD) | exact HI0.out))) : gb318 ≠ g)); clear HI0; clear HK; clear HB; have HI0 := n0_; have HK := n1_; have HB := n2_; have BK318 := n3_; have GW318 := n4_; have GE318 := n5_; have NB0_318 := n6_; have NB318_0 := n7_; clear n0_ n1_ n2_ n3_ n4_ n5_ n6_ n7_; clear hb hbox hg) | ((with_reducible refine zZ (N := 3) rfl ?_); refine zY ?hg (N := 3) ?hd (cs := #[.string (⟨#[]⟩ : ByteArray), .string (⟨#[]⟩ : ByteArray), .int .i64 0]) (t := 25) ?hr ?_; (case hd => rfl); (case hg => rfl); (case hr => first | (go_simp; done) | (go_simp; rfl)); intro gb319 hg w4 hbox hb; have n0_ := zA (jH (by repeat (first | (with_reducible first | exact HI0.out | apply jB | apply jA | apply jE | apply jC | apply jD | refine jF ?_ NB0_318.out _) | exact HI0.out)) hb); have n1_ := zA (zR (g := gb318) (o := .cells #[.string (⟨#[]⟩ : ByteArray), .string (⟨#[]⟩ : ByteArray), .int .i64 0] 25 (0, 0)) (by (with_reducible repeat (first | refine zF ?_ _ | refine zH ?_ | refine zG ?_ _)); exact BK318.out) hb); have n2_ := zA (zT (by repeat (first | (with_reducible first | exact HK.out | apply zM | apply zN | apply zP | apply zO | refine zQ ?_ GW318.out _) | exact HK.out)) (qC hb g none) (.inl rfl)); have n3_ := zA (zL (by repeat (first | (with_reducible first | exact HB.out | apply zD | apply zB | apply zC | refine zE ?_ (jG HI0.out) | refine zE ?_ GE318.out) | exact HB.out)) hb); have n4_ := zA (hbox); have n5_ := zA ((by rw [hg]; exact (qD (w := w) (g := g) (row := none) (by repeat (first | (with_reducible first | exact HK.out | apply zM | apply zN | apply zP | apply zO | refine zQ ?_ GW318.out _) | exact HK.out))) : w.heap.size ≤ gb319)); have n6_ := zA ((Nat.le_trans HW0.out (by rw [hg]; exact (qD (w := w) (g := g) (row := none) (by repeat (first | (with_reducible first | exact HK.out | apply zM | apply zN | apply zP | apply zO | refine zQ ?_ GW318.out _) | exact HK.out))) : w.heap.size ≤ gb319) : w0.heap.size ≤ gb319)); have n7_ := zA ((by rw [hg]; exact Nat.ne_of_lt (blk_lt (g := gb318) (o := .cells #[.string (⟨#[]⟩ : ByteArray), .string (⟨#[]⟩ : ByteArray), .int .i64 0] 25 (0, 0)) (by (with_reducible repeat (first | refine zF ?_ _ | refine zH ?_ | refine zG ?_ _)); exact BK318.out)) : gb318 ≠ gb319)); have n8_ := zA ((by rw [hg]; exact Nat.ne_of_gt (blk_lt (g := gb318) (o := .cells #[.string (⟨#[]⟩ : ByteArray), .string (⟨#[]⟩ : ByteArray), .int .i64 0] 25 (0, 0)) (by (with_reducible repeat (first | refine zF ?_ _ | refine zH ?_ | refine zG ?_ _)); exact BK318.out)) : gb319 ≠ gb318)); have n9_ := zA ((by rw [hg]; exact Nat.ne_of_lt (jI (show IsS75 w0 _ g s0_0 s0_1 s0_2 from by repeat (first | (with_reducible first | exact HI0.out | apply jB | apply jA | apply jE | apply jC | apply jD | refine jF ?_ NB0_318.out _) | exact HI0.out))) : g ≠ gb319)); have n10_ := zA ((by rw [hg]; exact Nat.ne_of_gt (jI (show IsS75 w0 _ g s0_0 s0_1 s0_2 from by repeat (first | (with_reducible first | exact HI0.out | apply jB | apply jA | apply jE | apply jC | apply jD | refine jF ?_ NB0_318.out _) | exact HI0.out))) : gb319 ≠ g)); clear HI0; clear BK318; clear HK; clear HB; have HI0 := n0_; have BK318 := n1_; have HK := n2_; have HB := n3_; have BK319 := n4_; have GW319 := n5_; have GE319 := n6_; have NB318_319 := n7_; have NB319_318 := n8_; have NB0_319 := n9_; have NB319_0 := n10_; clear n0_ n1_ n2_ n3_ n4_ n5_ n6_ n7_ n8_ n9_ n10_; clear hb hbox hg; have hnb5 := NB319_318.out; have hnc5 := NB318_319.out; have hnb6 := NB319_0.out; have hnc6 := NB0_319.out; have hcz7_0 : w4.cell? ⟨gb319, 0, none⟩ = some (.string (⟨#[]⟩ : ByteArray)) := (zJ BK319.out 0).trans rfl; have hcz7_1 : w4.cell? ⟨gb319, 1, none⟩ = some (.string (⟨#[]⟩ : ByteArray)) := (zJ BK319.out 1).trans rfl; have hcz7_2 : w4.cell? ⟨gb319, 2, none⟩ = some (.int .i64 0) := (zJ BK319.out 2).trans rfl; have hfz7_0 := zI BK319.out 0; have hfz7_1 := zI BK319.out 1; have hfz7_2 := zI BK319.out 2) | ((with_reducible refine zS (f := 59) rfl ?_); refine qW (some 7) rfl rfl Tryd.func59 (by kernel_rfl) rfl #[.pointer (some ⟨g, 0, none⟩), .int .i64 7] rfl (by (try simp only [List.map_toArray, List.map_cons, List.map_nil]); first | done | rfl | (simp only [qN, qM]; rfl)) ?_; (with_reducible refine (spec_l1Cur_pick.calls g s0_0 s0_1 s0_2 7 t320 t321 t322 w0 _ ?side1 ?side2 A2.out).mono ?_); (case side1 => repeat (first | (with_reducible first | exact HI0.out | apply jB | apply jA | apply jE | apply jC | apply jD | refine jF ?_ NB0_318.out _ | refine jF ?_ NB0_319.out _) | exact HI0.out)); (case side2 => repeat (first | (with_reducible first | exact HB.out | apply zD | apply zB | apply zC | refine zE ?_ (jG HI0.out) | refine zE ?_ GE318.out | refine zE ?_ GE319.out) | exact HB.out)); rintro e w8 ⟨rfl, hi, hb, hk⟩; refine ⟨_, rfl, ?_⟩; have n0_ := zA (qA hk (g' := gb318) (o := .cells #[.string (⟨#[]⟩ : ByteArray), .string (⟨#[]⟩ : ByteArray), .int .i64 0] 25 (0, 0)) (by (with_reducible repeat (first | refine zF ?_ _ | refine zH ?_ | refine zG ?_ _)); refine blk_far ?_ NB318_319.out _; (with_reducible repeat (first | refine zF ?_ _ | refine zH ?_ | refine zG ?_ _)); refine blk_far ?_ NB318_319.out _; (with_reducible repeat (first | refine zF ?_ _ | refine zH ?_ | refine zG ?_ _)); refine blk_far ?_ NB318_319.out _; (with_reducible repeat (first | refine zF ?_ _ | refine zH ?_ | refine zG ?_ _)); exact BK318.out) NB318_0.out (by simp)); have n1_ := zA (qA hk (g' := gb319) (o := .cells #[.string (⟨#[]⟩ : ByteArray), .string (⟨#[]⟩ : ByteArray), .int .i64 0] 25 (0, 0)) (by (with_reducible repeat (first | refine zF ?_ _ | refine zH ?_ | refine zG ?_ _)); refine zX (cs := #[.string (⟨#[]⟩ : ByteArray), .string (⟨#[]⟩ : ByteArray), .int .i64 0]) ?_ 2 _ rfl; (with_reducible repeat (first | refine zF ?_ _ | refine zH ?_ | refine zG ?_ _)); refine zX (cs := #[.string (⟨#[]⟩ : ByteArray), .string (⟨#[]⟩ : ByteArray), .int .i64 0]) ?_ 1 _ rfl; (with_reducible repeat (first | refine zF ?_ _ | refine zH ?_ | refine zG ?_ _)); refine zX (cs := #[.string (⟨#[]⟩ : ByteArray), .string (⟨#[]⟩ : ByteArray), .int .i64 0]) ?_ 0 _ rfl; (with_reducible repeat (first | refine zF ?_ _ | refine zH ?_ | refine zG ?_ _)); exact BK319.out) NB319_0.out (by simp)); have n2_ := zA (zT (by repeat (first | (with_reducible first | exact HK.out | apply zM | apply zN | apply zP | apply zO | refine zQ ?_ GW318.out _ | refine zQ ?_ GW319.out _) | exact HK.out)) hk (.inl rfl)); have n3_ := zA (hb); have n4_ := zA (hi); clear BK318; clear BK319; clear HK; clear HB; clear HI0; have BK318 := n0_; have BK319 := n1_; have HK := n2_; have HB := n3_; have HI0 := n4_; clear n0_ n1_ n2_ n3_ n4_; (try clear hb); (try clear hb2); (try clear hk); (try clear hi)))
  go_loopg [4] k (fun kq v4 w' => ∃ (x4_1 : Int) (x1001_1 : Int) (x1002_1 : Int) (x320000_1 : ByteArray) (x320001_1 : ByteArray) (x320002_1 : Int), v4 = .int .i64 x4_1 ∧ Aside0 (spec_l1Cur_log12.l0 kq x4_1 s0_0 x1001_1 x1002_1 x320000_1 x320001_1 x320002_1 = some (r1, r2, r3, r4, r5)) ∧ Aside0 (kq ≤ k) ∧ Aside0 (w'.heap[gb318]? = some (.cells #[.string (⟨#[]⟩ : ByteArray), .string (⟨#[]⟩ : ByteArray), .int .i64 0] 25 (0, 0))) ∧ Aside0 (w'.heap[gb319]? = some (.cells #[.string x320000_1, .string x320001_1, .int .i64 x320002_1] 25 (0, 0))) ∧ Aside0 (IsS75 w0 w' g s0_0 x1001_1 x1002_1) ∧ Aside0 (KeepBut w w' g none) ∧ Aside0 (Below w0.heap.size w0 w'))
  case atStart => exact ⟨(t320), (t321), (t322), ((⟨#[]⟩ : ByteArray)), ((⟨#[]⟩ : ByteArray)), (0), (by first | rfl | (simp; done) | (simp [*]; done)), H', ⟨Nat.le_refl _⟩, ⟨by (with_reducible repeat (first | refine zF ?_ _ | refine zH ?_ | refine zG ?_ _)); exact BK318.out⟩, ⟨by (with_reducible repeat (first | refine zF ?_ _ | refine zH ?_ | refine zG ?_ _)); exact BK319.out⟩, ⟨by repeat (first | (with_reducible first | exact HI0.out | apply jB | apply jA | apply jE | apply jC | apply jD | refine jF ?_ NB0_318.out _ | refine jF ?_ NB0_319.out _) | exact HI0.out)⟩, ⟨by repeat (first | (with_reducible first | exact HK.out | apply zM | apply zN | apply zP | apply zO | refine zQ ?_ GW318.out _ | refine zQ ?_ GW319.out _) | exact HK.out)⟩, ⟨by repeat (first | (with_reducible first | exact HB.out | apply zD | apply zB | apply zC | refine zE ?_ (jG HI0.out) | refine zE ?_ GE318.out | refine zE ?_ GE319.out) | exact HB.out)⟩⟩
  case round =>
    clear H'
    try clear p2
    try clear c5
    try clear c6
    try clear c7
    try clear hcz7_0
    try clear hcz7_1
    try clear hcz7_2
    try clear hfz7_0
    try clear hfz7_1
    try clear hfz7_2
    obtain ⟨x4_1, x1001_1, x1002_1, x320000_1, x320001_1, x320002_1, rfl, HA, HK1, BK318, BK319, HI0, HK, HB⟩ := hrel
    cases gk with
    | zero => exact absurd HA.out (by simp [spec_l1Cur_log12.l0])
    | succ k1 =>
      have H := HA.out
      clear HA
      simp only [spec_l1Cur_log12.l0] at H
      by_cases c9 : x4_1 > 0
      · rw [if_pos c9] at H
        have c9b0 : decide (0 < x4_1) = true := qE c9
        clear c9
        replace H := Option.bind_eq_some_iff.mp H
        obtain ⟨⟨t323, t324, t325, t326⟩, A100, H⟩ := H
        replace H : ((spec_AppendRecord.f k1 x320000_1 x320001_1 x320002_1 t323 t324).bind fun bt327 => ((spec_l1Cur_one.f s0_0 t325 t326 4).bind fun bt331 => (if bt331.1 = true then ((spec_SyncLog.f k1 bt327.1 bt327.2.1 bt327.2.2.1).bind fun bt334 => (spec_l1Cur_log12.l0 k1 (wrap64 (x4_1 - 1)) s0_0 bt331.2.1 bt331.2.2 bt334.1 bt334.2.1 bt334.2.2.1)) else (spec_l1Cur_log12.l0 k1 (wrap64 (x4_1 - 1)) s0_0 bt331.2.1 bt331.2.2 bt327.1 bt327.2.1 bt327.2.2.1)))) = some (r1, r2, r3, r4, r5) := H
        have A10 := zA A100
        clear A100
        replace H := Option.bind_eq_some_iff.mp H
        obtain ⟨⟨t327, t328, t329, t330⟩, A110, H⟩ := H
        replace H : ((spec_l1Cur_one.f s0_0 t325 t326 4).bind fun bt331 => (if bt331.1 = true then ((spec_SyncLog.f k1 t327 t328 t329).bind fun bt334 => (spec_l1Cur_log12.l0 k1 (wrap64 (x4_1 - 1)) s0_0 bt331.2.1 bt331.2.2 bt334.1 bt334.2.1 bt334.2.2.1)) else (spec_l1Cur_log12.l0 k1 (wrap64 (x4_1 - 1)) s0_0 bt331.2.1 bt331.2.2 t327 t328 t329))) = some (r1, r2, r3, r4, r5) := H
        have A11 := zA A110
        clear A110
        replace H := Option.bind_eq_some_iff.mp H
        obtain ⟨⟨t331, t332, t333⟩, A120, H⟩ := H
        replace H : (if t331 = true then ((spec_SyncLog.f k1 t327 t328 t329).bind fun bt334 => (spec_l1Cur_log12.l0 k1 (wrap64 (x4_1 - 1)) s0_0 t332 t333 bt334.1 bt334.2.1 bt334.2.2.1)) else (spec_l1Cur_log12.l0 k1 (wrap64 (x4_1 - 1)) s0_0 t332 t333 t327 t328 t329)) = some (r1, r2, r3, r4, r5) := H
        have A12 := zA A120
        clear A120
        by_cases c13 : t331 = true
        · subst c13
          have H1 : ((spec_SyncLog.f k1 t327 t328 t329).bind fun bt334 => (spec_l1Cur_log12.l0 k1 (wrap64 (x4_1 - 1)) s0_0 t332 t333 bt334.1 bt334.2.1 bt334.2.2.1)) = some (r1, r2, r3, r4, r5) := by rw [if_pos rfl] at H; exact H
          clear H
          have H := H1
          clear H1
          replace H := Option.bind_eq_some_iff.mp H
          obtain ⟨⟨t334, t335, t336, t337⟩, A140, H⟩ := H
          replace H : (spec_l1Cur_log12.l0 k1 (wrap64 (x4_1 - 1)) s0_0 t332 t333 t334 t335 t336) = some (r1, r2, r3, r4, r5) := H
          have A14 := zA A140
          clear A140
          have H' := zA H
          clear H
          try go_wp2
          have n0_ := zA (zH BK318.out)
          have n1_ := zA (zH BK319.out)
          have n2_ := zA (jE HI0.out)
          have n3_ := zA (zP HK.out)
          have n4_ := zA (zC HB.out)
          clear BK318
          clear BK319
          clear HI0
          clear HK
          clear HB
          have BK318 := n0_
          have BK319 := n1_
          have HI0 := n2_
          have HK := n3_
          have HB := n4_
          clear n0_ n1_ n2_ n3_ n4_
          refine start_ (n := 8) (S := fun w' => w'.cell? ⟨gb319, 0, none⟩ = some (.string x320000_1) ∧ w'.cell? ⟨gb319, 1, none⟩ = some (.string x320001_1) ∧ w'.cell? ⟨gb319, 2, none⟩ = some (.int .i64 x320002_1)) (ds := [7]) #[false, false, false, false, false, false, false, false] (by kernel_rfl) rfl rfl ⟨(zJ BK319.out 0).trans rfl, (zJ BK319.out 1).trans rfl, (zJ BK319.out 2).trans rfl⟩ (fun hHeld => ?_); refine with_tabW spec_l1Cur_log12.tab5 spec_l1Cur_log12.bits5 (fun HT_ HW_ => ?_)
          generalize wr.drew = w15 at BK318 BK319 HI0 HK HB hHeld ⊢
          refine pure_ (i := 1) (N := some 14) (v := ?_) (a' := ?_) #[false, true, false, false, false, false, false, false] rfl rfl (any_of HT_.out (by kernel_rfl)) (fun _ _ _ h => h) (Or.inl ⟨by rfl, ?_⟩) ?_ ?_
          rotate_left
          · intro w'
            go_simp
            with_reducible rfl
          rotate_left
          · simp only [Act.put, qJ, qK, qL, i64_w, i32_w]
            rfl
          refine take_ (i := 0) (N := some 13) (v := ?_) (a' := ?_) #[true, true, false, false, false, false, false, false] rfl rfl (take_ofW HT_.out HW_.out (by kernel_rfl)) (fun _ _ _ h => h) (Or.inl ⟨by rfl, ?_⟩) hHeld ?_ ?_
          rotate_left
          · rintro w' ⟨s0, s1, s2⟩
            go_simp
            with_reducible rfl
          rotate_left
          · simp only [Act.put, qJ, qK, qL, i64_w, i32_w]
            rfl
          refine one_ (i := 2) (N := some 15) #[true, true, true, false, false, false, false, false] rfl rfl (one_of HT_.out (by kernel_rfl)) (by decide) (fun K hK => ?_)
          refine goes_ Tryd.func74 (by kernel_rfl) rfl #[.pointer (some ⟨g, 0, none⟩)] (by rfl) rfl rfl (by (try simp only [List.map_toArray, List.map_cons, List.map_nil]); first | done | rfl | (simp only [qN, qM]; rfl)) ?_
          with_reducible refine (spec_l1Cur_logRecord.calls g s0_0 x1001_1 x1002_1 t323 t324 t325 t326 w0 _ ?side1 ?side2 A10.out).mono ?_
          (case side1 => repeat (first | (with_reducible first | exact HI0.out | apply jB | apply jA | apply jE | apply jC | apply jD | refine jF ?_ NB0_318.out _ | refine jF ?_ NB0_319.out _) | exact HI0.out))
          (case side2 => repeat (first | (with_reducible first | exact HB.out | apply zD | apply zB | apply zC | refine zE ?_ (jG HI0.out) | refine zE ?_ GE318.out | refine zE ?_ GE319.out) | exact HB.out))
          rintro e w16 ⟨rfl, hi, hb, hk⟩
          refine ⟨_, rfl, ?_⟩
          have n0_ := zA (qA hk (g' := gb318) (o := .cells #[.string (⟨#[]⟩ : ByteArray), .string (⟨#[]⟩ : ByteArray), .int .i64 0] 25 (0, 0)) (by (with_reducible repeat (first | refine zF ?_ _ | refine zH ?_ | refine zG ?_ _)); exact BK318.out) NB318_0.out (by simp))
          have n1_ := zA (qA hk (g' := gb319) (o := .cells #[.string x320000_1, .string x320001_1, .int .i64 x320002_1] 25 (0, 0)) (by (with_reducible repeat (first | refine zF ?_ _ | refine zH ?_ | refine zG ?_ _)); exact BK319.out) NB319_0.out (by simp))
          have n2_ := zA (zT (by repeat (first | (with_reducible first | exact HK.out | apply zM | apply zN | apply zP | apply zO | refine zQ ?_ GW318.out _ | refine zQ ?_ GW319.out _) | exact HK.out)) hk (.inl rfl))
          have n3_ := zA (hb)
          have n4_ := zA (hi)
          clear BK318
          clear BK319
          clear HK
          clear HB
          clear HI0
          have BK318 := n0_
          have BK319 := n1_
          have HK := n2_
          have HB := n3_
          have HI0 := n4_
          clear n0_ n1_ n2_ n3_ n4_
          (try clear hb)
          (try clear hb2)
          (try clear hk)
          (try clear hi)
          refine hK.out _ _ ⟨(zJ BK319.out 0).trans rfl, (zJ BK319.out 1).trans rfl, (zJ BK319.out 2).trans rfl⟩ (fun hHeld => ?_)
          clear hK K
          refine norm_ (a' := ?_) ?_ ?_
          rotate_left
          · show Act.put _ (some 15) _ = _
            simp only [Act.put, qJ, qK, qL, i64_w, i32_w]
            rfl
          refine one_ (i := 3) (N := some 16) #[true, true, true, true, false, false, false, false] rfl rfl (one_of HT_.out (by kernel_rfl)) (by decide) (fun K hK => ?_)
          refine goes_ Tryd.func14 (by kernel_rfl) rfl #[.agg #[.string x320000_1, .string x320001_1, .int .i64 x320002_1], .agg #[.string t323, .string t324]] (by rfl) rfl rfl (by (try simp only [List.map_toArray, List.map_cons, List.map_nil]); first | done | rfl | (simp only [qN, qM]; rfl)) ?_
          with_reducible refine (spec_AppendRecord.calls k1 x320000_1 x320001_1 x320002_1 t323 t324 t327 t328 t329 t330 _ A11.out).mono ?_
          rintro e w17 ⟨rfl, hb⟩
          refine ⟨_, rfl, ?_⟩
          have n0_ := zA (zR (g := gb318) (o := .cells #[.string (⟨#[]⟩ : ByteArray), .string (⟨#[]⟩ : ByteArray), .int .i64 0] 25 (0, 0)) (by (with_reducible repeat (first | refine zF ?_ _ | refine zH ?_ | refine zG ?_ _)); exact BK318.out) hb)
          have n1_ := zA (zR (g := gb319) (o := .cells #[.string x320000_1, .string x320001_1, .int .i64 x320002_1] 25 (0, 0)) (by (with_reducible repeat (first | refine zF ?_ _ | refine zH ?_ | refine zG ?_ _)); exact BK319.out) hb)
          have n2_ := zA (jH (by repeat (first | (with_reducible first | exact HI0.out | apply jB | apply jA | apply jE | apply jC | apply jD | refine jF ?_ NB0_318.out _ | refine jF ?_ NB0_319.out _) | exact HI0.out)) hb)
          have n3_ := zA (zT (by repeat (first | (with_reducible first | exact HK.out | apply zM | apply zN | apply zP | apply zO | refine zQ ?_ GW318.out _ | refine zQ ?_ GW319.out _) | exact HK.out)) (qC hb g none) (.inl rfl))
          have n4_ := zA (zL (by repeat (first | (with_reducible first | exact HB.out | apply zD | apply zB | apply zC | refine zE ?_ (jG HI0.out) | refine zE ?_ GE318.out | refine zE ?_ GE319.out) | exact HB.out)) hb)
          clear BK318
          clear BK319
          clear HI0
          clear HK
          clear HB
          have BK318 := n0_
          have BK319 := n1_
          have HI0 := n2_
          have HK := n3_
          have HB := n4_
          clear n0_ n1_ n2_ n3_ n4_
          (try clear hb)
          (try clear hb2)
          (try clear hk)
          (try clear hi)
          refine hK.out _ _ ⟨(zJ BK319.out 0).trans rfl, (zJ BK319.out 1).trans rfl, (zJ BK319.out 2).trans rfl⟩ (fun hHeld => ?_)
          clear hK K
          refine norm_ (a' := ?_) ?_ ?_
          rotate_left
          · show Act.put _ (some 16) _ = _
            simp only [Act.put, qJ, qK, qL, i64_w, i32_w]
            rfl
          refine pure_ (i := 4) (N := some 12) (v := ?_) (a' := ?_) #[true, true, true, true, true, false, false, false] rfl rfl (any_of HT_.out (by kernel_rfl)) (fun _ _ _ h => h) (Or.inl ⟨by rfl, ?_⟩) ?_ ?_
          rotate_left
          · intro w'
            go_simp
            with_reducible rfl
          rotate_left
          · simp only [Act.put, qJ, qK, qL, i64_w, i32_w]
            rfl
          refine pure_ (i := 5) (N := some 17) (v := ?_) (a' := ?_) #[true, true, true, true, true, true, false, false] rfl rfl (any_of HT_.out (by kernel_rfl)) (fun _ _ _ h => h) (Or.inl ⟨by rfl, ?_⟩) ?_ ?_
          rotate_left
          · intro w'
            go_simp
            with_reducible rfl
          rotate_left
          · simp only [Act.put, qJ, qK, qL, i64_w, i32_w]
            rfl
          refine pure_ (i := 6) (N := some 18) (v := ?_) (a' := ?_) #[true, true, true, true, true, true, true, false] rfl rfl (any_of HT_.out (by kernel_rfl)) (fun _ _ _ h => h) (Or.inl ⟨by rfl, ?_⟩) ?_ ?_
          rotate_left
          · intro w'
            go_simp
            with_reducible rfl
          rotate_left
          · simp only [Act.put, qJ, qK, qL, i64_w, i32_w]
            rfl
          refine last_ (i := 7) (N := none) #[true, true, true, true, true, true, true, true] rfl rfl (one_of HT_.out (by kernel_rfl)) (by decide) (fun K hK => ?_)
          have hs18 : w17.cell? ⟨gb319, 0, none⟩ = some (.string x320000_1) := (zJ BK319.out 0).trans rfl
          have hfs18 := zI BK319.out 0
          have hns18_0 := NB318_319.out
          have hms18_0 := NB319_318.out
          have hs19 : w17.cell? ⟨gb319, 1, none⟩ = some (.string x320001_1) := (zJ BK319.out 1).trans rfl
          have hfs19 := zI BK319.out 1
          have hns19_0 := NB318_319.out
          have hms19_0 := NB319_318.out
          have hs20 : w17.cell? ⟨gb319, 2, none⟩ = some (.int .i64 x320002_1) := (zJ BK319.out 2).trans rfl
          have hfs20 := zI BK319.out 2
          have hns20_0 := NB318_319.out
          have hms20_0 := NB319_318.out
          refine skip_ (w1 := ?_) (by rfl) rfl ?_ ?_
          rotate_left
          · go_simp
            rfl
          refine hK.out _ _ ?_
          clear hK K
          refine done_ (done_of HT_.out (by kernel_rfl)) ?_
          try go_wp2_with (first | ((with_reducible refine zS (f := 64) rfl ?_); refine qW (some 20) rfl rfl Tryd.func64 (by kernel_rfl) rfl #[.pointer (some ⟨g, 0, none⟩), .int .i64 4] rfl (by (try simp only [List.map_toArray, List.map_cons, List.map_nil]); first | done | rfl | (simp only [qN, qM]; rfl)) ?_; (with_reducible refine (spec_l1Cur_one.calls g s0_0 t325 t326 4 true t332 t333 w0 _ ?side1 ?side2 A12.out).mono ?_); (case side1 => repeat (first | (with_reducible first | exact HI0.out | apply jB | apply jA | apply jE | apply jC | apply jD | refine jF ?_ NB0_318.out _ | refine jF ?_ NB0_319.out _) | exact HI0.out)); (case side2 => repeat (first | (with_reducible first | exact HB.out | apply zD | apply zB | apply zC | refine zE ?_ (jG HI0.out) | refine zE ?_ GE318.out | refine zE ?_ GE319.out) | exact HB.out)); rintro e w21 ⟨rfl, hi, hb, hk⟩; refine ⟨_, rfl, ?_⟩; have n0_ := zA (qA hk (g' := gb318) (o := .cells #[.string (⟨#[]⟩ : ByteArray), .string (⟨#[]⟩ : ByteArray), .int .i64 0] 25 (0, 0)) (by (with_reducible repeat (first | refine zF ?_ _ | refine zH ?_ | refine zG ?_ _)); refine blk_far ?_ NB318_319.out _; (with_reducible repeat (first | refine zF ?_ _ | refine zH ?_ | refine zG ?_ _)); refine blk_far ?_ NB318_319.out _; (with_reducible repeat (first | refine zF ?_ _ | refine zH ?_ | refine zG ?_ _)); refine blk_far ?_ NB318_319.out _; (with_reducible repeat (first | refine zF ?_ _ | refine zH ?_ | refine zG ?_ _)); exact BK318.out) NB318_0.out (by simp)); have n1_ := zA (qA hk (g' := gb319) (o := .cells #[.string t327, .string t328, .int .i64 t329] 25 (0, 0)) (by (with_reducible repeat (first | refine zF ?_ _ | refine zH ?_ | refine zG ?_ _)); refine zX (cs := #[.string t327, .string t328, .int .i64 x320002_1]) ?_ 2 _ rfl; (with_reducible repeat (first | refine zF ?_ _ | refine zH ?_ | refine zG ?_ _)); refine zX (cs := #[.string t327, .string x320001_1, .int .i64 x320002_1]) ?_ 1 _ rfl; (with_reducible repeat (first | refine zF ?_ _ | refine zH ?_ | refine zG ?_ _)); refine zX (cs := #[.string x320000_1, .string x320001_1, .int .i64 x320002_1]) ?_ 0 _ rfl; (with_reducible repeat (first | refine zF ?_ _ | refine zH ?_ | refine zG ?_ _)); exact BK319.out) NB319_0.out (by simp)); have n2_ := zA (zT (by repeat (first | (with_reducible first | exact HK.out | apply zM | apply zN | apply zP | apply zO | refine zQ ?_ GW318.out _ | refine zQ ?_ GW319.out _) | exact HK.out)) hk (.inl rfl)); have n3_ := zA (hb); have n4_ := zA (hi); clear BK318; clear BK319; clear HK; clear HB; clear HI0; have BK318 := n0_; have BK319 := n1_; have HK := n2_; have HB := n3_; have HI0 := n4_; clear n0_ n1_ n2_ n3_ n4_; (try clear hb); (try clear hb2); (try clear hk); (try clear hi); have hnb22 := NB319_318.out; have hnc22 := NB318_319.out; have hnb23 := NB319_0.out; have hnc23 := NB0_319.out; have hcz24_0 : w21.cell? ⟨gb319, 0, none⟩ = some (.string t327) := (zJ BK319.out 0).trans rfl; have hcz24_1 : w21.cell? ⟨gb319, 1, none⟩ = some (.string t328) := (zJ BK319.out 1).trans rfl; have hcz24_2 : w21.cell? ⟨gb319, 2, none⟩ = some (.int .i64 t329) := (zJ BK319.out 2).trans rfl; have hfz24_0 := zI BK319.out 0; have hfz24_1 := zI BK319.out 1; have hfz24_2 := zI BK319.out 2) | ((with_reducible refine zS (f := 9) rfl ?_); refine qW (some 23) rfl rfl Tryd.func9 (by kernel_rfl) rfl #[.agg #[.string t327, .string t328, .int .i64 t329]] rfl (by (try simp only [List.map_toArray, List.map_cons, List.map_nil]); first | done | rfl | (simp only [qN, qM]; rfl)) ?_; (with_reducible refine (spec_SyncLog.calls k1 t327 t328 t329 t334 t335 t336 t337 _ A14.out).mono ?_); rintro e w25 ⟨rfl, hb⟩; refine ⟨_, rfl, ?_⟩; have n0_ := zA (zR (g := gb318) (o := .cells #[.string (⟨#[]⟩ : ByteArray), .string (⟨#[]⟩ : ByteArray), .int .i64 0] 25 (0, 0)) (by (with_reducible repeat (first | refine zF ?_ _ | refine zH ?_ | refine zG ?_ _)); exact BK318.out) hb); have n1_ := zA (zR (g := gb319) (o := .cells #[.string t327, .string t328, .int .i64 t329] 25 (0, 0)) (by (with_reducible repeat (first | refine zF ?_ _ | refine zH ?_ | refine zG ?_ _)); exact BK319.out) hb); have n2_ := zA (jH (by repeat (first | (with_reducible first | exact HI0.out | apply jB | apply jA | apply jE | apply jC | apply jD | refine jF ?_ NB0_318.out _ | refine jF ?_ NB0_319.out _) | exact HI0.out)) hb); have n3_ := zA (zT (by repeat (first | (with_reducible first | exact HK.out | apply zM | apply zN | apply zP | apply zO | refine zQ ?_ GW318.out _ | refine zQ ?_ GW319.out _) | exact HK.out)) (qC hb g none) (.inl rfl)); have n4_ := zA (zL (by repeat (first | (with_reducible first | exact HB.out | apply zD | apply zB | apply zC | refine zE ?_ (jG HI0.out) | refine zE ?_ GE318.out | refine zE ?_ GE319.out) | exact HB.out)) hb); clear BK318; clear BK319; clear HI0; clear HK; clear HB; have BK318 := n0_; have BK319 := n1_; have HI0 := n2_; have HK := n3_; have HB := n4_; clear n0_ n1_ n2_ n3_ n4_; (try clear hb); (try clear hb2); (try clear hk); (try clear hi); have hcz26_0 : w25.cell? ⟨gb319, 0, none⟩ = some (.string t327) := (zJ BK319.out 0).trans rfl; have hcz26_1 : w25.cell? ⟨gb319, 1, none⟩ = some (.string t328) := (zJ BK319.out 1).trans rfl; have hcz26_2 : w25.cell? ⟨gb319, 2, none⟩ = some (.int .i64 t329) := (zJ BK319.out 2).trans rfl; have hfz26_0 := zI BK319.out 0; have hfz26_1 := zI BK319.out 1; have hfz26_2 := zI BK319.out 2))
          go_roundg k1
          case measure => have := HK1.out; omega
          case rel => exact ⟨(wrap64 (x4_1 - 1)), (t332), (t333), (t334), (t335), (t336), (by first | rfl | (simp; done) | (simp [*]; done)), H', ⟨by have := HK1.out; omega⟩, ⟨by (with_reducible repeat (first | refine zF ?_ _ | refine zH ?_ | refine zG ?_ _)); refine blk_far ?_ NB318_319.out _; (with_reducible repeat (first | refine zF ?_ _ | refine zH ?_ | refine zG ?_ _)); refine blk_far ?_ NB318_319.out _; (with_reducible repeat (first | refine zF ?_ _ | refine zH ?_ | refine zG ?_ _)); refine blk_far ?_ NB318_319.out _; (with_reducible repeat (first | refine zF ?_ _ | refine zH ?_ | refine zG ?_ _)); exact BK318.out⟩, ⟨by (with_reducible repeat (first | refine zF ?_ _ | refine zH ?_ | refine zG ?_ _)); refine zX (cs := #[.string t334, .string t335, .int .i64 t329]) ?_ 2 _ rfl; (with_reducible repeat (first | refine zF ?_ _ | refine zH ?_ | refine zG ?_ _)); refine zX (cs := #[.string t334, .string t328, .int .i64 t329]) ?_ 1 _ rfl; (with_reducible repeat (first | refine zF ?_ _ | refine zH ?_ | refine zG ?_ _)); refine zX (cs := #[.string t327, .string t328, .int .i64 t329]) ?_ 0 _ rfl; (with_reducible repeat (first | refine zF ?_ _ | refine zH ?_ | refine zG ?_ _)); exact BK319.out⟩, ⟨by repeat (first | (with_reducible first | exact HI0.out | apply jB | apply jA | apply jE | apply jC | apply jD | refine jF ?_ NB0_318.out _ | refine jF ?_ NB0_319.out _) | exact HI0.out)⟩, ⟨by repeat (first | (with_reducible first | exact HK.out | apply zM | apply zN | apply zP | apply zO | refine zQ ?_ GW318.out _ | refine zQ ?_ GW319.out _) | exact HK.out)⟩, ⟨by repeat (first | (with_reducible first | exact HB.out | apply zD | apply zB | apply zC | refine zE ?_ (jG HI0.out) | refine zE ?_ GE318.out | refine zE ?_ GE319.out) | exact HB.out)⟩⟩
        · replace c13 := Bool.eq_false_iff.mpr c13
          subst c13
          have H1 : (spec_l1Cur_log12.l0 k1 (wrap64 (x4_1 - 1)) s0_0 t332 t333 t327 t328 t329) = some (r1, r2, r3, r4, r5) := by rw [if_neg (show ¬ (false = true) by decide)] at H; exact H
          clear H
          have H := H1
          clear H1
          have H' := zA H
          clear H
          try go_wp2
          have n0_ := zA (zH BK318.out)
          have n1_ := zA (zH BK319.out)
          have n2_ := zA (jE HI0.out)
          have n3_ := zA (zP HK.out)
          have n4_ := zA (zC HB.out)
          clear BK318
          clear BK319
          clear HI0
          clear HK
          clear HB
          have BK318 := n0_
          have BK319 := n1_
          have HI0 := n2_
          have HK := n3_
          have HB := n4_
          clear n0_ n1_ n2_ n3_ n4_
          refine start_ (n := 8) (S := fun w' => w'.cell? ⟨gb319, 0, none⟩ = some (.string x320000_1) ∧ w'.cell? ⟨gb319, 1, none⟩ = some (.string x320001_1) ∧ w'.cell? ⟨gb319, 2, none⟩ = some (.int .i64 x320002_1)) (ds := [7]) #[false, false, false, false, false, false, false, false] (by kernel_rfl) rfl rfl ⟨(zJ BK319.out 0).trans rfl, (zJ BK319.out 1).trans rfl, (zJ BK319.out 2).trans rfl⟩ (fun hHeld => ?_); refine with_tabW spec_l1Cur_log12.tab5 spec_l1Cur_log12.bits5 (fun HT_ HW_ => ?_)
          generalize wr.drew = w27 at BK318 BK319 HI0 HK HB hHeld ⊢
          refine pure_ (i := 1) (N := some 14) (v := ?_) (a' := ?_) #[false, true, false, false, false, false, false, false] rfl rfl (any_of HT_.out (by kernel_rfl)) (fun _ _ _ h => h) (Or.inl ⟨by rfl, ?_⟩) ?_ ?_
          rotate_left
          · intro w'
            go_simp
            with_reducible rfl
          rotate_left
          · simp only [Act.put, qJ, qK, qL, i64_w, i32_w]
            rfl
          refine take_ (i := 0) (N := some 13) (v := ?_) (a' := ?_) #[true, true, false, false, false, false, false, false] rfl rfl (take_ofW HT_.out HW_.out (by kernel_rfl)) (fun _ _ _ h => h) (Or.inl ⟨by rfl, ?_⟩) hHeld ?_ ?_
          rotate_left
          · rintro w' ⟨s0, s1, s2⟩
            go_simp
            with_reducible rfl
          rotate_left
          · simp only [Act.put, qJ, qK, qL, i64_w, i32_w]
            rfl
          refine one_ (i := 2) (N := some 15) #[true, true, true, false, false, false, false, false] rfl rfl (one_of HT_.out (by kernel_rfl)) (by decide) (fun K hK => ?_)
          refine goes_ Tryd.func74 (by kernel_rfl) rfl #[.pointer (some ⟨g, 0, none⟩)] (by rfl) rfl rfl (by (try simp only [List.map_toArray, List.map_cons, List.map_nil]); first | done | rfl | (simp only [qN, qM]; rfl)) ?_
          with_reducible refine (spec_l1Cur_logRecord.calls g s0_0 x1001_1 x1002_1 t323 t324 t325 t326 w0 _ ?side1 ?side2 A10.out).mono ?_
          (case side1 => repeat (first | (with_reducible first | exact HI0.out | apply jB | apply jA | apply jE | apply jC | apply jD | refine jF ?_ NB0_318.out _ | refine jF ?_ NB0_319.out _) | exact HI0.out))
          (case side2 => repeat (first | (with_reducible first | exact HB.out | apply zD | apply zB | apply zC | refine zE ?_ (jG HI0.out) | refine zE ?_ GE318.out | refine zE ?_ GE319.out) | exact HB.out))
          rintro e w28 ⟨rfl, hi, hb, hk⟩
          refine ⟨_, rfl, ?_⟩
          have n0_ := zA (qA hk (g' := gb318) (o := .cells #[.string (⟨#[]⟩ : ByteArray), .string (⟨#[]⟩ : ByteArray), .int .i64 0] 25 (0, 0)) (by (with_reducible repeat (first | refine zF ?_ _ | refine zH ?_ | refine zG ?_ _)); exact BK318.out) NB318_0.out (by simp))
          have n1_ := zA (qA hk (g' := gb319) (o := .cells #[.string x320000_1, .string x320001_1, .int .i64 x320002_1] 25 (0, 0)) (by (with_reducible repeat (first | refine zF ?_ _ | refine zH ?_ | refine zG ?_ _)); exact BK319.out) NB319_0.out (by simp))
          have n2_ := zA (zT (by repeat (first | (with_reducible first | exact HK.out | apply zM | apply zN | apply zP | apply zO | refine zQ ?_ GW318.out _ | refine zQ ?_ GW319.out _) | exact HK.out)) hk (.inl rfl))
          have n3_ := zA (hb)
          have n4_ := zA (hi)
          clear BK318
          clear BK319
          clear HK
          clear HB
          clear HI0
          have BK318 := n0_
          have BK319 := n1_
          have HK := n2_
          have HB := n3_
          have HI0 := n4_
          clear n0_ n1_ n2_ n3_ n4_
          (try clear hb)
          (try clear hb2)
          (try clear hk)
          (try clear hi)
          refine hK.out _ _ ⟨(zJ BK319.out 0).trans rfl, (zJ BK319.out 1).trans rfl, (zJ BK319.out 2).trans rfl⟩ (fun hHeld => ?_)
          clear hK K
          refine norm_ (a' := ?_) ?_ ?_
          rotate_left
          · show Act.put _ (some 15) _ = _
            simp only [Act.put, qJ, qK, qL, i64_w, i32_w]
            rfl
          refine one_ (i := 3) (N := some 16) #[true, true, true, true, false, false, false, false] rfl rfl (one_of HT_.out (by kernel_rfl)) (by decide) (fun K hK => ?_)
          refine goes_ Tryd.func14 (by kernel_rfl) rfl #[.agg #[.string x320000_1, .string x320001_1, .int .i64 x320002_1], .agg #[.string t323, .string t324]] (by rfl) rfl rfl (by (try simp only [List.map_toArray, List.map_cons, List.map_nil]); first | done | rfl | (simp only [qN, qM]; rfl)) ?_
          with_reducible refine (spec_AppendRecord.calls k1 x320000_1 x320001_1 x320002_1 t323 t324 t327 t328 t329 t330 _ A11.out).mono ?_
          rintro e w29 ⟨rfl, hb⟩
          refine ⟨_, rfl, ?_⟩
          have n0_ := zA (zR (g := gb318) (o := .cells #[.string (⟨#[]⟩ : ByteArray), .string (⟨#[]⟩ : ByteArray), .int .i64 0] 25 (0, 0)) (by (with_reducible repeat (first | refine zF ?_ _ | refine zH ?_ | refine zG ?_ _)); exact BK318.out) hb)
          have n1_ := zA (zR (g := gb319) (o := .cells #[.string x320000_1, .string x320001_1, .int .i64 x320002_1] 25 (0, 0)) (by (with_reducible repeat (first | refine zF ?_ _ | refine zH ?_ | refine zG ?_ _)); exact BK319.out) hb)
          have n2_ := zA (jH (by repeat (first | (with_reducible first | exact HI0.out | apply jB | apply jA | apply jE | apply jC | apply jD | refine jF ?_ NB0_318.out _ | refine jF ?_ NB0_319.out _) | exact HI0.out)) hb)
          have n3_ := zA (zT (by repeat (first | (with_reducible first | exact HK.out | apply zM | apply zN | apply zP | apply zO | refine zQ ?_ GW318.out _ | refine zQ ?_ GW319.out _) | exact HK.out)) (qC hb g none) (.inl rfl))
          have n4_ := zA (zL (by repeat (first | (with_reducible first | exact HB.out | apply zD | apply zB | apply zC | refine zE ?_ (jG HI0.out) | refine zE ?_ GE318.out | refine zE ?_ GE319.out) | exact HB.out)) hb)
          clear BK318
          clear BK319
          clear HI0
          clear HK
          clear HB
          have BK318 := n0_
          have BK319 := n1_
          have HI0 := n2_
          have HK := n3_
          have HB := n4_
          clear n0_ n1_ n2_ n3_ n4_
          (try clear hb)
          (try clear hb2)
          (try clear hk)
          (try clear hi)
          refine hK.out _ _ ⟨(zJ BK319.out 0).trans rfl, (zJ BK319.out 1).trans rfl, (zJ BK319.out 2).trans rfl⟩ (fun hHeld => ?_)
          clear hK K
          refine norm_ (a' := ?_) ?_ ?_
          rotate_left
          · show Act.put _ (some 16) _ = _
            simp only [Act.put, qJ, qK, qL, i64_w, i32_w]
            rfl
          refine pure_ (i := 4) (N := some 12) (v := ?_) (a' := ?_) #[true, true, true, true, true, false, false, false] rfl rfl (any_of HT_.out (by kernel_rfl)) (fun _ _ _ h => h) (Or.inl ⟨by rfl, ?_⟩) ?_ ?_
          rotate_left
          · intro w'
            go_simp
            with_reducible rfl
          rotate_left
          · simp only [Act.put, qJ, qK, qL, i64_w, i32_w]
            rfl
          refine pure_ (i := 5) (N := some 17) (v := ?_) (a' := ?_) #[true, true, true, true, true, true, false, false] rfl rfl (any_of HT_.out (by kernel_rfl)) (fun _ _ _ h => h) (Or.inl ⟨by rfl, ?_⟩) ?_ ?_
          rotate_left
          · intro w'
            go_simp
            with_reducible rfl
          rotate_left
          · simp only [Act.put, qJ, qK, qL, i64_w, i32_w]
            rfl
          refine pure_ (i := 6) (N := some 18) (v := ?_) (a' := ?_) #[true, true, true, true, true, true, true, false] rfl rfl (any_of HT_.out (by kernel_rfl)) (fun _ _ _ h => h) (Or.inl ⟨by rfl, ?_⟩) ?_ ?_
          rotate_left
          · intro w'
            go_simp
            with_reducible rfl
          rotate_left
          · simp only [Act.put, qJ, qK, qL, i64_w, i32_w]
            rfl
          refine last_ (i := 7) (N := none) #[true, true, true, true, true, true, true, true] rfl rfl (one_of HT_.out (by kernel_rfl)) (by decide) (fun K hK => ?_)
          have hs30 : w29.cell? ⟨gb319, 0, none⟩ = some (.string x320000_1) := (zJ BK319.out 0).trans rfl
          have hfs30 := zI BK319.out 0
          have hns30_0 := NB318_319.out
          have hms30_0 := NB319_318.out
          have hs31 : w29.cell? ⟨gb319, 1, none⟩ = some (.string x320001_1) := (zJ BK319.out 1).trans rfl
          have hfs31 := zI BK319.out 1
          have hns31_0 := NB318_319.out
          have hms31_0 := NB319_318.out
          have hs32 : w29.cell? ⟨gb319, 2, none⟩ = some (.int .i64 x320002_1) := (zJ BK319.out 2).trans rfl
          have hfs32 := zI BK319.out 2
          have hns32_0 := NB318_319.out
          have hms32_0 := NB319_318.out
          refine skip_ (w1 := ?_) (by rfl) rfl ?_ ?_
          rotate_left
          · go_simp
            rfl
          refine hK.out _ _ ?_
          clear hK K
          refine done_ (done_of HT_.out (by kernel_rfl)) ?_
          try go_wp2_with (first | ((with_reducible refine zS (f := 64) rfl ?_); refine qW (some 20) rfl rfl Tryd.func64 (by kernel_rfl) rfl #[.pointer (some ⟨g, 0, none⟩), .int .i64 4] rfl (by (try simp only [List.map_toArray, List.map_cons, List.map_nil]); first | done | rfl | (simp only [qN, qM]; rfl)) ?_; (with_reducible refine (spec_l1Cur_one.calls g s0_0 t325 t326 4 false t332 t333 w0 _ ?side1 ?side2 A12.out).mono ?_); (case side1 => repeat (first | (with_reducible first | exact HI0.out | apply jB | apply jA | apply jE | apply jC | apply jD | refine jF ?_ NB0_318.out _ | refine jF ?_ NB0_319.out _) | exact HI0.out)); (case side2 => repeat (first | (with_reducible first | exact HB.out | apply zD | apply zB | apply zC | refine zE ?_ (jG HI0.out) | refine zE ?_ GE318.out | refine zE ?_ GE319.out) | exact HB.out)); rintro e w33 ⟨rfl, hi, hb, hk⟩; refine ⟨_, rfl, ?_⟩; have n0_ := zA (qA hk (g' := gb318) (o := .cells #[.string (⟨#[]⟩ : ByteArray), .string (⟨#[]⟩ : ByteArray), .int .i64 0] 25 (0, 0)) (by (with_reducible repeat (first | refine zF ?_ _ | refine zH ?_ | refine zG ?_ _)); refine blk_far ?_ NB318_319.out _; (with_reducible repeat (first | refine zF ?_ _ | refine zH ?_ | refine zG ?_ _)); refine blk_far ?_ NB318_319.out _; (with_reducible repeat (first | refine zF ?_ _ | refine zH ?_ | refine zG ?_ _)); refine blk_far ?_ NB318_319.out _; (with_reducible repeat (first | refine zF ?_ _ | refine zH ?_ | refine zG ?_ _)); exact BK318.out) NB318_0.out (by simp)); have n1_ := zA (qA hk (g' := gb319) (o := .cells #[.string t327, .string t328, .int .i64 t329] 25 (0, 0)) (by (with_reducible repeat (first | refine zF ?_ _ | refine zH ?_ | refine zG ?_ _)); refine zX (cs := #[.string t327, .string t328, .int .i64 x320002_1]) ?_ 2 _ rfl; (with_reducible repeat (first | refine zF ?_ _ | refine zH ?_ | refine zG ?_ _)); refine zX (cs := #[.string t327, .string x320001_1, .int .i64 x320002_1]) ?_ 1 _ rfl; (with_reducible repeat (first | refine zF ?_ _ | refine zH ?_ | refine zG ?_ _)); refine zX (cs := #[.string x320000_1, .string x320001_1, .int .i64 x320002_1]) ?_ 0 _ rfl; (with_reducible repeat (first | refine zF ?_ _ | refine zH ?_ | refine zG ?_ _)); exact BK319.out) NB319_0.out (by simp)); have n2_ := zA (zT (by repeat (first | (with_reducible first | exact HK.out | apply zM | apply zN | apply zP | apply zO | refine zQ ?_ GW318.out _ | refine zQ ?_ GW319.out _) | exact HK.out)) hk (.inl rfl)); have n3_ := zA (hb); have n4_ := zA (hi); clear BK318; clear BK319; clear HK; clear HB; clear HI0; have BK318 := n0_; have BK319 := n1_; have HK := n2_; have HB := n3_; have HI0 := n4_; clear n0_ n1_ n2_ n3_ n4_; (try clear hb); (try clear hb2); (try clear hk); (try clear hi)))
          go_roundg k1
          case measure => have := HK1.out; omega
          case rel => exact ⟨(wrap64 (x4_1 - 1)), (t332), (t333), (t327), (t328), (t329), (by first | rfl | (simp; done) | (simp [*]; done)), H', ⟨by have := HK1.out; omega⟩, ⟨by (with_reducible repeat (first | refine zF ?_ _ | refine zH ?_ | refine zG ?_ _)); exact BK318.out⟩, ⟨by (with_reducible repeat (first | refine zF ?_ _ | refine zH ?_ | refine zG ?_ _)); exact BK319.out⟩, ⟨by repeat (first | (with_reducible first | exact HI0.out | apply jB | apply jA | apply jE | apply jC | apply jD | refine jF ?_ NB0_318.out _ | refine jF ?_ NB0_319.out _) | exact HI0.out)⟩, ⟨by repeat (first | (with_reducible first | exact HK.out | apply zM | apply zN | apply zP | apply zO | refine zQ ?_ GW318.out _ | refine zQ ?_ GW319.out _) | exact HK.out)⟩, ⟨by repeat (first | (with_reducible first | exact HB.out | apply zD | apply zB | apply zC | refine zE ?_ (jG HI0.out) | refine zE ?_ GE318.out | refine zE ?_ GE319.out) | exact HB.out)⟩⟩
      · rw [if_neg c9] at H
        have c9b0 : decide (0 < x4_1) = false := qG c9
        clear c9
        simp only [Option.some.injEq, Prod.mk.injEq] at H
        obtain ⟨rfl, rfl, rfl, rfl, rfl⟩ := H
        have hnb34 := NB319_318.out
        have hnc34 := NB318_319.out
        have hnb35 := NB319_0.out
        have hnc35 := NB0_319.out
        have hcz36_0 : wr.cell? ⟨gb319, 0, none⟩ = some (.string x320000_1) := (zJ BK319.out 0).trans rfl
        have hcz36_1 : wr.cell? ⟨gb319, 1, none⟩ = some (.string x320001_1) := (zJ BK319.out 1).trans rfl
        have hcz36_2 : wr.cell? ⟨gb319, 2, none⟩ = some (.int .i64 x320002_1) := (zJ BK319.out 2).trans rfl
        have hfz36_0 := zI BK319.out 0
        have hfz36_1 := zI BK319.out 1
        have hfz36_2 := zI BK319.out 2
        have hnb37 := NB318_0.out
        have hnc37 := NB0_318.out
        have hcz38_0 : wr.cell? ⟨gb318, 0, none⟩ = some (.string (⟨#[]⟩ : ByteArray)) := (zJ BK318.out 0).trans rfl
        have hcz38_1 : wr.cell? ⟨gb318, 1, none⟩ = some (.string (⟨#[]⟩ : ByteArray)) := (zJ BK318.out 1).trans rfl
        have hcz38_2 : wr.cell? ⟨gb318, 2, none⟩ = some (.int .i64 0) := (zJ BK318.out 2).trans rfl
        have hfz38_0 := zI BK318.out 0
        have hfz38_1 := zI BK318.out 1
        have hfz38_2 := zI BK318.out 2
        go_wp2
        refine bodyPost_ret (results_cell_row rfl _ _ gb318 25 #[.string x320000_1, .string x320001_1, .int .i64 x320002_1] (0, 0) _ rfl (by (with_reducible repeat (first | refine zF ?_ _ | refine zH ?_ | refine zG ?_ _)); refine zX (cs := #[.string x320000_1, .string x320001_1, .int .i64 0]) ?_ 2 _ rfl; (with_reducible repeat (first | refine zF ?_ _ | refine zH ?_ | refine zG ?_ _)); refine zX (cs := #[.string x320000_1, .string (⟨#[]⟩ : ByteArray), .int .i64 0]) ?_ 1 _ rfl; (with_reducible repeat (first | refine zF ?_ _ | refine zH ?_ | refine zG ?_ _)); refine zX (cs := #[.string (⟨#[]⟩ : ByteArray), .string (⟨#[]⟩ : ByteArray), .int .i64 0]) ?_ 0 _ rfl; (with_reducible repeat (first | refine zF ?_ _ | refine zH ?_ | refine zG ?_ _)); exact BK318.out) Tryd.underlying25 rfl (by kernel_rfl)) rfl ?_
        exact ⟨by first | rfl | (simp [qH, qI] <;> rfl) | (simp [*, qH, qI] <;> rfl), by repeat (first | (with_reducible first | exact HI0.out | apply jB | apply jA | apply jE | apply jC | apply jD | refine jF ?_ NB0_318.out _ | refine jF ?_ NB0_319.out _) | exact HI0.out), by repeat (first | (with_reducible first | exact HB.out | apply zD | apply zB | apply zC | refine zE ?_ (jG HI0.out) | refine zE ?_ GE318.out | refine zE ?_ GE319.out) | exact HB.out), by repeat (first | (with_reducible first | exact HK.out | apply zM | apply zN | apply zP | apply zO | refine zQ ?_ GW318.out _ | refine zQ ?_ GW319.out _) | exact HK.out)⟩
end Go.Proofs.YtnbhbnndfpfikaaDoor.X
