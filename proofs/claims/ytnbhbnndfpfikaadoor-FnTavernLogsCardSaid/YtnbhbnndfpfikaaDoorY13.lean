/- What functions of the program return (each as a Lean function and its contract); written by a program of this session's over the kit's printer. -/
import Derived.Test.YtnbhbnndfpfikaaDoorY0
import Derived.Test.YtnbhbnndfpfikaaDoorY4
import Derived.Test.YtnbhbnndfpfikaaDoorY5
import Derived.Test.YtnbhbnndfpfikaaDoorY9
import Derived.Test.YtnbhbnndfpfikaaDoorY10
import Derived.Test.YtnbhbnndfpfikaaDoorY11
import Derived.Test.YtnbhbnndfpfikaaDoorXa
import Derived.Test.YtnbhbnndfpfikaaDoorXd
namespace Go.Proofs.YtnbhbnndfpfikaaDoor.X
open Go.RowKit Go.Proofs.YtnbhbnndfpfikaaDoorW.PrintWords Go.Proofs.YtnbhbnndfpfikaaDoorW.PrintLast Go.Proofs.YtnbhbnndfpfikaaDoorW.PrintMore
attribute [local go_sem] max2_int min2_int max_two min_two max_three min_three max_four min_four   -- for this text's walks alone
set_option linter.unusedVariables false
set_option linter.unusedSimpArgs false
def spec_DrawRecoverLog.j0 : Nat → ByteArray → List Int → Int → Int → Option (ByteArray)
  | 0, _, _, _, _ => none
  | k + 1, x5, x404000, x404001, x404002 => (spec_l1Cur_one.f x404000 x404001 x404002 40).bind fun bt427 => (if bt427.1 = true then ((spec_l1Cur_pick.f x404000 bt427.2.1 bt427.2.2 2).bind fun bt430 => (if 0 ≤ (wrap64 (30000 + bt430.1)) then (if (wrap64 (30000 + bt430.1) : Int).toNat ≤ 281474976710656 then (some (strOfNums (List.replicate (wrap64 (30000 + bt430.1) : Int).toNat 0))) else (none)) else (none))) else (some x5))
def spec_DrawRecoverLog.f (k : Nat) (l0 : List Int) : Option (ByteArray) := (spec_l1Cur_log12.f k l0 0 0).bind fun bt404 => (if bt404.1.size + bt404.2.1.size ≤ 9223372036854775807 then ((spec_l1Cur_pick.f l0 bt404.2.2.2.1 bt404.2.2.2.2 4).bind fun bt410 => (if bt410.1 = 0 then ((spec_l1Cur_spoilt.f l0 bt410.2.1 bt410.2.2 (bt404.1 ++ bt404.2.1) (⟨#[35, 64, 10, 48, 49]⟩ : ByteArray)).bind fun bt413 => (spec_DrawRecoverLog.j0 k bt413.1 l0 bt413.2.1 bt413.2.2)) else (if bt410.1 = 1 then ((spec_l1Cur_pick.f l0 bt410.2.1 bt410.2.2 (wrap64 ((bt404.1.size + bt404.2.1.size : Int) + 1))).bind fun bt416 => (if 0 ≤ bt416.1 then (if bt416.1 ≤ (bt404.1.size + bt404.2.1.size : Int) then (spec_DrawRecoverLog.j0 k ((bt404.1 ++ bt404.2.1).extract 0 (bt416.1 : Int).toNat) l0 bt416.2.1 bt416.2.2) else (none)) else (none))) else (if bt410.1 = 2 then ((spec_l1Cur_pick.f l0 bt410.2.1 bt410.2.2 4).bind fun bt419 => ((spec_l1Cur_logRecord.f l0 bt419.2.1 bt419.2.2).bind fun bt422 => ((spec_l12Line.f k bt419.1 bt422.1 bt422.2.1).bind fun t426 => (if bt404.1.size + bt404.2.1.size + t426.size ≤ 9223372036854775807 then (spec_DrawRecoverLog.j0 k ((bt404.1 ++ bt404.2.1) ++ t426) l0 bt422.2.2.1 bt422.2.2.2) else (none))))) else (spec_DrawRecoverLog.j0 k (bt404.1 ++ bt404.2.1) l0 bt410.2.1 bt410.2.2))))) else (none))
set_option maxHeartbeats 8000000 in
set_option maxRecDepth 100000 in
theorem spec_DrawRecoverLog.calls (k : Nat) (A0 : Option Addr) (c0 : Nat) (l0 : List Int) (r : ByteArray) (w : World) (hr0 : Kd.C (Kd.int .u8) w A0 l0.length l0) (hc0 : l0.length ≤ c0) (h : spec_DrawRecoverLog.f k l0 = some r) :
    Calls Tryd.prog 48 #[.slice A0 l0.length c0] w fun e w' => e = .returned (.string r) ∧ Below w.heap.size w w' := by
  have hu75 := Tryd.underlying75
  have hu25 := Tryd.underlying25
  have HR0 := zA hr0
  have HC0 := zA hc0
  clear hr0 hc0
  have HB := zA (qO w.heap.size w)
  have H : ((spec_l1Cur_log12.f k l0 0 0).bind fun bt404 => (if bt404.1.size + bt404.2.1.size ≤ 9223372036854775807 then ((spec_l1Cur_pick.f l0 bt404.2.2.2.1 bt404.2.2.2.2 4).bind fun bt410 => (if bt410.1 = 0 then ((spec_l1Cur_spoilt.f l0 bt410.2.1 bt410.2.2 (bt404.1 ++ bt404.2.1) (⟨#[35, 64, 10, 48, 49]⟩ : ByteArray)).bind fun bt413 => (spec_DrawRecoverLog.j0 k bt413.1 l0 bt413.2.1 bt413.2.2)) else (if bt410.1 = 1 then ((spec_l1Cur_pick.f l0 bt410.2.1 bt410.2.2 (wrap64 ((bt404.1.size + bt404.2.1.size : Int) + 1))).bind fun bt416 => (if 0 ≤ bt416.1 then (if bt416.1 ≤ (bt404.1.size + bt404.2.1.size : Int) then (spec_DrawRecoverLog.j0 k ((bt404.1 ++ bt404.2.1).extract 0 (bt416.1 : Int).toNat) l0 bt416.2.1 bt416.2.2) else (none)) else (none))) else (if bt410.1 = 2 then ((spec_l1Cur_pick.f l0 bt410.2.1 bt410.2.2 4).bind fun bt419 => ((spec_l1Cur_logRecord.f l0 bt419.2.1 bt419.2.2).bind fun bt422 => ((spec_l12Line.f k bt419.1 bt422.1 bt422.2.1).bind fun t426 => (if bt404.1.size + bt404.2.1.size + t426.size ≤ 9223372036854775807 then (spec_DrawRecoverLog.j0 k ((bt404.1 ++ bt404.2.1) ++ t426) l0 bt422.2.2.1 bt422.2.2.2) else (none))))) else (spec_DrawRecoverLog.j0 k (bt404.1 ++ bt404.2.1) l0 bt410.2.1 bt410.2.2))))) else (none))) = some r := h
  clear h
  replace H := Option.bind_eq_some_iff.mp H
  obtain ⟨⟨t404, t405, t406, t407, t408⟩, A20, H⟩ := H
  replace H : (if t404.size + t405.size ≤ 9223372036854775807 then ((spec_l1Cur_pick.f l0 t407 t408 4).bind fun bt410 => (if bt410.1 = 0 then ((spec_l1Cur_spoilt.f l0 bt410.2.1 bt410.2.2 (t404 ++ t405) (⟨#[35, 64, 10, 48, 49]⟩ : ByteArray)).bind fun bt413 => (spec_DrawRecoverLog.j0 k bt413.1 l0 bt413.2.1 bt413.2.2)) else (if bt410.1 = 1 then ((spec_l1Cur_pick.f l0 bt410.2.1 bt410.2.2 (wrap64 ((t404.size + t405.size : Int) + 1))).bind fun bt416 => (if 0 ≤ bt416.1 then (if bt416.1 ≤ (t404.size + t405.size : Int) then (spec_DrawRecoverLog.j0 k ((t404 ++ t405).extract 0 (bt416.1 : Int).toNat) l0 bt416.2.1 bt416.2.2) else (none)) else (none))) else (if bt410.1 = 2 then ((spec_l1Cur_pick.f l0 bt410.2.1 bt410.2.2 4).bind fun bt419 => ((spec_l1Cur_logRecord.f l0 bt419.2.1 bt419.2.2).bind fun bt422 => ((spec_l12Line.f k bt419.1 bt422.1 bt422.2.1).bind fun t426 => (if t404.size + t405.size + t426.size ≤ 9223372036854775807 then (spec_DrawRecoverLog.j0 k ((t404 ++ t405) ++ t426) l0 bt422.2.2.1 bt422.2.2.2) else (none))))) else (spec_DrawRecoverLog.j0 k (t404 ++ t405) l0 bt410.2.1 bt410.2.2))))) else (none)) = some r := H
  have A2 := zA A20
  clear A20
  by_cases c3 : t404.size + t405.size ≤ 9223372036854775807
  · rw [if_pos c3] at H
    have c3b0 := eq_true c3
    have c3b1 : decide (t404.size + t405.size ≤ 9223372036854775807) = true := qE c3
    try have c3b2 : (9223372036854775807 < t404.size + t405.size) = False := eq_false (Nat.not_lt.2 c3)
    replace H := Option.bind_eq_some_iff.mp H
    obtain ⟨⟨t410, t411, t412⟩, A40, H⟩ := H
    replace H : (if t410 = 0 then ((spec_l1Cur_spoilt.f l0 t411 t412 (t404 ++ t405) (⟨#[35, 64, 10, 48, 49]⟩ : ByteArray)).bind fun bt413 => (spec_DrawRecoverLog.j0 k bt413.1 l0 bt413.2.1 bt413.2.2)) else (if t410 = 1 then ((spec_l1Cur_pick.f l0 t411 t412 (wrap64 ((t404.size + t405.size : Int) + 1))).bind fun bt416 => (if 0 ≤ bt416.1 then (if bt416.1 ≤ (t404.size + t405.size : Int) then (spec_DrawRecoverLog.j0 k ((t404 ++ t405).extract 0 (bt416.1 : Int).toNat) l0 bt416.2.1 bt416.2.2) else (none)) else (none))) else (if t410 = 2 then ((spec_l1Cur_pick.f l0 t411 t412 4).bind fun bt419 => ((spec_l1Cur_logRecord.f l0 bt419.2.1 bt419.2.2).bind fun bt422 => ((spec_l12Line.f k bt419.1 bt422.1 bt422.2.1).bind fun t426 => (if t404.size + t405.size + t426.size ≤ 9223372036854775807 then (spec_DrawRecoverLog.j0 k ((t404 ++ t405) ++ t426) l0 bt422.2.2.1 bt422.2.2.2) else (none))))) else (spec_DrawRecoverLog.j0 k (t404 ++ t405) l0 t411 t412)))) = some r := H
    have A4 := zA A40
    clear A40
    have HC5 := zA H
    clear H
    go_enter Tryd.func48, Tryd.ntmps48
    go_upto_block 0 with (first | ((with_reducible refine zZ (N := 8) rfl ?_); refine zY ?hg (N := 8) ?hd (cs := #[.slice A0 l0.length c0, .int .i64 0, .int .u64 0]) (t := 75) ?hr ?_; (case hd => rfl); (case hg => rfl); (case hr => first | (go_simp; done) | (go_simp; rfl)); intro gb403 hg w6 hbox hb; have n0_ := zA (zL (by repeat (first | (with_reducible first | exact HB.out | apply zD | apply zB | apply zC) | exact HB.out)) hb); have n1_ := zA (hbox); have n2_ := zA ((by rw [hg]; exact (zK (by repeat (first | (with_reducible first | exact HB.out | apply zD | apply zB | apply zC) | exact HB.out))) : w.heap.size ≤ gb403)); have n3_ := zA ((by rw [hg]; exact (zK (by repeat (first | (with_reducible first | exact HB.out | apply zD | apply zB | apply zC) | exact HB.out))) : w.heap.size ≤ gb403)); have n4_ := zA ((show IsS75 w w6 gb403 l0 0 0 from ⟨_, _, hbox, (by rw [hg]; exact (zK (by repeat (first | (with_reducible first | exact HB.out | apply zD | apply zB | apply zC) | exact HB.out)))), HR0.out⟩)); clear HB; have HB := n0_; have BK403 := n1_; have GW403 := n2_; have GE403 := n3_; have HI403 := n4_; clear n0_ n1_ n2_ n3_ n4_; clear hb hbox hg) | ((with_reducible refine zS (f := 79) rfl ?_); refine qW (some 10) rfl rfl Tryd.func79 (by kernel_rfl) rfl #[.pointer (some ⟨gb403, 0, none⟩)] rfl (by (try simp only [List.map_toArray, List.map_cons, List.map_nil]); first | done | rfl | (simp only [qN, qM]; rfl)) ?_; (with_reducible refine (spec_l1Cur_log12.calls k gb403 l0 0 0 t404 t405 t406 t407 t408 w _ ?side1 ?side2 A2.out).mono ?_); (case side1 => repeat (first | (with_reducible first | exact HI403.out | apply jB | apply jA | apply jE | apply jC | apply jD) | exact HI403.out)); (case side2 => repeat (first | (with_reducible first | exact HB.out | apply zD | apply zB | apply zC | refine zE ?_ (jG HI403.out)) | exact HB.out)); rintro e w7 ⟨rfl, hi, hb, hk⟩; refine ⟨_, rfl, ?_⟩; have n0_ := zA (hb); have n1_ := zA (hi); clear HB; clear HI403; have HB := n0_; have HI403 := n1_; clear n0_ n1_; (try clear hb); (try clear hb2); (try clear hk); (try clear hi)) | ((with_reducible refine zZ (N := 4) rfl ?_); refine zY ?hg (N := 4) ?hd (cs := #[.string (⟨#[]⟩ : ByteArray), .string (⟨#[]⟩ : ByteArray), .int .i64 0]) (t := 25) ?hr ?_; (case hd => rfl); (case hg => rfl); (case hr => first | (go_simp; done) | (go_simp; rfl)); intro gb409 hg w8 hbox hb; have n0_ := zA (jH (by repeat (first | (with_reducible first | exact HI403.out | apply jB | apply jA | apply jE | apply jC | apply jD) | exact HI403.out)) hb); have n1_ := zA (zL (by repeat (first | (with_reducible first | exact HB.out | apply zD | apply zB | apply zC | refine zE ?_ (jG HI403.out)) | exact HB.out)) hb); have n2_ := zA (hbox); have n3_ := zA ((by rw [hg]; exact (zK (by repeat (first | (with_reducible first | exact HB.out | apply zD | apply zB | apply zC | refine zE ?_ (jG HI403.out)) | exact HB.out))) : w.heap.size ≤ gb409)); have n4_ := zA ((by rw [hg]; exact (zK (by repeat (first | (with_reducible first | exact HB.out | apply zD | apply zB | apply zC | refine zE ?_ (jG HI403.out)) | exact HB.out))) : w.heap.size ≤ gb409)); have n5_ := zA ((by rw [hg]; exact Nat.ne_of_lt (jI (show IsS75 w _ gb403 l0 t407 t408 from by repeat (first | (with_reducible first | exact HI403.out | apply jB | apply jA | apply jE | apply jC | apply jD) | exact HI403.out))) : gb403 ≠ gb409)); have n6_ := zA ((by rw [hg]; exact Nat.ne_of_gt (jI (show IsS75 w _ gb403 l0 t407 t408 from by repeat (first | (with_reducible first | exact HI403.out | apply jB | apply jA | apply jE | apply jC | apply jD) | exact HI403.out))) : gb409 ≠ gb403)); clear HI403; clear HB; have HI403 := n0_; have HB := n1_; have BK409 := n2_; have GW409 := n3_; have GE409 := n4_; have NB403_409 := n5_; have NB409_403 := n6_; clear n0_ n1_ n2_ n3_ n4_ n5_ n6_; clear hb hbox hg; have hnb9 := NB409_403.out; have hnc9 := NB403_409.out; have hcz10_0 : w8.cell? ⟨gb409, 0, none⟩ = some (.string (⟨#[]⟩ : ByteArray)) := (zJ BK409.out 0).trans rfl; have hcz10_1 : w8.cell? ⟨gb409, 1, none⟩ = some (.string (⟨#[]⟩ : ByteArray)) := (zJ BK409.out 1).trans rfl; have hcz10_2 : w8.cell? ⟨gb409, 2, none⟩ = some (.int .i64 0) := (zJ BK409.out 2).trans rfl; have hfz10_0 := zI BK409.out 0; have hfz10_1 := zI BK409.out 1; have hfz10_2 := zI BK409.out 2) | ((with_reducible refine zS (f := 59) rfl ?_); refine qW (some 17) rfl rfl Tryd.func59 (by kernel_rfl) rfl #[.pointer (some ⟨gb403, 0, none⟩), .int .i64 4] rfl (by (try simp only [List.map_toArray, List.map_cons, List.map_nil]); first | done | rfl | (simp only [qN, qM]; rfl)) ?_; (with_reducible refine (spec_l1Cur_pick.calls gb403 l0 t407 t408 4 t410 t411 t412 w _ ?side1 ?side2 A4.out).mono ?_); (case side1 => repeat (first | (with_reducible first | exact HI403.out | apply jB | apply jA | apply jE | apply jC | apply jD | refine jF ?_ NB403_409.out _) | exact HI403.out)); (case side2 => repeat (first | (with_reducible first | exact HB.out | apply zD | apply zB | apply zC | refine zE ?_ (jG HI403.out) | refine zE ?_ GE409.out) | exact HB.out)); rintro e w11 ⟨rfl, hi, hb, hk⟩; refine ⟨_, rfl, ?_⟩; have n0_ := zA (qA hk (g' := gb409) (o := .cells #[.string t404, .string t405, .int .i64 t406] 25 (0, 0)) (by (with_reducible repeat (first | refine zF ?_ _ | refine zH ?_ | refine zG ?_ _)); refine zX (cs := #[.string t404, .string t405, .int .i64 0]) ?_ 2 _ rfl; (with_reducible repeat (first | refine zF ?_ _ | refine zH ?_ | refine zG ?_ _)); refine zX (cs := #[.string t404, .string (⟨#[]⟩ : ByteArray), .int .i64 0]) ?_ 1 _ rfl; (with_reducible repeat (first | refine zF ?_ _ | refine zH ?_ | refine zG ?_ _)); refine zX (cs := #[.string (⟨#[]⟩ : ByteArray), .string (⟨#[]⟩ : ByteArray), .int .i64 0]) ?_ 0 _ rfl; (with_reducible repeat (first | refine zF ?_ _ | refine zH ?_ | refine zG ?_ _)); exact BK409.out) NB409_403.out (by simp)); have n1_ := zA (hb); have n2_ := zA (hi); clear BK409; clear HB; clear HI403; have BK409 := n0_; have HB := n1_; have HI403 := n2_; clear n0_ n1_ n2_; (try clear hb); (try clear hb2); (try clear hk); (try clear hi)))
    (try simp only [Act.put, qJ, qK, qL])
    go_cut [5] (fun v5 wc => ∃ (kq : Nat) (x5_4 : ByteArray) (x404001_4 : Int) (x404002_4 : Int), v5 = .string x5_4 ∧ Aside0 (spec_DrawRecoverLog.j0 kq x5_4 l0 x404001_4 x404002_4 = some r) ∧ Aside0 (kq ≤ k) ∧ Aside0 (wc.heap[gb409]? = some (.cells #[.string t404, .string t405, .int .i64 t406] 25 (0, 0))) ∧ Aside0 (IsS75 w wc gb403 l0 x404001_4 x404002_4) ∧ Aside0 (Below w.heap.size w wc))
    case first =>
      have H := HC5.out
      clear HC5
      by_cases c12 : t410 = 0
      · rw [if_pos c12] at H
        have c12b0 : (t410 == 0) = true := beq_iff_eq.mpr c12
        have c12b1 : (t410 != 0) = false := bne_eq_false_iff_eq.mpr c12
        clear c12
        (first | rw [c12b0] | (simp only [i64_w, i32_w]; rw [c12b0]) | skip)
        replace H := Option.bind_eq_some_iff.mp H
        obtain ⟨⟨t413, t414, t415⟩, A130, H⟩ := H
        replace H : (spec_DrawRecoverLog.j0 k t413 l0 t414 t415) = some r := H
        have A13 := zA A130
        clear A130
        have H' := zA H
        clear H
        go_wp2_with (first | ((with_reducible refine zS (f := 80) rfl ?_); refine qW (some 22) rfl rfl Tryd.func80 (by kernel_rfl) rfl #[.pointer (some ⟨gb403, 0, none⟩), .string (t404 ++ t405), .string (⟨#[35, 64, 10, 48, 49]⟩ : ByteArray)] rfl (by (try simp only [List.map_toArray, List.map_cons, List.map_nil]); first | done | rfl | (simp only [qN, qM]; rfl)) ?_; (with_reducible refine (spec_l1Cur_spoilt.calls gb403 l0 t411 t412 (t404 ++ t405) (⟨#[35, 64, 10, 48, 49]⟩ : ByteArray) t413 t414 t415 w _ ?side1 ?side2 A13.out).mono ?_); (case side1 => repeat (first | (with_reducible first | exact HI403.out | apply jB | apply jA | apply jE | apply jC | apply jD | refine jF ?_ NB403_409.out _) | exact HI403.out)); (case side2 => repeat (first | (with_reducible first | exact HB.out | apply zD | apply zB | apply zC | refine zE ?_ (jG HI403.out) | refine zE ?_ GE409.out) | exact HB.out)); rintro e w14 ⟨rfl, hi, hb, hk⟩; refine ⟨_, rfl, ?_⟩; have n0_ := zA (qA hk (g' := gb409) (o := .cells #[.string t404, .string t405, .int .i64 t406] 25 (0, 0)) (by (with_reducible repeat (first | refine zF ?_ _ | refine zH ?_ | refine zG ?_ _)); exact BK409.out) NB409_403.out (by simp)); have n1_ := zA (hb); have n2_ := zA (hi); clear BK409; clear HB; clear HI403; have BK409 := n0_; have HB := n1_; have HI403 := n2_; clear n0_ n1_ n2_; (try clear hb); (try clear hb2); (try clear hk); (try clear hi)))
        go_meet
        case rel => exact ⟨_, (t413), (t414), (t415), (by first | rfl | (simp; done) | (simp [*]; done)), H', ⟨by first | omega | exact Nat.le_refl _⟩, ⟨by (with_reducible repeat (first | refine zF ?_ _ | refine zH ?_ | refine zG ?_ _)); exact BK409.out⟩, ⟨by repeat (first | (with_reducible first | exact HI403.out | apply jB | apply jA | apply jE | apply jC | apply jD | refine jF ?_ NB403_409.out _) | exact HI403.out)⟩, ⟨by repeat (first | (with_reducible first | exact HB.out | apply zD | apply zB | apply zC | refine zE ?_ (jG HI403.out) | refine zE ?_ GE409.out) | exact HB.out)⟩⟩
      · rw [if_neg c12] at H
        have c12b0 : (t410 == 0) = false := beq_eq_false_iff_ne.mpr c12
        have c12b1 : (t410 != 0) = true := bne_iff_ne.mpr c12
        (first | rw [c12b0] | (simp only [i64_w, i32_w]; rw [c12b0]) | skip)
        by_cases c15 : t410 = 1
        · rw [if_pos c15] at H
          have c15b0 : (t410 == 1) = true := beq_iff_eq.mpr c15
          have c15b1 : (t410 != 1) = false := bne_eq_false_iff_eq.mpr c15
          clear c15
          replace H := Option.bind_eq_some_iff.mp H
          obtain ⟨⟨t416, t417, t418⟩, A160, H⟩ := H
          replace H : (if 0 ≤ t416 then (if t416 ≤ (t404.size + t405.size : Int) then (spec_DrawRecoverLog.j0 k ((t404 ++ t405).extract 0 (t416 : Int).toNat) l0 t417 t418) else (none)) else (none)) = some r := H
          have A16 := zA A160
          clear A160
          by_cases c17 : 0 ≤ t416
          · rw [if_pos c17] at H
            have c17b0 := eq_true c17
            have c17b1 : decide (0 ≤ t416) = true := qE c17
            clear c17
            by_cases c18 : t416 ≤ (t404.size + t405.size : Int)
            · rw [if_pos c18] at H
              have c18b0 := eq_true c18
              have c18b1 : decide (t416 ≤ (t404.size + t405.size : Int)) = true := qE c18
              have H' := zA H
              clear H
              go_wp2_with (first | ((with_reducible refine zS (f := 59) rfl ?_); refine qW (some 30) rfl rfl Tryd.func59 (by kernel_rfl) rfl #[.pointer (some ⟨gb403, 0, none⟩), .int .i64 (wrap64 ((t404.size + t405.size : Int) + 1))] rfl (by (try simp only [List.map_toArray, List.map_cons, List.map_nil]); first | done | rfl | (simp only [qN, qM]; rfl)) ?_; (with_reducible refine (spec_l1Cur_pick.calls gb403 l0 t411 t412 (wrap64 ((t404.size + t405.size : Int) + 1)) t416 t417 t418 w _ ?side1 ?side2 A16.out).mono ?_); (case side1 => repeat (first | (with_reducible first | exact HI403.out | apply jB | apply jA | apply jE | apply jC | apply jD | refine jF ?_ NB403_409.out _) | exact HI403.out)); (case side2 => repeat (first | (with_reducible first | exact HB.out | apply zD | apply zB | apply zC | refine zE ?_ (jG HI403.out) | refine zE ?_ GE409.out) | exact HB.out)); rintro e w19 ⟨rfl, hi, hb, hk⟩; refine ⟨_, rfl, ?_⟩; have n0_ := zA (qA hk (g' := gb409) (o := .cells #[.string t404, .string t405, .int .i64 t406] 25 (0, 0)) (by (with_reducible repeat (first | refine zF ?_ _ | refine zH ?_ | refine zG ?_ _)); exact BK409.out) NB409_403.out (by simp)); have n1_ := zA (hb); have n2_ := zA (hi); clear BK409; clear HB; clear HI403; have BK409 := n0_; have HB := n1_; have HI403 := n2_; clear n0_ n1_ n2_; (try clear hb); (try clear hb2); (try clear hk); (try clear hi)))
              go_meet
              case rel => exact ⟨_, ((t404 ++ t405).extract 0 (t416 : Int).toNat), (t417), (t418), (by first | rfl | (simp; done) | (simp [*]; done)), H', ⟨by first | omega | exact Nat.le_refl _⟩, ⟨by (with_reducible repeat (first | refine zF ?_ _ | refine zH ?_ | refine zG ?_ _)); exact BK409.out⟩, ⟨by repeat (first | (with_reducible first | exact HI403.out | apply jB | apply jA | apply jE | apply jC | apply jD | refine jF ?_ NB403_409.out _) | exact HI403.out)⟩, ⟨by repeat (first | (with_reducible first | exact HB.out | apply zD | apply zB | apply zC | refine zE ?_ (jG HI403.out) | refine zE ?_ GE409.out) | exact HB.out)⟩⟩
            · rw [if_neg c18] at H
              exact absurd H (by simp)
          · rw [if_neg c17] at H
            exact absurd H (by simp)
        · rw [if_neg c15] at H
          have c15b0 : (t410 == 1) = false := beq_eq_false_iff_ne.mpr c15
          have c15b1 : (t410 != 1) = true := bne_iff_ne.mpr c15
          by_cases c20 : t410 = 2
          · rw [if_pos c20] at H
            have c20b0 : (t410 == 2) = true := beq_iff_eq.mpr c20
            have c20b1 : (t410 != 2) = false := bne_eq_false_iff_eq.mpr c20
            clear c20
            replace H := Option.bind_eq_some_iff.mp H
            obtain ⟨⟨t419, t420, t421⟩, A210, H⟩ := H
            replace H : ((spec_l1Cur_logRecord.f l0 t420 t421).bind fun bt422 => ((spec_l12Line.f k t419 bt422.1 bt422.2.1).bind fun t426 => (if t404.size + t405.size + t426.size ≤ 9223372036854775807 then (spec_DrawRecoverLog.j0 k ((t404 ++ t405) ++ t426) l0 bt422.2.2.1 bt422.2.2.2) else (none)))) = some r := H
            have A21 := zA A210
            clear A210
            replace H := Option.bind_eq_some_iff.mp H
            obtain ⟨⟨t422, t423, t424, t425⟩, A220, H⟩ := H
            replace H : ((spec_l12Line.f k t419 t422 t423).bind fun t426 => (if t404.size + t405.size + t426.size ≤ 9223372036854775807 then (spec_DrawRecoverLog.j0 k ((t404 ++ t405) ++ t426) l0 t424 t425) else (none))) = some r := H
            have A22 := zA A220
            clear A220
            replace H := Option.bind_eq_some_iff.mp H
            obtain ⟨t426, A230, H⟩ := H
            replace H : (if t404.size + t405.size + t426.size ≤ 9223372036854775807 then (spec_DrawRecoverLog.j0 k ((t404 ++ t405) ++ t426) l0 t424 t425) else (none)) = some r := H
            have A23 := zA A230
            clear A230
            by_cases c24 : t404.size + t405.size + t426.size ≤ 9223372036854775807
            · rw [if_pos c24] at H
              have c24b0 := eq_true c24
              have c24b1 : decide (t404.size + t405.size + t426.size ≤ 9223372036854775807) = true := qE c24
              try have c24b2 : (9223372036854775807 < t404.size + t405.size + t426.size) = False := eq_false (Nat.not_lt.2 c24)
              have H' := zA H
              clear H
              go_wp2_with (first | ((with_reducible refine zS (f := 59) rfl ?_); refine qW (some 36) rfl rfl Tryd.func59 (by kernel_rfl) rfl #[.pointer (some ⟨gb403, 0, none⟩), .int .i64 4] rfl (by (try simp only [List.map_toArray, List.map_cons, List.map_nil]); first | done | rfl | (simp only [qN, qM]; rfl)) ?_; (with_reducible refine (spec_l1Cur_pick.calls gb403 l0 t411 t412 4 t419 t420 t421 w _ ?side1 ?side2 A21.out).mono ?_); (case side1 => repeat (first | (with_reducible first | exact HI403.out | apply jB | apply jA | apply jE | apply jC | apply jD | refine jF ?_ NB403_409.out _) | exact HI403.out)); (case side2 => repeat (first | (with_reducible first | exact HB.out | apply zD | apply zB | apply zC | refine zE ?_ (jG HI403.out) | refine zE ?_ GE409.out) | exact HB.out)); rintro e w25 ⟨rfl, hi, hb, hk⟩; refine ⟨_, rfl, ?_⟩; have n0_ := zA (qA hk (g' := gb409) (o := .cells #[.string t404, .string t405, .int .i64 t406] 25 (0, 0)) (by (with_reducible repeat (first | refine zF ?_ _ | refine zH ?_ | refine zG ?_ _)); exact BK409.out) NB409_403.out (by simp)); have n1_ := zA (hb); have n2_ := zA (hi); clear BK409; clear HB; clear HI403; have BK409 := n0_; have HB := n1_; have HI403 := n2_; clear n0_ n1_ n2_; (try clear hb); (try clear hb2); (try clear hk); (try clear hi)) | ((with_reducible refine zS (f := 74) rfl ?_); refine qW (some 38) rfl rfl Tryd.func74 (by kernel_rfl) rfl #[.pointer (some ⟨gb403, 0, none⟩)] rfl (by (try simp only [List.map_toArray, List.map_cons, List.map_nil]); first | done | rfl | (simp only [qN, qM]; rfl)) ?_; (with_reducible refine (spec_l1Cur_logRecord.calls gb403 l0 t420 t421 t422 t423 t424 t425 w _ ?side1 ?side2 A22.out).mono ?_); (case side1 => repeat (first | (with_reducible first | exact HI403.out | apply jB | apply jA | apply jE | apply jC | apply jD | refine jF ?_ NB403_409.out _) | exact HI403.out)); (case side2 => repeat (first | (with_reducible first | exact HB.out | apply zD | apply zB | apply zC | refine zE ?_ (jG HI403.out) | refine zE ?_ GE409.out) | exact HB.out)); rintro e w26 ⟨rfl, hi, hb, hk⟩; refine ⟨_, rfl, ?_⟩; have n0_ := zA (qA hk (g' := gb409) (o := .cells #[.string t404, .string t405, .int .i64 t406] 25 (0, 0)) (by (with_reducible repeat (first | refine zF ?_ _ | refine zH ?_ | refine zG ?_ _)); exact BK409.out) NB409_403.out (by simp)); have n1_ := zA (hb); have n2_ := zA (hi); clear BK409; clear HB; clear HI403; have BK409 := n0_; have HB := n1_; have HI403 := n2_; clear n0_ n1_ n2_; (try clear hb); (try clear hb2); (try clear hk); (try clear hi)) | ((with_reducible refine zS (f := 53) rfl ?_); refine qW (some 39) rfl rfl Tryd.func53 (by kernel_rfl) rfl #[.int .i64 t419, .agg #[.string t422, .string t423]] rfl (by (try simp only [List.map_toArray, List.map_cons, List.map_nil]); first | done | rfl | (simp only [qN, qM]; rfl)) ?_; (with_reducible refine (spec_l12Line.calls k t419 t422 t423 t426 _ A23.out).mono ?_); rintro e w27 ⟨rfl, hb⟩; refine ⟨_, rfl, ?_⟩; have n0_ := zA (jH (by repeat (first | (with_reducible first | exact HI403.out | apply jB | apply jA | apply jE | apply jC | apply jD | refine jF ?_ NB403_409.out _) | exact HI403.out)) hb); have n1_ := zA (zR (g := gb409) (o := .cells #[.string t404, .string t405, .int .i64 t406] 25 (0, 0)) (by (with_reducible repeat (first | refine zF ?_ _ | refine zH ?_ | refine zG ?_ _)); exact BK409.out) hb); have n2_ := zA (zL (by repeat (first | (with_reducible first | exact HB.out | apply zD | apply zB | apply zC | refine zE ?_ (jG HI403.out) | refine zE ?_ GE409.out) | exact HB.out)) hb); clear HI403; clear BK409; clear HB; have HI403 := n0_; have BK409 := n1_; have HB := n2_; clear n0_ n1_ n2_; (try clear hb); (try clear hb2); (try clear hk); (try clear hi)))
              go_meet
              case rel => exact ⟨_, ((t404 ++ t405) ++ t426), (t424), (t425), (by first | rfl | (simp; done) | (simp [*]; done)), H', ⟨by first | omega | exact Nat.le_refl _⟩, ⟨by (with_reducible repeat (first | refine zF ?_ _ | refine zH ?_ | refine zG ?_ _)); exact BK409.out⟩, ⟨by repeat (first | (with_reducible first | exact HI403.out | apply jB | apply jA | apply jE | apply jC | apply jD | refine jF ?_ NB403_409.out _) | exact HI403.out)⟩, ⟨by repeat (first | (with_reducible first | exact HB.out | apply zD | apply zB | apply zC | refine zE ?_ (jG HI403.out) | refine zE ?_ GE409.out) | exact HB.out)⟩⟩
            · rw [if_neg c24] at H
              exact absurd H (by simp)
          · rw [if_neg c20] at H
            have c20b0 : (t410 == 2) = false := beq_eq_false_iff_ne.mpr c20
            have c20b1 : (t410 != 2) = true := bne_iff_ne.mpr c20
            have H' := zA H
            clear H
            go_wp2
            go_meet
            case rel => exact ⟨_, (t404 ++ t405), (t411), (t412), (by first | rfl | (simp; done) | (simp [*]; done)), H', ⟨by first | omega | exact Nat.le_refl _⟩, ⟨by (with_reducible repeat (first | refine zF ?_ _ | refine zH ?_ | refine zG ?_ _)); exact BK409.out⟩, ⟨by repeat (first | (with_reducible first | exact HI403.out | apply jB | apply jA | apply jE | apply jC | apply jD | refine jF ?_ NB403_409.out _) | exact HI403.out)⟩, ⟨by repeat (first | (with_reducible first | exact HB.out | apply zD | apply zB | apply zC | refine zE ?_ (jG HI403.out) | refine zE ?_ GE409.out) | exact HB.out)⟩⟩
    case rest =>
      clear HC5
      try clear c1
      try clear c2
      try clear p2
      try clear c3
      try clear c3b0
      try clear c3b1
      try clear c3b2
      try clear c4
      try clear c5
      try clear p6
      try clear c7
      try clear c8
      try clear c9
      try clear c12
      try clear c12b0
      try clear c12b1
      try clear c15
      try clear c15b0
      try clear c15b1
      try clear c17
      try clear c17b0
      try clear c17b1
      try clear c18
      try clear c18b0
      try clear c18b1
      try clear c20
      try clear c20b0
      try clear c20b1
      try clear c24
      try clear c24b0
      try clear c24b1
      try clear c24b2
      try clear hcz10_0
      try clear hcz10_1
      try clear hcz10_2
      try clear hfz10_0
      try clear hfz10_1
      try clear hfz10_2
      obtain ⟨kq, x5_4, x404001_4, x404002_4, rfl, HA, HJ4, BK409, HI403, HB⟩ := hcut
      cases kq with
      | zero => exact absurd HA.out (by simp [spec_DrawRecoverLog.j0])
      | succ kj4 =>
        have H := HA.out
        clear HA
        simp only [spec_DrawRecoverLog.j0] at H
        replace H := Option.bind_eq_some_iff.mp H
        obtain ⟨⟨t427, t428, t429⟩, A280, H⟩ := H
        replace H : (if t427 = true then ((spec_l1Cur_pick.f l0 t428 t429 2).bind fun bt430 => (if 0 ≤ (wrap64 (30000 + bt430.1)) then (if (wrap64 (30000 + bt430.1) : Int).toNat ≤ 281474976710656 then (some (strOfNums (List.replicate (wrap64 (30000 + bt430.1) : Int).toNat 0))) else (none)) else (none))) else (some x5_4)) = some r := H
        have A28 := zA A280
        clear A280
        by_cases c29 : t427 = true
        · subst c29
          have H1 : ((spec_l1Cur_pick.f l0 t428 t429 2).bind fun bt430 => (if 0 ≤ (wrap64 (30000 + bt430.1)) then (if (wrap64 (30000 + bt430.1) : Int).toNat ≤ 281474976710656 then (some (strOfNums (List.replicate (wrap64 (30000 + bt430.1) : Int).toNat 0))) else (none)) else (none))) = some r := by rw [if_pos rfl] at H; exact H
          clear H
          have H := H1
          clear H1
          replace H := Option.bind_eq_some_iff.mp H
          obtain ⟨⟨t430, t431, t432⟩, A300, H⟩ := H
          replace H : (if 0 ≤ (wrap64 (30000 + t430)) then (if (wrap64 (30000 + t430) : Int).toNat ≤ 281474976710656 then (some (strOfNums (List.replicate (wrap64 (30000 + t430) : Int).toNat 0))) else (none)) else (none)) = some r := H
          have A30 := zA A300
          clear A300
          obtain ⟨ji31, hji31⟩ : ∃ j_ : Int, (wrap64 (30000 + t430)) = j_ := ⟨_, rfl⟩
          replace H : (if 0 ≤ (ji31) then (if (ji31 : Int).toNat ≤ 281474976710656 then (some (strOfNums (List.replicate (ji31 : Int).toNat 0))) else (none)) else (none)) = some r := by first | (rw [hji31] at H; exact H) | (simp only [hji31] at H ⊢; exact H)
          (try rw [hji31] at A28)
          (try rw [hji31] at A30)
          have hji31w : (IntKind.i64.wrap (30000 + t430)) = ji31 := (i64_w _).trans hji31
          by_cases c32 : 0 ≤ (ji31)
          · rw [if_pos c32] at H
            have c32b0 := eq_true c32
            have c32b1 : decide (0 ≤ (ji31)) = true := qE c32
            clear c32
            by_cases c33 : (ji31 : Int).toNat ≤ 281474976710656
            · rw [if_pos c33] at H
              have c33b0 := eq_true c33
              have c33b1 : decide ((ji31 : Int).toNat ≤ 281474976710656) = true := qE c33
              clear c33
              obtain ⟨y433, hy433⟩ : ∃ y_ : List Int, y_ = (List.replicate (ji31 : Int).toNat 0) := ⟨_, rfl⟩
              replace H : (some (strOfNums y433)) = some r := by first | (rw [hy433]; with_reducible exact H) | (have H2_ := (Option.bind_some _ _).symm.trans H; rw [hy433]; with_reducible exact H2_) | (have H2_ := (Option.bind_some _ _).symm.trans H; with_reducible exact H2_) | with_reducible exact H | (rw [hy433]; exact H) | exact H
              have Ny433 := zA hy433
              clear hy433
              obtain rfl := Option.some.inj H
              go_wp2_with (first | ((with_reducible refine zS (f := 64) rfl ?_); refine qW (some 42) rfl rfl Tryd.func64 (by kernel_rfl) rfl #[.pointer (some ⟨gb403, 0, none⟩), .int .i64 40] rfl (by (try simp only [List.map_toArray, List.map_cons, List.map_nil]); first | done | rfl | (simp only [qN, qM]; rfl)) ?_; (with_reducible refine (spec_l1Cur_one.calls gb403 l0 x404001_4 x404002_4 40 true t428 t429 w _ ?side1 ?side2 A28.out).mono ?_); (case side1 => repeat (first | (with_reducible first | exact HI403.out | apply jB | apply jA | apply jE | apply jC | apply jD | refine jF ?_ NB403_409.out _) | exact HI403.out)); (case side2 => repeat (first | (with_reducible first | exact HB.out | apply zD | apply zB | apply zC | refine zE ?_ (jG HI403.out) | refine zE ?_ GE409.out) | exact HB.out)); rintro e w34 ⟨rfl, hi, hb, hk⟩; refine ⟨_, rfl, ?_⟩; have n0_ := zA (qA hk (g' := gb409) (o := .cells #[.string t404, .string t405, .int .i64 t406] 25 (0, 0)) (by (with_reducible repeat (first | refine zF ?_ _ | refine zH ?_ | refine zG ?_ _)); exact BK409.out) NB409_403.out (by simp)); have n1_ := zA (hb); have n2_ := zA (hi); clear BK409; clear HB; clear HI403; have BK409 := n0_; have HB := n1_; have HI403 := n2_; clear n0_ n1_ n2_; (try clear hb); (try clear hb2); (try clear hk); (try clear hi)) | ((with_reducible refine zS (f := 59) rfl ?_); refine qW (some 44) rfl rfl Tryd.func59 (by kernel_rfl) rfl #[.pointer (some ⟨gb403, 0, none⟩), .int .i64 2] rfl (by (try simp only [List.map_toArray, List.map_cons, List.map_nil]); first | done | rfl | (simp only [qN, qM]; rfl)) ?_; (with_reducible refine (spec_l1Cur_pick.calls gb403 l0 t428 t429 2 t430 t431 t432 w _ ?side1 ?side2 A30.out).mono ?_); (case side1 => repeat (first | (with_reducible first | exact HI403.out | apply jB | apply jA | apply jE | apply jC | apply jD | refine jF ?_ NB403_409.out _) | exact HI403.out)); (case side2 => repeat (first | (with_reducible first | exact HB.out | apply zD | apply zB | apply zC | refine zE ?_ (jG HI403.out) | refine zE ?_ GE409.out) | exact HB.out)); rintro e w35 ⟨rfl, hi, hb, hk⟩; refine ⟨_, rfl, ?_⟩; have n0_ := zA (qA hk (g' := gb409) (o := .cells #[.string t404, .string t405, .int .i64 t406] 25 (0, 0)) (by (with_reducible repeat (first | refine zF ?_ _ | refine zH ?_ | refine zG ?_ _)); exact BK409.out) NB409_403.out (by simp)); have n1_ := zA (hb); have n2_ := zA (hi); clear BK409; clear HB; clear HI403; have BK409 := n0_; have HB := n1_; have HI403 := n2_; clear n0_ n1_ n2_; (try clear hb); (try clear hb2); (try clear hk); (try clear hi)) | ((with_reducible refine zZ (N := 46) rfl ?_); refine Kd.R_make (Kd.int .u8) _ 5 rfl (N := 46) rfl 44 _ _ rfl ji31 rfl rfl Tryd.underlying44 (.int .u8 0) 1 info5 rfl (by decide) (by omega) 0 (ok := fun _ => True) (okp := fun _ => True) rfl (fun _ hk => hk) trivial (qF (by first | (with_reducible assumption) | assumption)) (Nat.le_trans (Nat.mul_le_mul_right _ (qF (by first | (with_reducible assumption) | assumption) : ji31.toNat ≤ 281474976710656)) (by omega)) (qO _ _) (Nat.le_refl _) ?_; intro v434 w36 ho37 hb hg_ hnew_; clear hg_ hnew_; (first | rw [← Ny433.out] at ho37 | (simp only [Int.reduceToNat] at ho37; rw [← Ny433.out] at ho37)); have n0_ := zA (Kd.R_lower ho37 (zK (by repeat (first | (with_reducible first | exact HB.out | apply zD | apply zB | apply zC | refine zE ?_ (jG HI403.out) | refine zE ?_ GE409.out) | exact HB.out)))); have n1_ := zA (zR (g := gb409) (o := .cells #[.string t404, .string t405, .int .i64 t406] 25 (0, 0)) (by (with_reducible repeat (first | refine zF ?_ _ | refine zH ?_ | refine zG ?_ _)); exact BK409.out) hb); have n2_ := zA (jH (by repeat (first | (with_reducible first | exact HI403.out | apply jB | apply jA | apply jE | apply jC | apply jD | refine jF ?_ NB403_409.out _) | exact HI403.out)) hb); have n3_ := zA (zL (by repeat (first | (with_reducible first | exact HB.out | apply zD | apply zB | apply zC | refine zE ?_ (jG HI403.out) | refine zE ?_ GE409.out) | exact HB.out)) hb); clear BK409; clear HI403; clear HB; have HO435 := n0_; have BK409 := n1_; have HI403 := n2_; have HB := n3_; clear n0_ n1_ n2_ n3_; clear hb ho37; have hcv38 := own_string (P := Tryd.prog) Tryd.underlying44 Tryd.underlying5 Tryd.underlying9 (Kd.own_of_R HO435.out)))
              go_ret
              exact ⟨by first | rfl | (simp [qH, qI] <;> rfl) | (simp only [← hji31]; first | rfl | (simp [qH, qI] <;> rfl)) | (simp [*, qH, qI] <;> rfl), by repeat (first | (with_reducible first | exact HB.out | apply zD | apply zB | apply zC | refine zE ?_ (jG HI403.out) | refine zE ?_ GE409.out) | exact HB.out)⟩
            · rw [if_neg c33] at H
              exact absurd H (by simp)
          · rw [if_neg c32] at H
            exact absurd H (by simp)
        · replace c29 := Bool.eq_false_iff.mpr c29
          subst c29
          have H1 : (some x5_4) = some r := by rw [if_neg (show ¬ (false = true) by decide)] at H; exact H
          clear H
          have H := H1
          clear H1
          obtain rfl := Option.some.inj H
          go_wp2_with (first | ((with_reducible refine zS (f := 64) rfl ?_); refine qW (some 42) rfl rfl Tryd.func64 (by kernel_rfl) rfl #[.pointer (some ⟨gb403, 0, none⟩), .int .i64 40] rfl (by (try simp only [List.map_toArray, List.map_cons, List.map_nil]); first | done | rfl | (simp only [qN, qM]; rfl)) ?_; (with_reducible refine (spec_l1Cur_one.calls gb403 l0 x404001_4 x404002_4 40 false t428 t429 w _ ?side1 ?side2 A28.out).mono ?_); (case side1 => repeat (first | (with_reducible first | exact HI403.out | apply jB | apply jA | apply jE | apply jC | apply jD | refine jF ?_ NB403_409.out _) | exact HI403.out)); (case side2 => repeat (first | (with_reducible first | exact HB.out | apply zD | apply zB | apply zC | refine zE ?_ (jG HI403.out) | refine zE ?_ GE409.out) | exact HB.out)); rintro e w39 ⟨rfl, hi, hb, hk⟩; refine ⟨_, rfl, ?_⟩; have n0_ := zA (qA hk (g' := gb409) (o := .cells #[.string t404, .string t405, .int .i64 t406] 25 (0, 0)) (by (with_reducible repeat (first | refine zF ?_ _ | refine zH ?_ | refine zG ?_ _)); exact BK409.out) NB409_403.out (by simp)); have n1_ := zA (hb); have n2_ := zA (hi); clear BK409; clear HB; clear HI403; have BK409 := n0_; have HB := n1_; have HI403 := n2_; clear n0_ n1_ n2_; (try clear hb); (try clear hb2); (try clear hk); (try clear hi)))
          go_ret
          exact ⟨by first | rfl | (simp [qH, qI] <;> rfl) | (simp [*, qH, qI] <;> rfl), by repeat (first | (with_reducible first | exact HB.out | apply zD | apply zB | apply zC | refine zE ?_ (jG HI403.out) | refine zE ?_ GE409.out) | exact HB.out)⟩
  · rw [if_neg c3] at H
    exact absurd H (by simp)
def impl_RecoverLog.f (k : Nat) (a0 : ByteArray) : Option (ByteArray × ByteArray × Int × Int × Bool) := if (a0.size : Int) > 30000 then (some ((⟨#[]⟩ : ByteArray), (⟨#[]⟩ : ByteArray), 0, 0, false)) else ((impl_decodeAll.f k a0).bind fun bt437 => (if 0 ≤ (bt437.1.length : Int) then (if (bt437.1.length : Int) < (bt437.2.length : Int) then (if 0 ≤ (rd bt437.2 (bt437.1.length : Int)) then (if (rd bt437.2 (bt437.1.length : Int)) ≤ (a0.size : Int) then (some (a0.extract 0 ((rd bt437.2 (bt437.1.length : Int)) : Int).toNat, (⟨#[]⟩ : ByteArray), (bt437.1.length : Int), rd bt437.2 (bt437.1.length : Int), true)) else (none)) else (none)) else (none)) else (none)))
set_option maxHeartbeats 8000000 in
set_option maxRecDepth 100000 in
theorem impl_RecoverLog.calls (k : Nat) (a0 : ByteArray) (r1 : ByteArray) (r2 : ByteArray) (r3 : Int) (r4 : Int) (r5 : Bool) (w : World) (hG : Glob w) (h : impl_RecoverLog.f k a0 = some (r1, r2, r3, r4, r5)) :
    Calls Tryd.prog 49 #[.string a0] w fun e w' => e = .returned (.tuple #[.agg #[.string r1, .string r2, .int .i64 r3], .int .i64 r4, .bool r5]) ∧ Below w.heap.size w w' := by
  have hu25 := Tryd.underlying25
  have HB := zA (qO w.heap.size w)
  have H : (if (a0.size : Int) > 30000 then (some ((⟨#[]⟩ : ByteArray), (⟨#[]⟩ : ByteArray), 0, 0, false)) else ((impl_decodeAll.f k a0).bind fun bt437 => (if 0 ≤ (bt437.1.length : Int) then (if (bt437.1.length : Int) < (bt437.2.length : Int) then (if 0 ≤ (rd bt437.2 (bt437.1.length : Int)) then (if (rd bt437.2 (bt437.1.length : Int)) ≤ (a0.size : Int) then (some (a0.extract 0 ((rd bt437.2 (bt437.1.length : Int)) : Int).toNat, (⟨#[]⟩ : ByteArray), (bt437.1.length : Int), rd bt437.2 (bt437.1.length : Int), true)) else (none)) else (none)) else (none)) else (none)))) = some (r1, r2, r3, r4, r5) := h
  clear h
  by_cases c2 : (a0.size : Int) > 30000
  · rw [if_pos c2] at H
    have c2b0 : decide (30000 < (a0.size : Int)) = true := qE c2
    have c2b1 : decide (30000 < a0.size) = true := qE (by omega)
    clear c2
    simp only [Option.some.injEq, Prod.mk.injEq] at H
    obtain ⟨rfl, rfl, rfl, rfl, rfl⟩ := H
    go_enter Tryd.func49, Tryd.ntmps49
    go_wp2_with (first | ((with_reducible refine zZ (N := 2) rfl ?_); refine zY ?hg (N := 2) ?hd (cs := #[.string (⟨#[]⟩ : ByteArray), .string (⟨#[]⟩ : ByteArray), .int .i64 0]) (t := 25) ?hr ?_; (case hd => rfl); (case hg => rfl); (case hr => first | (go_simp; done) | (go_simp; rfl)); intro gb436 hg w3 hbox hb; have n0_ := zA (zL (by repeat (first | (with_reducible first | exact HB.out | apply zD | apply zB | apply zC) | exact HB.out)) hb); have n1_ := zA (hbox); have n2_ := zA ((by rw [hg]; exact (zK (by repeat (first | (with_reducible first | exact HB.out | apply zD | apply zB | apply zC) | exact HB.out))) : w.heap.size ≤ gb436)); have n3_ := zA ((by rw [hg]; exact (zK (by repeat (first | (with_reducible first | exact HB.out | apply zD | apply zB | apply zC) | exact HB.out))) : w.heap.size ≤ gb436)); clear HB; have HB := n0_; have BK436 := n1_; have GW436 := n2_; have GE436 := n3_; clear n0_ n1_ n2_ n3_; clear hb hbox hg; have hcz4_0 : w3.cell? ⟨gb436, 0, none⟩ = some (.string (⟨#[]⟩ : ByteArray)) := (zJ BK436.out 0).trans rfl; have hcz4_1 : w3.cell? ⟨gb436, 1, none⟩ = some (.string (⟨#[]⟩ : ByteArray)) := (zJ BK436.out 1).trans rfl; have hcz4_2 : w3.cell? ⟨gb436, 2, none⟩ = some (.int .i64 0) := (zJ BK436.out 2).trans rfl; have hfz4_0 := zI BK436.out 0; have hfz4_1 := zI BK436.out 1; have hfz4_2 := zI BK436.out 2))
    refine bodyPost_ret (results_ctt rfl _ _ gb436 25 #[.string (⟨#[]⟩ : ByteArray), .string (⟨#[]⟩ : ByteArray), .int .i64 0] (0, 0) _ rfl (by (with_reducible repeat (first | refine zF ?_ _ | refine zH ?_ | refine zG ?_ _)); refine zX (cs := #[.string (⟨#[]⟩ : ByteArray), .string (⟨#[]⟩ : ByteArray), .int .i64 0]) ?_ 2 _ rfl; (with_reducible repeat (first | refine zF ?_ _ | refine zH ?_ | refine zG ?_ _)); refine zX (cs := #[.string (⟨#[]⟩ : ByteArray), .string (⟨#[]⟩ : ByteArray), .int .i64 0]) ?_ 1 _ rfl; (with_reducible repeat (first | refine zF ?_ _ | refine zH ?_ | refine zG ?_ _)); refine zX (cs := #[.string (⟨#[]⟩ : ByteArray), .string (⟨#[]⟩ : ByteArray), .int .i64 0]) ?_ 0 _ rfl; (with_reducible repeat (first | refine zF ?_ _ | refine zH ?_ | refine zG ?_ _)); exact BK436.out) Tryd.underlying25 rfl (by kernel_rfl)) rfl ?_
    exact ⟨by first | rfl | (simp [qH, qI] <;> rfl) | (simp [*, qH, qI] <;> rfl), by repeat (first | (with_reducible first | exact HB.out | apply zD | apply zB | apply zC | refine zE ?_ GE436.out) | exact HB.out)⟩
  · rw [if_neg c2] at H
    have c2b0 : decide (30000 < (a0.size : Int)) = false := qG c2
    have c2b1 : decide (30000 < a0.size) = false := qG (by omega)
    clear c2
    replace H := Option.bind_eq_some_iff.mp H
    obtain ⟨⟨t437, t438⟩, A50, H⟩ := H
    replace H : (if 0 ≤ (t437.length : Int) then (if (t437.length : Int) < (t438.length : Int) then (if 0 ≤ (rd t438 (t437.length : Int)) then (if (rd t438 (t437.length : Int)) ≤ (a0.size : Int) then (some (a0.extract 0 ((rd t438 (t437.length : Int)) : Int).toNat, (⟨#[]⟩ : ByteArray), (t437.length : Int), rd t438 (t437.length : Int), true)) else (none)) else (none)) else (none)) else (none)) = some (r1, r2, r3, r4, r5) := H
    have A5 := zA A50
    clear A50
    by_cases c6 : 0 ≤ (t437.length : Int)
    · rw [if_pos c6] at H
      have c6b0 : decide (0 ≤ (t437.length : Int)) = true := qE c6
      have c6b1 : decide (0 ≤ t437.length) = true := qE (by omega)
      clear c6
      by_cases c7 : (t437.length : Int) < (t438.length : Int)
      · rw [if_pos c7] at H
        have c7b0 : decide ((t437.length : Int) < (t438.length : Int)) = true := qE c7
        have c7b1 : decide (t437.length < t438.length) = true := qE (Int.ofNat_lt.mp c7)
        clear c7
        by_cases c8 : 0 ≤ (rd t438 (t437.length : Int))
        · rw [if_pos c8] at H
          have c8b0 := eq_true c8
          have c8b1 : decide (0 ≤ (rd t438 (t437.length : Int))) = true := qE c8
          clear c8
          by_cases c9 : (rd t438 (t437.length : Int)) ≤ (a0.size : Int)
          · rw [if_pos c9] at H
            have c9b0 := eq_true c9
            have c9b1 : decide ((rd t438 (t437.length : Int)) ≤ (a0.size : Int)) = true := qE c9
            clear c9
            simp only [Option.some.injEq, Prod.mk.injEq] at H
            obtain ⟨rfl, rfl, rfl, rfl, rfl⟩ := H
            go_enter Tryd.func49, Tryd.ntmps49
            go_wp2_with (first | ((with_reducible refine zZ (N := 2) rfl ?_); refine zY ?hg (N := 2) ?hd (cs := #[.string (⟨#[]⟩ : ByteArray), .string (⟨#[]⟩ : ByteArray), .int .i64 0]) (t := 25) ?hr ?_; (case hd => rfl); (case hg => rfl); (case hr => first | (go_simp; done) | (go_simp; rfl)); intro gb436 hg w10 hbox hb; have n0_ := zA (zL (by repeat (first | (with_reducible first | exact HB.out | apply zD | apply zB | apply zC) | exact HB.out)) hb); have n1_ := zA (hbox); have n2_ := zA ((by rw [hg]; exact (zK (by repeat (first | (with_reducible first | exact HB.out | apply zD | apply zB | apply zC) | exact HB.out))) : w.heap.size ≤ gb436)); have n3_ := zA ((by rw [hg]; exact (zK (by repeat (first | (with_reducible first | exact HB.out | apply zD | apply zB | apply zC) | exact HB.out))) : w.heap.size ≤ gb436)); clear HB; have HB := n0_; have BK436 := n1_; have GW436 := n2_; have GE436 := n3_; clear n0_ n1_ n2_ n3_; clear hb hbox hg) | ((with_reducible refine zS (f := 81) rfl ?_); refine qW (some 14) rfl rfl Tryd.func81 (by kernel_rfl) rfl #[.string a0] rfl (by (try simp only [List.map_toArray, List.map_cons, List.map_nil]); first | done | rfl | (simp only [qN, qM]; rfl)) ?_; (with_reducible refine (impl_decodeAll.calls k a0 t437 t438 _ ?side1 A5.out).mono ?_); (case side1 => exact Glob.below hG (by repeat (first | (with_reducible first | exact HB.out | apply zD | apply zB | apply zC | refine zE ?_ GE436.out) | exact HB.out))); rintro e w11 ⟨v439, v441, rfl, ho0, ho1, hb⟩; refine ⟨_, rfl, ?_⟩; have n0_ := zA (Kd.R_lower ho0 (zK (by repeat (first | (with_reducible first | exact HB.out | apply zD | apply zB | apply zC | refine zE ?_ GE436.out) | exact HB.out)))); have n1_ := zA (Kd.R_lower ho1 (zK (by repeat (first | (with_reducible first | exact HB.out | apply zD | apply zB | apply zC | refine zE ?_ GE436.out) | exact HB.out)))); have n2_ := zA (zR (g := gb436) (o := .cells #[.string (⟨#[]⟩ : ByteArray), .string (⟨#[]⟩ : ByteArray), .int .i64 0] 25 (0, 0)) (by (with_reducible repeat (first | refine zF ?_ _ | refine zH ?_ | refine zG ?_ _)); exact BK436.out) hb); have n3_ := zA (zL (by repeat (first | (with_reducible first | exact HB.out | apply zD | apply zB | apply zC | refine zE ?_ GE436.out) | exact HB.out)) hb); clear BK436; clear HB; have HO440 := n0_; have HO442 := n1_; have BK436 := n2_; have HB := n3_; clear n0_ n1_ n2_ n3_; (try clear hb); (try clear hb2); (try clear hk); (try clear hi); (try clear ho0); (try clear ho1); obtain ⟨Ao12, co12, eo12⟩ := Kd.R_slice HO440.out; subst eo12; obtain ⟨Ao13, co13, eo13⟩ := Kd.R_slice HO442.out; subst eo13; have p443 : 0 ≤ ((t437.length : Int) : Int) := qF (by first | (with_reducible assumption) | assumption); have q443 : (t437.length : Int) < (t438.length : Int) := qF (by first | (with_reducible assumption) | assumption); obtain ⟨ad443, e443, hx443_0⟩ := Kd.at_int (Kd.R_reads' HO442.out).2.2 (t437.length : Int) p443 q443; cases e443; (try simp only [Go.IntWalk.toNatUp] at hx443_0); replace p443 := eq_true p443; replace q443 := eq_true q443; have hcz14_0 : w11.cell? ⟨gb436, 0, none⟩ = some (.string (⟨#[]⟩ : ByteArray)) := (zJ BK436.out 0).trans rfl; have hcz14_1 : w11.cell? ⟨gb436, 1, none⟩ = some (.string (⟨#[]⟩ : ByteArray)) := (zJ BK436.out 1).trans rfl; have hcz14_2 : w11.cell? ⟨gb436, 2, none⟩ = some (.int .i64 0) := (zJ BK436.out 2).trans rfl; have hfz14_0 := zI BK436.out 0; have hfz14_1 := zI BK436.out 1; have hfz14_2 := zI BK436.out 2))
            refine bodyPost_ret (results_ctt rfl _ _ gb436 25 #[.string (a0.extract 0 ((rd t438 (t437.length : Int)) : Int).toNat), .string (⟨#[]⟩ : ByteArray), .int .i64 (t437.length : Int)] (0, 0) _ rfl (by (with_reducible repeat (first | refine zF ?_ _ | refine zH ?_ | refine zG ?_ _)); refine zX (cs := #[.string (a0.extract 0 ((rd t438 (t437.length : Int)) : Int).toNat), .string (⟨#[]⟩ : ByteArray), .int .i64 0]) ?_ 2 _ rfl; (with_reducible repeat (first | refine zF ?_ _ | refine zH ?_ | refine zG ?_ _)); refine zX (cs := #[.string (a0.extract 0 ((rd t438 (t437.length : Int)) : Int).toNat), .string (⟨#[]⟩ : ByteArray), .int .i64 0]) ?_ 1 _ rfl; (with_reducible repeat (first | refine zF ?_ _ | refine zH ?_ | refine zG ?_ _)); refine zX (cs := #[.string (⟨#[]⟩ : ByteArray), .string (⟨#[]⟩ : ByteArray), .int .i64 0]) ?_ 0 _ rfl; (with_reducible repeat (first | refine zF ?_ _ | refine zH ?_ | refine zG ?_ _)); exact BK436.out) Tryd.underlying25 rfl (by kernel_rfl)) rfl ?_
            exact ⟨by first | rfl | (simp [qH, qI] <;> rfl) | (simp [*, qH, qI] <;> rfl), by repeat (first | (with_reducible first | exact HB.out | apply zD | apply zB | apply zC | refine zE ?_ GE436.out) | exact HB.out)⟩
          · rw [if_neg c9] at H
            exact absurd H (by simp)
        · rw [if_neg c8] at H
          exact absurd H (by simp)
      · rw [if_neg c7] at H
        exact absurd H (by simp)
    · rw [if_neg c6] at H
      exact absurd H (by simp)
def spec_RecoverLog.f (k : Nat) (a0 : ByteArray) : Option (ByteArray × ByteArray × Int × Int × Bool) := if (a0.size : Int) > 30000 then (some ((⟨#[]⟩ : ByteArray), (⟨#[]⟩ : ByteArray), 0, 0, false)) else ((spec_l12Open.f k a0).bind fun bt445 => (if 0 ≤ bt445.2 then (if bt445.2 ≤ (a0.size : Int) then (some (a0.extract 0 (bt445.2 : Int).toNat, (⟨#[]⟩ : ByteArray), (bt445.1.length : Int), bt445.2, true)) else (none)) else (none)))
set_option maxHeartbeats 8000000 in
set_option maxRecDepth 100000 in
theorem spec_RecoverLog.calls (k : Nat) (a0 : ByteArray) (r1 : ByteArray) (r2 : ByteArray) (r3 : Int) (r4 : Int) (r5 : Bool) (w : World) (h : spec_RecoverLog.f k a0 = some (r1, r2, r3, r4, r5)) :
    Calls Tryd.prog 50 #[.string a0] w fun e w' => e = .returned (.tuple #[.agg #[.string r1, .string r2, .int .i64 r3], .int .i64 r4, .bool r5]) ∧ Below w.heap.size w w' := by
  have hu25 := Tryd.underlying25
  have HB := zA (qO w.heap.size w)
  have H : (if (a0.size : Int) > 30000 then (some ((⟨#[]⟩ : ByteArray), (⟨#[]⟩ : ByteArray), 0, 0, false)) else ((spec_l12Open.f k a0).bind fun bt445 => (if 0 ≤ bt445.2 then (if bt445.2 ≤ (a0.size : Int) then (some (a0.extract 0 (bt445.2 : Int).toNat, (⟨#[]⟩ : ByteArray), (bt445.1.length : Int), bt445.2, true)) else (none)) else (none)))) = some (r1, r2, r3, r4, r5) := h
  clear h
  by_cases c2 : (a0.size : Int) > 30000
  · rw [if_pos c2] at H
    have c2b0 : decide (30000 < (a0.size : Int)) = true := qE c2
    have c2b1 : decide (30000 < a0.size) = true := qE (by omega)
    clear c2
    simp only [Option.some.injEq, Prod.mk.injEq] at H
    obtain ⟨rfl, rfl, rfl, rfl, rfl⟩ := H
    go_enter Tryd.func50, Tryd.ntmps50
    go_wp2_with (first | ((with_reducible refine zZ (N := 2) rfl ?_); refine zY ?hg (N := 2) ?hd (cs := #[.string (⟨#[]⟩ : ByteArray), .string (⟨#[]⟩ : ByteArray), .int .i64 0]) (t := 25) ?hr ?_; (case hd => rfl); (case hg => rfl); (case hr => first | (go_simp; done) | (go_simp; rfl)); intro gb444 hg w3 hbox hb; have n0_ := zA (zL (by repeat (first | (with_reducible first | exact HB.out | apply zD | apply zB | apply zC) | exact HB.out)) hb); have n1_ := zA (hbox); have n2_ := zA ((by rw [hg]; exact (zK (by repeat (first | (with_reducible first | exact HB.out | apply zD | apply zB | apply zC) | exact HB.out))) : w.heap.size ≤ gb444)); have n3_ := zA ((by rw [hg]; exact (zK (by repeat (first | (with_reducible first | exact HB.out | apply zD | apply zB | apply zC) | exact HB.out))) : w.heap.size ≤ gb444)); clear HB; have HB := n0_; have BK444 := n1_; have GW444 := n2_; have GE444 := n3_; clear n0_ n1_ n2_ n3_; clear hb hbox hg; have hcz4_0 : w3.cell? ⟨gb444, 0, none⟩ = some (.string (⟨#[]⟩ : ByteArray)) := (zJ BK444.out 0).trans rfl; have hcz4_1 : w3.cell? ⟨gb444, 1, none⟩ = some (.string (⟨#[]⟩ : ByteArray)) := (zJ BK444.out 1).trans rfl; have hcz4_2 : w3.cell? ⟨gb444, 2, none⟩ = some (.int .i64 0) := (zJ BK444.out 2).trans rfl; have hfz4_0 := zI BK444.out 0; have hfz4_1 := zI BK444.out 1; have hfz4_2 := zI BK444.out 2))
    refine bodyPost_ret (results_ctt rfl _ _ gb444 25 #[.string (⟨#[]⟩ : ByteArray), .string (⟨#[]⟩ : ByteArray), .int .i64 0] (0, 0) _ rfl (by (with_reducible repeat (first | refine zF ?_ _ | refine zH ?_ | refine zG ?_ _)); refine zX (cs := #[.string (⟨#[]⟩ : ByteArray), .string (⟨#[]⟩ : ByteArray), .int .i64 0]) ?_ 2 _ rfl; (with_reducible repeat (first | refine zF ?_ _ | refine zH ?_ | refine zG ?_ _)); refine zX (cs := #[.string (⟨#[]⟩ : ByteArray), .string (⟨#[]⟩ : ByteArray), .int .i64 0]) ?_ 1 _ rfl; (with_reducible repeat (first | refine zF ?_ _ | refine zH ?_ | refine zG ?_ _)); refine zX (cs := #[.string (⟨#[]⟩ : ByteArray), .string (⟨#[]⟩ : ByteArray), .int .i64 0]) ?_ 0 _ rfl; (with_reducible repeat (first | refine zF ?_ _ | refine zH ?_ | refine zG ?_ _)); exact BK444.out) Tryd.underlying25 rfl (by kernel_rfl)) rfl ?_
    exact ⟨by first | rfl | (simp [qH, qI] <;> rfl) | (simp [*, qH, qI] <;> rfl), by repeat (first | (with_reducible first | exact HB.out | apply zD | apply zB | apply zC | refine zE ?_ GE444.out) | exact HB.out)⟩
  · rw [if_neg c2] at H
    have c2b0 : decide (30000 < (a0.size : Int)) = false := qG c2
    have c2b1 : decide (30000 < a0.size) = false := qG (by omega)
    clear c2
    replace H := Option.bind_eq_some_iff.mp H
    obtain ⟨⟨t445, t446⟩, A50, H⟩ := H
    replace H : (if 0 ≤ t446 then (if t446 ≤ (a0.size : Int) then (some (a0.extract 0 (t446 : Int).toNat, (⟨#[]⟩ : ByteArray), (t445.length : Int), t446, true)) else (none)) else (none)) = some (r1, r2, r3, r4, r5) := H
    have A5 := zA A50
    clear A50
    by_cases c6 : 0 ≤ t446
    · rw [if_pos c6] at H
      have c6b0 := eq_true c6
      have c6b1 : decide (0 ≤ t446) = true := qE c6
      clear c6
      by_cases c7 : t446 ≤ (a0.size : Int)
      · rw [if_pos c7] at H
        have c7b0 := eq_true c7
        have c7b1 : decide (t446 ≤ (a0.size : Int)) = true := qE c7
        clear c7
        simp only [Option.some.injEq, Prod.mk.injEq] at H
        obtain ⟨rfl, rfl, rfl, rfl, rfl⟩ := H
        go_enter Tryd.func50, Tryd.ntmps50
        go_wp2_with (first | ((with_reducible refine zZ (N := 2) rfl ?_); refine zY ?hg (N := 2) ?hd (cs := #[.string (⟨#[]⟩ : ByteArray), .string (⟨#[]⟩ : ByteArray), .int .i64 0]) (t := 25) ?hr ?_; (case hd => rfl); (case hg => rfl); (case hr => first | (go_simp; done) | (go_simp; rfl)); intro gb444 hg w8 hbox hb; have n0_ := zA (zL (by repeat (first | (with_reducible first | exact HB.out | apply zD | apply zB | apply zC) | exact HB.out)) hb); have n1_ := zA (hbox); have n2_ := zA ((by rw [hg]; exact (zK (by repeat (first | (with_reducible first | exact HB.out | apply zD | apply zB | apply zC) | exact HB.out))) : w.heap.size ≤ gb444)); have n3_ := zA ((by rw [hg]; exact (zK (by repeat (first | (with_reducible first | exact HB.out | apply zD | apply zB | apply zC) | exact HB.out))) : w.heap.size ≤ gb444)); clear HB; have HB := n0_; have BK444 := n1_; have GW444 := n2_; have GE444 := n3_; clear n0_ n1_ n2_ n3_; clear hb hbox hg) | ((with_reducible refine zS (f := 54) rfl ?_); refine qW (some 13) rfl rfl Tryd.func54 (by kernel_rfl) rfl #[.string a0] rfl (by (try simp only [List.map_toArray, List.map_cons, List.map_nil]); first | done | rfl | (simp only [qN, qM]; rfl)) ?_; (with_reducible refine (spec_l12Open.calls k a0 t445 t446 _ A5.out).mono ?_); rintro e w9 ⟨v447, rfl, ho0, hb⟩; refine ⟨_, rfl, ?_⟩; have n0_ := zA (Kd.R_lower ho0 (zK (by repeat (first | (with_reducible first | exact HB.out | apply zD | apply zB | apply zC | refine zE ?_ GE444.out) | exact HB.out)))); have n1_ := zA (zR (g := gb444) (o := .cells #[.string (⟨#[]⟩ : ByteArray), .string (⟨#[]⟩ : ByteArray), .int .i64 0] 25 (0, 0)) (by (with_reducible repeat (first | refine zF ?_ _ | refine zH ?_ | refine zG ?_ _)); exact BK444.out) hb); have n2_ := zA (zL (by repeat (first | (with_reducible first | exact HB.out | apply zD | apply zB | apply zC | refine zE ?_ GE444.out) | exact HB.out)) hb); clear BK444; clear HB; have HO448 := n0_; have BK444 := n1_; have HB := n2_; clear n0_ n1_ n2_; (try clear hb); (try clear hb2); (try clear hk); (try clear hi); (try clear ho0); obtain ⟨Ao10, co10, eo10⟩ := Kd.R_slice HO448.out; subst eo10; have hcz11_0 : w9.cell? ⟨gb444, 0, none⟩ = some (.string (⟨#[]⟩ : ByteArray)) := (zJ BK444.out 0).trans rfl; have hcz11_1 : w9.cell? ⟨gb444, 1, none⟩ = some (.string (⟨#[]⟩ : ByteArray)) := (zJ BK444.out 1).trans rfl; have hcz11_2 : w9.cell? ⟨gb444, 2, none⟩ = some (.int .i64 0) := (zJ BK444.out 2).trans rfl; have hfz11_0 := zI BK444.out 0; have hfz11_1 := zI BK444.out 1; have hfz11_2 := zI BK444.out 2))
        refine bodyPost_ret (results_ctt rfl _ _ gb444 25 #[.string (a0.extract 0 (t446 : Int).toNat), .string (⟨#[]⟩ : ByteArray), .int .i64 (t445.length : Int)] (0, 0) _ rfl (by (with_reducible repeat (first | refine zF ?_ _ | refine zH ?_ | refine zG ?_ _)); refine zX (cs := #[.string (a0.extract 0 (t446 : Int).toNat), .string (⟨#[]⟩ : ByteArray), .int .i64 0]) ?_ 2 _ rfl; (with_reducible repeat (first | refine zF ?_ _ | refine zH ?_ | refine zG ?_ _)); refine zX (cs := #[.string (a0.extract 0 (t446 : Int).toNat), .string (⟨#[]⟩ : ByteArray), .int .i64 0]) ?_ 1 _ rfl; (with_reducible repeat (first | refine zF ?_ _ | refine zH ?_ | refine zG ?_ _)); refine zX (cs := #[.string (⟨#[]⟩ : ByteArray), .string (⟨#[]⟩ : ByteArray), .int .i64 0]) ?_ 0 _ rfl; (with_reducible repeat (first | refine zF ?_ _ | refine zH ?_ | refine zG ?_ _)); exact BK444.out) Tryd.underlying25 rfl (by kernel_rfl)) rfl ?_
        exact ⟨by first | rfl | (simp [qH, qI] <;> rfl) | (simp [*, qH, qI] <;> rfl), by repeat (first | (with_reducible first | exact HB.out | apply zD | apply zB | apply zC | refine zE ?_ GE444.out) | exact HB.out)⟩
      · rw [if_neg c7] at H
        exact absurd H (by simp)
    · rw [if_neg c6] at H
      exact absurd H (by simp)
end Go.Proofs.YtnbhbnndfpfikaaDoor.X
