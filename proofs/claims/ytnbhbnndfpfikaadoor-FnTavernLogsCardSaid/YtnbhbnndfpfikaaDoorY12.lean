/- What functions of the program return (each as a Lean function and its contract); written by a program of this session's over the kit's printer. -/
import Derived.Test.YtnbhbnndfpfikaaDoorY0
import Derived.Test.YtnbhbnndfpfikaaDoorY1
import Derived.Test.YtnbhbnndfpfikaaDoorY7
import Derived.Test.YtnbhbnndfpfikaaDoorY9
import Derived.Test.YtnbhbnndfpfikaaDoorY10
import Derived.Test.YtnbhbnndfpfikaaDoorY11
namespace Go.Proofs.YtnbhbnndfpfikaaDoor.X
open Go.RowKit Go.Proofs.YtnbhbnndfpfikaaDoorW.PrintWords Go.Proofs.YtnbhbnndfpfikaaDoorW.PrintLast Go.Proofs.YtnbhbnndfpfikaaDoorW.PrintMore
attribute [local go_sem] max2_int min2_int max_two min_two max_three min_three max_four min_four   -- for this text's walks alone
set_option linter.unusedVariables false
set_option linter.unusedSimpArgs false
attribute [local go_sem high] eqA36
def spec_DrawAppendRecord.l0 : Nat → Int → List Int → Int → Int → ByteArray → ByteArray → Int → Option (ByteArray × ByteArray × Int × ByteArray × ByteArray)
  | 0, _, _, _, _, _, _, _ => none
  | k + 1, x6, x363000, x363001, x363002, x369000, x369001, x369002 => if x6 > 0 then ((spec_AppendRecord.f k x369000 x369001 x369002 (⟨#[120]⟩ : ByteArray) (⟨#[]⟩ : ByteArray)).bind fun bt375 => (spec_DrawAppendRecord.l0 k (wrap64 (x6 - 1)) x363000 x363001 x363002 bt375.1 bt375.2.1 bt375.2.2.1)) else ((spec_l1Cur_logRecord.f x363000 x363001 x363002).bind fun bt379 => (some (x369000, x369001, x369002, bt379.1, bt379.2.1)))
def spec_DrawAppendRecord.f (k : Nat) (l0 : List Int) : Option (ByteArray × ByteArray × Int × ByteArray × ByteArray) := (spec_l1Cur_anyLog.f k l0 0 0).bind fun bt363 => ((spec_l1Cur_one.f l0 bt363.2.2.2.1 bt363.2.2.2.2 40).bind fun bt369 => (if bt369.1 = true then ((spec_l1Cur_pick.f l0 bt369.2.1 bt369.2.2 2).bind fun bt372 => (spec_DrawAppendRecord.l0 k (wrap64 (59 + bt372.1)) l0 bt372.2.1 bt372.2.2 (⟨#[]⟩ : ByteArray) (⟨#[]⟩ : ByteArray) 0)) else ((spec_l1Cur_logRecord.f l0 bt369.2.1 bt369.2.2).bind fun bt383 => (some (bt363.1, bt363.2.1, bt363.2.2.1, bt383.1, bt383.2.1)))))
set_option maxHeartbeats 8000000 in
set_option maxRecDepth 100000 in
theorem spec_DrawAppendRecord.calls (k : Nat) (A0 : Option Addr) (c0 : Nat) (l0 : List Int) (r1 : ByteArray) (r2 : ByteArray) (r3 : Int) (r4 : ByteArray) (r5 : ByteArray) (w : World) (hr0 : Kd.C (Kd.int .u8) w A0 l0.length l0) (hc0 : l0.length ≤ c0) (h : spec_DrawAppendRecord.f k l0 = some (r1, r2, r3, r4, r5)) :
    Calls Tryd.prog 42 #[.slice A0 l0.length c0] w fun e w' => e = .returned (.tuple #[.agg #[.string r1, .string r2, .int .i64 r3], .agg #[.string r4, .string r5]]) ∧ Below w.heap.size w w' := by
  have hu25 := Tryd.underlying25
  have hu36 := Tryd.underlying36
  have hu75 := Tryd.underlying75
  have HR0 := zA hr0
  have HC0 := zA hc0
  clear hr0 hc0
  have HB := zA (qO w.heap.size w)
  have H : ((spec_l1Cur_anyLog.f k l0 0 0).bind fun bt363 => ((spec_l1Cur_one.f l0 bt363.2.2.2.1 bt363.2.2.2.2 40).bind fun bt369 => (if bt369.1 = true then ((spec_l1Cur_pick.f l0 bt369.2.1 bt369.2.2 2).bind fun bt372 => (spec_DrawAppendRecord.l0 k (wrap64 (59 + bt372.1)) l0 bt372.2.1 bt372.2.2 (⟨#[]⟩ : ByteArray) (⟨#[]⟩ : ByteArray) 0)) else ((spec_l1Cur_logRecord.f l0 bt369.2.1 bt369.2.2).bind fun bt383 => (some (bt363.1, bt363.2.1, bt363.2.2.1, bt383.1, bt383.2.1)))))) = some (r1, r2, r3, r4, r5) := h
  clear h
  replace H := Option.bind_eq_some_iff.mp H
  obtain ⟨⟨t363, t364, t365, t366, t367⟩, A20, H⟩ := H
  replace H : ((spec_l1Cur_one.f l0 t366 t367 40).bind fun bt369 => (if bt369.1 = true then ((spec_l1Cur_pick.f l0 bt369.2.1 bt369.2.2 2).bind fun bt372 => (spec_DrawAppendRecord.l0 k (wrap64 (59 + bt372.1)) l0 bt372.2.1 bt372.2.2 (⟨#[]⟩ : ByteArray) (⟨#[]⟩ : ByteArray) 0)) else ((spec_l1Cur_logRecord.f l0 bt369.2.1 bt369.2.2).bind fun bt383 => (some (t363, t364, t365, bt383.1, bt383.2.1))))) = some (r1, r2, r3, r4, r5) := H
  have A2 := zA A20
  clear A20
  replace H := Option.bind_eq_some_iff.mp H
  obtain ⟨⟨t369, t370, t371⟩, A30, H⟩ := H
  replace H : (if t369 = true then ((spec_l1Cur_pick.f l0 t370 t371 2).bind fun bt372 => (spec_DrawAppendRecord.l0 k (wrap64 (59 + bt372.1)) l0 bt372.2.1 bt372.2.2 (⟨#[]⟩ : ByteArray) (⟨#[]⟩ : ByteArray) 0)) else ((spec_l1Cur_logRecord.f l0 t370 t371).bind fun bt383 => (some (t363, t364, t365, bt383.1, bt383.2.1)))) = some (r1, r2, r3, r4, r5) := H
  have A3 := zA A30
  clear A30
  by_cases c4 : t369 = true
  · subst c4
    have H1 : ((spec_l1Cur_pick.f l0 t370 t371 2).bind fun bt372 => (spec_DrawAppendRecord.l0 k (wrap64 (59 + bt372.1)) l0 bt372.2.1 bt372.2.2 (⟨#[]⟩ : ByteArray) (⟨#[]⟩ : ByteArray) 0)) = some (r1, r2, r3, r4, r5) := by rw [if_pos rfl] at H; exact H
    clear H
    have H := H1
    clear H1
    replace H := Option.bind_eq_some_iff.mp H
    obtain ⟨⟨t372, t373, t374⟩, A50, H⟩ := H
    replace H : (spec_DrawAppendRecord.l0 k (wrap64 (59 + t372)) l0 t373 t374 (⟨#[]⟩ : ByteArray) (⟨#[]⟩ : ByteArray) 0) = some (r1, r2, r3, r4, r5) := H
    have A5 := zA A50
    clear A50
    have H' := zA H
    clear H
    go_enter Tryd.func42, Tryd.ntmps42
    go_wp2_with (first | ((with_reducible refine zZ (N := 2) rfl ?_); refine zY ?hg (N := 2) ?hd (cs := #[.string (⟨#[]⟩ : ByteArray), .string (⟨#[]⟩ : ByteArray), .int .i64 0]) (t := 25) ?hr ?_; (case hd => rfl); (case hg => rfl); (case hr => first | (go_simp; done) | (go_simp; rfl)); intro gb360 hg w6 hbox hb; have n0_ := zA (zL (by repeat (first | (with_reducible first | exact HB.out | apply zD | apply zB | apply zC) | exact HB.out)) hb); have n1_ := zA (hbox); have n2_ := zA ((by rw [hg]; exact (zK (by repeat (first | (with_reducible first | exact HB.out | apply zD | apply zB | apply zC) | exact HB.out))) : w.heap.size ≤ gb360)); have n3_ := zA ((by rw [hg]; exact (zK (by repeat (first | (with_reducible first | exact HB.out | apply zD | apply zB | apply zC) | exact HB.out))) : w.heap.size ≤ gb360)); clear HB; have HB := n0_; have BK360 := n1_; have GW360 := n2_; have GE360 := n3_; clear n0_ n1_ n2_ n3_; clear hb hbox hg) | ((with_reducible refine zZ (N := 3) rfl ?_); refine zY ?hg (N := 3) ?hd (cs := #[.string (⟨#[]⟩ : ByteArray), .string (⟨#[]⟩ : ByteArray)]) (t := 36) ?hr ?_; (case hd => rfl); (case hg => rfl); (case hr => first | (go_simp; done) | (go_simp; rfl)); intro gb361 hg w7 hbox hb; have n0_ := zA (zR (g := gb360) (o := .cells #[.string (⟨#[]⟩ : ByteArray), .string (⟨#[]⟩ : ByteArray), .int .i64 0] 25 (0, 0)) (by (with_reducible repeat (first | refine zF ?_ _ | refine zH ?_ | refine zG ?_ _)); exact BK360.out) hb); have n1_ := zA (zL (by repeat (first | (with_reducible first | exact HB.out | apply zD | apply zB | apply zC | refine zE ?_ GE360.out) | exact HB.out)) hb); have n2_ := zA (hbox); have n3_ := zA ((by rw [hg]; exact (zK (by repeat (first | (with_reducible first | exact HB.out | apply zD | apply zB | apply zC | refine zE ?_ GE360.out) | exact HB.out))) : w.heap.size ≤ gb361)); have n4_ := zA ((by rw [hg]; exact (zK (by repeat (first | (with_reducible first | exact HB.out | apply zD | apply zB | apply zC | refine zE ?_ GE360.out) | exact HB.out))) : w.heap.size ≤ gb361)); have n5_ := zA ((by rw [hg]; exact Nat.ne_of_lt (blk_lt (g := gb360) (o := .cells #[.string (⟨#[]⟩ : ByteArray), .string (⟨#[]⟩ : ByteArray), .int .i64 0] 25 (0, 0)) (by (with_reducible repeat (first | refine zF ?_ _ | refine zH ?_ | refine zG ?_ _)); exact BK360.out)) : gb360 ≠ gb361)); have n6_ := zA ((by rw [hg]; exact Nat.ne_of_gt (blk_lt (g := gb360) (o := .cells #[.string (⟨#[]⟩ : ByteArray), .string (⟨#[]⟩ : ByteArray), .int .i64 0] 25 (0, 0)) (by (with_reducible repeat (first | refine zF ?_ _ | refine zH ?_ | refine zG ?_ _)); exact BK360.out)) : gb361 ≠ gb360)); clear BK360; clear HB; have BK360 := n0_; have HB := n1_; have BK361 := n2_; have GW361 := n3_; have GE361 := n4_; have NB360_361 := n5_; have NB361_360 := n6_; clear n0_ n1_ n2_ n3_ n4_ n5_ n6_; clear hb hbox hg) | ((with_reducible refine zZ (N := 9) rfl ?_); refine zY ?hg (N := 9) ?hd (cs := #[.slice A0 l0.length c0, .int .i64 0, .int .u64 0]) (t := 75) ?hr ?_; (case hd => rfl); (case hg => rfl); (case hr => first | (go_simp; done) | (go_simp; rfl)); intro gb362 hg w8 hbox hb; have n0_ := zA (zR (g := gb360) (o := .cells #[.string (⟨#[]⟩ : ByteArray), .string (⟨#[]⟩ : ByteArray), .int .i64 0] 25 (0, 0)) (by (with_reducible repeat (first | refine zF ?_ _ | refine zH ?_ | refine zG ?_ _)); exact BK360.out) hb); have n1_ := zA (zR (g := gb361) (o := .cells #[.string (⟨#[]⟩ : ByteArray), .string (⟨#[]⟩ : ByteArray)] 36 (0, 0)) (by (with_reducible repeat (first | refine zF ?_ _ | refine zH ?_ | refine zG ?_ _)); exact BK361.out) hb); have n2_ := zA (zL (by repeat (first | (with_reducible first | exact HB.out | apply zD | apply zB | apply zC | refine zE ?_ GE360.out | refine zE ?_ GE361.out) | exact HB.out)) hb); have n3_ := zA (hbox); have n4_ := zA ((by rw [hg]; exact (zK (by repeat (first | (with_reducible first | exact HB.out | apply zD | apply zB | apply zC | refine zE ?_ GE360.out | refine zE ?_ GE361.out) | exact HB.out))) : w.heap.size ≤ gb362)); have n5_ := zA ((by rw [hg]; exact (zK (by repeat (first | (with_reducible first | exact HB.out | apply zD | apply zB | apply zC | refine zE ?_ GE360.out | refine zE ?_ GE361.out) | exact HB.out))) : w.heap.size ≤ gb362)); have n6_ := zA ((by rw [hg]; exact Nat.ne_of_lt (blk_lt (g := gb360) (o := .cells #[.string (⟨#[]⟩ : ByteArray), .string (⟨#[]⟩ : ByteArray), .int .i64 0] 25 (0, 0)) (by (with_reducible repeat (first | refine zF ?_ _ | refine zH ?_ | refine zG ?_ _)); exact BK360.out)) : gb360 ≠ gb362)); have n7_ := zA ((by rw [hg]; exact Nat.ne_of_gt (blk_lt (g := gb360) (o := .cells #[.string (⟨#[]⟩ : ByteArray), .string (⟨#[]⟩ : ByteArray), .int .i64 0] 25 (0, 0)) (by (with_reducible repeat (first | refine zF ?_ _ | refine zH ?_ | refine zG ?_ _)); exact BK360.out)) : gb362 ≠ gb360)); have n8_ := zA ((by rw [hg]; exact Nat.ne_of_lt (blk_lt (g := gb361) (o := .cells #[.string (⟨#[]⟩ : ByteArray), .string (⟨#[]⟩ : ByteArray)] 36 (0, 0)) (by (with_reducible repeat (first | refine zF ?_ _ | refine zH ?_ | refine zG ?_ _)); exact BK361.out)) : gb361 ≠ gb362)); have n9_ := zA ((by rw [hg]; exact Nat.ne_of_gt (blk_lt (g := gb361) (o := .cells #[.string (⟨#[]⟩ : ByteArray), .string (⟨#[]⟩ : ByteArray)] 36 (0, 0)) (by (with_reducible repeat (first | refine zF ?_ _ | refine zH ?_ | refine zG ?_ _)); exact BK361.out)) : gb362 ≠ gb361)); have n10_ := zA ((show IsS75 w w8 gb362 l0 0 0 from ⟨_, _, hbox, (by rw [hg]; exact (zK (by repeat (first | (with_reducible first | exact HB.out | apply zD | apply zB | apply zC | refine zE ?_ GE360.out | refine zE ?_ GE361.out) | exact HB.out)))), HR0.out⟩)); clear BK360; clear BK361; clear HB; have BK360 := n0_; have BK361 := n1_; have HB := n2_; have BK362 := n3_; have GW362 := n4_; have GE362 := n5_; have NB360_362 := n6_; have NB362_360 := n7_; have NB361_362 := n8_; have NB362_361 := n9_; have HI362 := n10_; clear n0_ n1_ n2_ n3_ n4_ n5_ n6_ n7_ n8_ n9_ n10_; clear hb hbox hg) | ((with_reducible refine zS (f := 78) rfl ?_); refine qW (some 11) rfl rfl Tryd.func78 (by kernel_rfl) rfl #[.pointer (some ⟨gb362, 0, none⟩)] rfl (by (try simp only [List.map_toArray, List.map_cons, List.map_nil]); first | done | rfl | (simp only [qN, qM]; rfl)) ?_; (with_reducible refine (spec_l1Cur_anyLog.calls k gb362 l0 0 0 t363 t364 t365 t366 t367 w _ ?side1 ?side2 A2.out).mono ?_); (case side1 => repeat (first | (with_reducible first | exact HI362.out | apply jB | apply jA | apply jE | apply jC | apply jD | refine jF ?_ NB362_360.out _ | refine jF ?_ NB362_361.out _) | exact HI362.out)); (case side2 => repeat (first | (with_reducible first | exact HB.out | apply zD | apply zB | apply zC | refine zE ?_ (jG HI362.out) | refine zE ?_ GE360.out | refine zE ?_ GE361.out) | exact HB.out)); rintro e w9 ⟨rfl, hi, hb, hk⟩; refine ⟨_, rfl, ?_⟩; have n0_ := zA (qA hk (g' := gb360) (o := .cells #[.string (⟨#[]⟩ : ByteArray), .string (⟨#[]⟩ : ByteArray), .int .i64 0] 25 (0, 0)) (by (with_reducible repeat (first | refine zF ?_ _ | refine zH ?_ | refine zG ?_ _)); exact BK360.out) NB360_362.out (by simp)); have n1_ := zA (qA hk (g' := gb361) (o := .cells #[.string (⟨#[]⟩ : ByteArray), .string (⟨#[]⟩ : ByteArray)] 36 (0, 0)) (by (with_reducible repeat (first | refine zF ?_ _ | refine zH ?_ | refine zG ?_ _)); exact BK361.out) NB361_362.out (by simp)); have n2_ := zA (hb); have n3_ := zA (hi); clear BK360; clear BK361; clear HB; clear HI362; have BK360 := n0_; have BK361 := n1_; have HB := n2_; have HI362 := n3_; clear n0_ n1_ n2_ n3_; (try clear hb); (try clear hb2); (try clear hk); (try clear hi)) | ((with_reducible refine zZ (N := 5) rfl ?_); refine zY ?hg (N := 5) ?hd (cs := #[.string (⟨#[]⟩ : ByteArray), .string (⟨#[]⟩ : ByteArray), .int .i64 0]) (t := 25) ?hr ?_; (case hd => rfl); (case hg => rfl); (case hr => first | (go_simp; done) | (go_simp; rfl)); intro gb368 hg w10 hbox hb; have n0_ := zA (zR (g := gb360) (o := .cells #[.string (⟨#[]⟩ : ByteArray), .string (⟨#[]⟩ : ByteArray), .int .i64 0] 25 (0, 0)) (by (with_reducible repeat (first | refine zF ?_ _ | refine zH ?_ | refine zG ?_ _)); exact BK360.out) hb); have n1_ := zA (zR (g := gb361) (o := .cells #[.string (⟨#[]⟩ : ByteArray), .string (⟨#[]⟩ : ByteArray)] 36 (0, 0)) (by (with_reducible repeat (first | refine zF ?_ _ | refine zH ?_ | refine zG ?_ _)); exact BK361.out) hb); have n2_ := zA (jH (by repeat (first | (with_reducible first | exact HI362.out | apply jB | apply jA | apply jE | apply jC | apply jD | refine jF ?_ NB362_360.out _ | refine jF ?_ NB362_361.out _) | exact HI362.out)) hb); have n3_ := zA (zL (by repeat (first | (with_reducible first | exact HB.out | apply zD | apply zB | apply zC | refine zE ?_ (jG HI362.out) | refine zE ?_ GE360.out | refine zE ?_ GE361.out) | exact HB.out)) hb); have n4_ := zA (hbox); have n5_ := zA ((by rw [hg]; exact (zK (by repeat (first | (with_reducible first | exact HB.out | apply zD | apply zB | apply zC | refine zE ?_ (jG HI362.out) | refine zE ?_ GE360.out | refine zE ?_ GE361.out) | exact HB.out))) : w.heap.size ≤ gb368)); have n6_ := zA ((by rw [hg]; exact (zK (by repeat (first | (with_reducible first | exact HB.out | apply zD | apply zB | apply zC | refine zE ?_ (jG HI362.out) | refine zE ?_ GE360.out | refine zE ?_ GE361.out) | exact HB.out))) : w.heap.size ≤ gb368)); have n7_ := zA ((by rw [hg]; exact Nat.ne_of_lt (blk_lt (g := gb360) (o := .cells #[.string (⟨#[]⟩ : ByteArray), .string (⟨#[]⟩ : ByteArray), .int .i64 0] 25 (0, 0)) (by (with_reducible repeat (first | refine zF ?_ _ | refine zH ?_ | refine zG ?_ _)); exact BK360.out)) : gb360 ≠ gb368)); have n8_ := zA ((by rw [hg]; exact Nat.ne_of_gt (blk_lt (g := gb360) (o := .cells #[.string (⟨#[]⟩ : ByteArray), .string (⟨#[]⟩ : ByteArray), .int .i64 0] 25 (0, 0)) (by (with_reducible repeat (first | refine zF ?_ _ | refine zH ?_ | refine zG ?_ _)); exact BK360.out)) : gb368 ≠ gb360)); have n9_ := zA ((by rw [hg]; exact Nat.ne_of_lt (blk_lt (g := gb361) (o := .cells #[.string (⟨#[]⟩ : ByteArray), .string (⟨#[]⟩ : ByteArray)] 36 (0, 0)) (by (with_reducible repeat (first | refine zF ?_ _ | refine zH ?_ | refine zG ?_ _)); exact BK361.out)) : gb361 ≠ gb368)); have n10_ := zA ((by rw [hg]; exact Nat.ne_of_gt (blk_lt (g := gb361) (o := .cells #[.string (⟨#[]⟩ : ByteArray), .string (⟨#[]⟩ : ByteArray)] 36 (0, 0)) (by (with_reducible repeat (first | refine zF ?_ _ | refine zH ?_ | refine zG ?_ _)); exact BK361.out)) : gb368 ≠ gb361)); have n11_ := zA ((by rw [hg]; exact Nat.ne_of_lt (jI (show IsS75 w _ gb362 l0 t366 t367 from by repeat (first | (with_reducible first | exact HI362.out | apply jB | apply jA | apply jE | apply jC | apply jD | refine jF ?_ NB362_360.out _ | refine jF ?_ NB362_361.out _) | exact HI362.out))) : gb362 ≠ gb368)); have n12_ := zA ((by rw [hg]; exact Nat.ne_of_gt (jI (show IsS75 w _ gb362 l0 t366 t367 from by repeat (first | (with_reducible first | exact HI362.out | apply jB | apply jA | apply jE | apply jC | apply jD | refine jF ?_ NB362_360.out _ | refine jF ?_ NB362_361.out _) | exact HI362.out))) : gb368 ≠ gb362)); clear BK360; clear BK361; clear HI362; clear HB; have BK360 := n0_; have BK361 := n1_; have HI362 := n2_; have HB := n3_; have BK368 := n4_; have GW368 := n5_; have GE368 := n6_; have NB360_368 := n7_; have NB368_360 := n8_; have NB361_368 := n9_; have NB368_361 := n10_; have NB362_368 := n11_; have NB368_362 := n12_; clear n0_ n1_ n2_ n3_ n4_ n5_ n6_ n7_ n8_ n9_ n10_ n11_ n12_; clear hb hbox hg; have hnb11 := NB368_360.out; have hnc11 := NB360_368.out; have hnb12 := NB368_361.out; have hnc12 := NB361_368.out; have hnb13 := NB368_362.out; have hnc13 := NB362_368.out; have hcz14_0 : w10.cell? ⟨gb368, 0, none⟩ = some (.string (⟨#[]⟩ : ByteArray)) := (zJ BK368.out 0).trans rfl; have hcz14_1 : w10.cell? ⟨gb368, 1, none⟩ = some (.string (⟨#[]⟩ : ByteArray)) := (zJ BK368.out 1).trans rfl; have hcz14_2 : w10.cell? ⟨gb368, 2, none⟩ = some (.int .i64 0) := (zJ BK368.out 2).trans rfl; have hfz14_0 := zI BK368.out 0; have hfz14_1 := zI BK368.out 1; have hfz14_2 := zI BK368.out 2) | ((with_reducible refine zS (f := 64) rfl ?_); refine qW (some 13) rfl rfl Tryd.func64 (by kernel_rfl) rfl #[.pointer (some ⟨gb362, 0, none⟩), .int .i64 40] rfl (by (try simp only [List.map_toArray, List.map_cons, List.map_nil]); first | done | rfl | (simp only [qN, qM]; rfl)) ?_; (with_reducible refine (spec_l1Cur_one.calls gb362 l0 t366 t367 40 true t370 t371 w _ ?side1 ?side2 A3.out).mono ?_); (case side1 => repeat (first | (with_reducible first | exact HI362.out | apply jB | apply jA | apply jE | apply jC | apply jD | refine jF ?_ NB362_360.out _ | refine jF ?_ NB362_361.out _ | refine jF ?_ NB362_368.out _) | exact HI362.out)); (case side2 => repeat (first | (with_reducible first | exact HB.out | apply zD | apply zB | apply zC | refine zE ?_ (jG HI362.out) | refine zE ?_ GE360.out | refine zE ?_ GE361.out | refine zE ?_ GE368.out) | exact HB.out)); rintro e w15 ⟨rfl, hi, hb, hk⟩; refine ⟨_, rfl, ?_⟩; have n0_ := zA (qA hk (g' := gb360) (o := .cells #[.string (⟨#[]⟩ : ByteArray), .string (⟨#[]⟩ : ByteArray), .int .i64 0] 25 (0, 0)) (by (with_reducible repeat (first | refine zF ?_ _ | refine zH ?_ | refine zG ?_ _)); refine blk_far ?_ NB360_368.out _; (with_reducible repeat (first | refine zF ?_ _ | refine zH ?_ | refine zG ?_ _)); refine blk_far ?_ NB360_368.out _; (with_reducible repeat (first | refine zF ?_ _ | refine zH ?_ | refine zG ?_ _)); refine blk_far ?_ NB360_368.out _; (with_reducible repeat (first | refine zF ?_ _ | refine zH ?_ | refine zG ?_ _)); exact BK360.out) NB360_362.out (by simp)); have n1_ := zA (qA hk (g' := gb361) (o := .cells #[.string (⟨#[]⟩ : ByteArray), .string (⟨#[]⟩ : ByteArray)] 36 (0, 0)) (by (with_reducible repeat (first | refine zF ?_ _ | refine zH ?_ | refine zG ?_ _)); refine blk_far ?_ NB361_368.out _; (with_reducible repeat (first | refine zF ?_ _ | refine zH ?_ | refine zG ?_ _)); refine blk_far ?_ NB361_368.out _; (with_reducible repeat (first | refine zF ?_ _ | refine zH ?_ | refine zG ?_ _)); refine blk_far ?_ NB361_368.out _; (with_reducible repeat (first | refine zF ?_ _ | refine zH ?_ | refine zG ?_ _)); exact BK361.out) NB361_362.out (by simp)); have n2_ := zA (qA hk (g' := gb368) (o := .cells #[.string t363, .string t364, .int .i64 t365] 25 (0, 0)) (by (with_reducible repeat (first | refine zF ?_ _ | refine zH ?_ | refine zG ?_ _)); refine zX (cs := #[.string t363, .string t364, .int .i64 0]) ?_ 2 _ rfl; (with_reducible repeat (first | refine zF ?_ _ | refine zH ?_ | refine zG ?_ _)); refine zX (cs := #[.string t363, .string (⟨#[]⟩ : ByteArray), .int .i64 0]) ?_ 1 _ rfl; (with_reducible repeat (first | refine zF ?_ _ | refine zH ?_ | refine zG ?_ _)); refine zX (cs := #[.string (⟨#[]⟩ : ByteArray), .string (⟨#[]⟩ : ByteArray), .int .i64 0]) ?_ 0 _ rfl; (with_reducible repeat (first | refine zF ?_ _ | refine zH ?_ | refine zG ?_ _)); exact BK368.out) NB368_362.out (by simp)); have n3_ := zA (hb); have n4_ := zA (hi); clear BK360; clear BK361; clear BK368; clear HB; clear HI362; have BK360 := n0_; have BK361 := n1_; have BK368 := n2_; have HB := n3_; have HI362 := n4_; clear n0_ n1_ n2_ n3_ n4_; (try clear hb); (try clear hb2); (try clear hk); (try clear hi); have hcz16_0 : w15.cell? ⟨gb368, 0, none⟩ = some (.string t363) := (zJ BK368.out 0).trans rfl; have hcz16_1 : w15.cell? ⟨gb368, 1, none⟩ = some (.string t364) := (zJ BK368.out 1).trans rfl; have hcz16_2 : w15.cell? ⟨gb368, 2, none⟩ = some (.int .i64 t365) := (zJ BK368.out 2).trans rfl; have hfz16_0 := zI BK368.out 0; have hfz16_1 := zI BK368.out 1; have hfz16_2 := zI BK368.out 2) | ((with_reducible refine zS (f := 59) rfl ?_); refine qW (some 16) rfl rfl Tryd.func59 (by kernel_rfl) rfl #[.pointer (some ⟨gb362, 0, none⟩), .int .i64 2] rfl (by (try simp only [List.map_toArray, List.map_cons, List.map_nil]); first | done | rfl | (simp only [qN, qM]; rfl)) ?_; (with_reducible refine (spec_l1Cur_pick.calls gb362 l0 t370 t371 2 t372 t373 t374 w _ ?side1 ?side2 A5.out).mono ?_); (case side1 => repeat (first | (with_reducible first | exact HI362.out | apply jB | apply jA | apply jE | apply jC | apply jD | refine jF ?_ NB362_360.out _ | refine jF ?_ NB362_361.out _ | refine jF ?_ NB362_368.out _) | exact HI362.out)); (case side2 => repeat (first | (with_reducible first | exact HB.out | apply zD | apply zB | apply zC | refine zE ?_ (jG HI362.out) | refine zE ?_ GE360.out | refine zE ?_ GE361.out | refine zE ?_ GE368.out) | exact HB.out)); rintro e w17 ⟨rfl, hi, hb, hk⟩; refine ⟨_, rfl, ?_⟩; have n0_ := zA (qA hk (g' := gb360) (o := .cells #[.string (⟨#[]⟩ : ByteArray), .string (⟨#[]⟩ : ByteArray), .int .i64 0] 25 (0, 0)) (by (with_reducible repeat (first | refine zF ?_ _ | refine zH ?_ | refine zG ?_ _)); refine blk_far ?_ NB360_368.out _; (with_reducible repeat (first | refine zF ?_ _ | refine zH ?_ | refine zG ?_ _)); refine blk_far ?_ NB360_368.out _; (with_reducible repeat (first | refine zF ?_ _ | refine zH ?_ | refine zG ?_ _)); refine blk_far ?_ NB360_368.out _; (with_reducible repeat (first | refine zF ?_ _ | refine zH ?_ | refine zG ?_ _)); exact BK360.out) NB360_362.out (by simp)); have n1_ := zA (qA hk (g' := gb361) (o := .cells #[.string (⟨#[]⟩ : ByteArray), .string (⟨#[]⟩ : ByteArray)] 36 (0, 0)) (by (with_reducible repeat (first | refine zF ?_ _ | refine zH ?_ | refine zG ?_ _)); refine blk_far ?_ NB361_368.out _; (with_reducible repeat (first | refine zF ?_ _ | refine zH ?_ | refine zG ?_ _)); refine blk_far ?_ NB361_368.out _; (with_reducible repeat (first | refine zF ?_ _ | refine zH ?_ | refine zG ?_ _)); refine blk_far ?_ NB361_368.out _; (with_reducible repeat (first | refine zF ?_ _ | refine zH ?_ | refine zG ?_ _)); exact BK361.out) NB361_362.out (by simp)); have n2_ := zA (qA hk (g' := gb368) (o := .cells #[.string (⟨#[]⟩ : ByteArray), .string (⟨#[]⟩ : ByteArray), .int .i64 0] 25 (0, 0)) (by (with_reducible repeat (first | refine zF ?_ _ | refine zH ?_ | refine zG ?_ _)); refine zX (cs := #[.string (⟨#[]⟩ : ByteArray), .string (⟨#[]⟩ : ByteArray), .int .i64 t365]) ?_ 2 _ rfl; (with_reducible repeat (first | refine zF ?_ _ | refine zH ?_ | refine zG ?_ _)); refine zX (cs := #[.string (⟨#[]⟩ : ByteArray), .string t364, .int .i64 t365]) ?_ 1 _ rfl; (with_reducible repeat (first | refine zF ?_ _ | refine zH ?_ | refine zG ?_ _)); refine zX (cs := #[.string t363, .string t364, .int .i64 t365]) ?_ 0 _ rfl; (with_reducible repeat (first | refine zF ?_ _ | refine zH ?_ | refine zG ?_ _)); exact BK368.out) NB368_362.out (by simp)); have n3_ := zA (hb); have n4_ := zA (hi); clear BK360; clear BK361; clear BK368; clear HB; clear HI362; have BK360 := n0_; have BK361 := n1_; have BK368 := n2_; have HB := n3_; have HI362 := n4_; clear n0_ n1_ n2_ n3_ n4_; (try clear hb); (try clear hb2); (try clear hk); (try clear hi)))
    go_loopg [6] k (fun kq v6 w' => ∃ (x6_1 : Int) (x369000_1 : ByteArray) (x369001_1 : ByteArray) (x369002_1 : Int), v6 = .int .i64 x6_1 ∧ Aside0 (spec_DrawAppendRecord.l0 kq x6_1 l0 t373 t374 x369000_1 x369001_1 x369002_1 = some (r1, r2, r3, r4, r5)) ∧ Aside0 (kq ≤ k) ∧ Aside0 (w'.heap[gb360]? = some (.cells #[.string (⟨#[]⟩ : ByteArray), .string (⟨#[]⟩ : ByteArray), .int .i64 0] 25 (0, 0))) ∧ Aside0 (w'.heap[gb361]? = some (.cells #[.string (⟨#[]⟩ : ByteArray), .string (⟨#[]⟩ : ByteArray)] 36 (0, 0))) ∧ Aside0 (w'.heap[gb368]? = some (.cells #[.string x369000_1, .string x369001_1, .int .i64 x369002_1] 25 (0, 0))) ∧ Aside0 (IsS75 w w' gb362 l0 t373 t374) ∧ Aside0 (Below w.heap.size w w'))
    case atStart => exact ⟨(wrap64 (59 + t372)), ((⟨#[]⟩ : ByteArray)), ((⟨#[]⟩ : ByteArray)), (0), (by first | rfl | (simp; done) | (simp [*]; done)), H', ⟨Nat.le_refl _⟩, ⟨by (with_reducible repeat (first | refine zF ?_ _ | refine zH ?_ | refine zG ?_ _)); exact BK360.out⟩, ⟨by (with_reducible repeat (first | refine zF ?_ _ | refine zH ?_ | refine zG ?_ _)); exact BK361.out⟩, ⟨by (with_reducible repeat (first | refine zF ?_ _ | refine zH ?_ | refine zG ?_ _)); exact BK368.out⟩, ⟨by repeat (first | (with_reducible first | exact HI362.out | apply jB | apply jA | apply jE | apply jC | apply jD | refine jF ?_ NB362_360.out _ | refine jF ?_ NB362_361.out _ | refine jF ?_ NB362_368.out _) | exact HI362.out)⟩, ⟨by repeat (first | (with_reducible first | exact HB.out | apply zD | apply zB | apply zC | refine zE ?_ (jG HI362.out) | refine zE ?_ GE360.out | refine zE ?_ GE361.out | refine zE ?_ GE368.out) | exact HB.out)⟩⟩
    case round =>
      clear H'
      try clear c1
      try clear p2
      try clear c4
      try clear c5
      try clear c6
      try clear p6
      try clear c7
      try clear c11
      try clear c12
      try clear c13
      try clear hcz14_0
      try clear hcz14_1
      try clear hcz14_2
      try clear hcz16_0
      try clear hcz16_1
      try clear hcz16_2
      try clear hfz14_0
      try clear hfz14_1
      try clear hfz14_2
      try clear hfz16_0
      try clear hfz16_1
      try clear hfz16_2
      obtain ⟨x6_1, x369000_1, x369001_1, x369002_1, rfl, HA, HK1, BK360, BK361, BK368, HI362, HB⟩ := hrel
      cases gk with
      | zero => exact absurd HA.out (by simp [spec_DrawAppendRecord.l0])
      | succ k1 =>
        have H := HA.out
        clear HA
        simp only [spec_DrawAppendRecord.l0] at H
        by_cases c18 : x6_1 > 0
        · rw [if_pos c18] at H
          have c18b0 : decide (0 < x6_1) = true := qE c18
          clear c18
          replace H := Option.bind_eq_some_iff.mp H
          obtain ⟨⟨t375, t376, t377, t378⟩, A190, H⟩ := H
          replace H : (spec_DrawAppendRecord.l0 k1 (wrap64 (x6_1 - 1)) l0 t373 t374 t375 t376 t377) = some (r1, r2, r3, r4, r5) := H
          have A19 := zA A190
          clear A190
          have H' := zA H
          clear H
          have hnb20 := NB368_360.out
          have hnc20 := NB360_368.out
          have hnb21 := NB368_361.out
          have hnc21 := NB361_368.out
          have hnb22 := NB368_362.out
          have hnc22 := NB362_368.out
          have hcz23_0 : wr.cell? ⟨gb368, 0, none⟩ = some (.string x369000_1) := (zJ BK368.out 0).trans rfl
          have hcz23_1 : wr.cell? ⟨gb368, 1, none⟩ = some (.string x369001_1) := (zJ BK368.out 1).trans rfl
          have hcz23_2 : wr.cell? ⟨gb368, 2, none⟩ = some (.int .i64 x369002_1) := (zJ BK368.out 2).trans rfl
          have hfz23_0 := zI BK368.out 0
          have hfz23_1 := zI BK368.out 1
          have hfz23_2 := zI BK368.out 2
          go_wp2_with (first | ((with_reducible refine zS (f := 14) rfl ?_); refine qW (some 25) rfl rfl Tryd.func14 (by kernel_rfl) rfl #[.agg #[.string x369000_1, .string x369001_1, .int .i64 x369002_1], .agg #[.string (⟨#[120]⟩ : ByteArray), .string (⟨#[]⟩ : ByteArray)]] rfl (by (try simp only [List.map_toArray, List.map_cons, List.map_nil]); first | done | rfl | (simp only [qN, qM]; rfl)) ?_; (with_reducible refine (spec_AppendRecord.calls k1 x369000_1 x369001_1 x369002_1 (⟨#[120]⟩ : ByteArray) (⟨#[]⟩ : ByteArray) t375 t376 t377 t378 _ A19.out).mono ?_); rintro e w24 ⟨rfl, hb⟩; refine ⟨_, rfl, ?_⟩; have n0_ := zA (zR (g := gb360) (o := .cells #[.string (⟨#[]⟩ : ByteArray), .string (⟨#[]⟩ : ByteArray), .int .i64 0] 25 (0, 0)) (by (with_reducible repeat (first | refine zF ?_ _ | refine zH ?_ | refine zG ?_ _)); exact BK360.out) hb); have n1_ := zA (zR (g := gb361) (o := .cells #[.string (⟨#[]⟩ : ByteArray), .string (⟨#[]⟩ : ByteArray)] 36 (0, 0)) (by (with_reducible repeat (first | refine zF ?_ _ | refine zH ?_ | refine zG ?_ _)); exact BK361.out) hb); have n2_ := zA (zR (g := gb368) (o := .cells #[.string x369000_1, .string x369001_1, .int .i64 x369002_1] 25 (0, 0)) (by (with_reducible repeat (first | refine zF ?_ _ | refine zH ?_ | refine zG ?_ _)); exact BK368.out) hb); have n3_ := zA (jH (by repeat (first | (with_reducible first | exact HI362.out | apply jB | apply jA | apply jE | apply jC | apply jD | refine jF ?_ NB362_360.out _ | refine jF ?_ NB362_361.out _ | refine jF ?_ NB362_368.out _) | exact HI362.out)) hb); have n4_ := zA (zL (by repeat (first | (with_reducible first | exact HB.out | apply zD | apply zB | apply zC | refine zE ?_ (jG HI362.out) | refine zE ?_ GE360.out | refine zE ?_ GE361.out | refine zE ?_ GE368.out) | exact HB.out)) hb); clear BK360; clear BK361; clear BK368; clear HI362; clear HB; have BK360 := n0_; have BK361 := n1_; have BK368 := n2_; have HI362 := n3_; have HB := n4_; clear n0_ n1_ n2_ n3_ n4_; (try clear hb); (try clear hb2); (try clear hk); (try clear hi); have hcz25_0 : w24.cell? ⟨gb368, 0, none⟩ = some (.string x369000_1) := (zJ BK368.out 0).trans rfl; have hcz25_1 : w24.cell? ⟨gb368, 1, none⟩ = some (.string x369001_1) := (zJ BK368.out 1).trans rfl; have hcz25_2 : w24.cell? ⟨gb368, 2, none⟩ = some (.int .i64 x369002_1) := (zJ BK368.out 2).trans rfl; have hfz25_0 := zI BK368.out 0; have hfz25_1 := zI BK368.out 1; have hfz25_2 := zI BK368.out 2))
          go_roundg k1
          case measure => have := HK1.out; omega
          case rel => exact ⟨(wrap64 (x6_1 - 1)), (t375), (t376), (t377), (by first | rfl | (simp; done) | (simp [*]; done)), H', ⟨by have := HK1.out; omega⟩, ⟨by (with_reducible repeat (first | refine zF ?_ _ | refine zH ?_ | refine zG ?_ _)); refine blk_far ?_ NB360_368.out _; (with_reducible repeat (first | refine zF ?_ _ | refine zH ?_ | refine zG ?_ _)); refine blk_far ?_ NB360_368.out _; (with_reducible repeat (first | refine zF ?_ _ | refine zH ?_ | refine zG ?_ _)); refine blk_far ?_ NB360_368.out _; (with_reducible repeat (first | refine zF ?_ _ | refine zH ?_ | refine zG ?_ _)); exact BK360.out⟩, ⟨by (with_reducible repeat (first | refine zF ?_ _ | refine zH ?_ | refine zG ?_ _)); refine blk_far ?_ NB361_368.out _; (with_reducible repeat (first | refine zF ?_ _ | refine zH ?_ | refine zG ?_ _)); refine blk_far ?_ NB361_368.out _; (with_reducible repeat (first | refine zF ?_ _ | refine zH ?_ | refine zG ?_ _)); refine blk_far ?_ NB361_368.out _; (with_reducible repeat (first | refine zF ?_ _ | refine zH ?_ | refine zG ?_ _)); exact BK361.out⟩, ⟨by (with_reducible repeat (first | refine zF ?_ _ | refine zH ?_ | refine zG ?_ _)); refine zX (cs := #[.string t375, .string t376, .int .i64 x369002_1]) ?_ 2 _ rfl; (with_reducible repeat (first | refine zF ?_ _ | refine zH ?_ | refine zG ?_ _)); refine zX (cs := #[.string t375, .string x369001_1, .int .i64 x369002_1]) ?_ 1 _ rfl; (with_reducible repeat (first | refine zF ?_ _ | refine zH ?_ | refine zG ?_ _)); refine zX (cs := #[.string x369000_1, .string x369001_1, .int .i64 x369002_1]) ?_ 0 _ rfl; (with_reducible repeat (first | refine zF ?_ _ | refine zH ?_ | refine zG ?_ _)); exact BK368.out⟩, ⟨by repeat (first | (with_reducible first | exact HI362.out | apply jB | apply jA | apply jE | apply jC | apply jD | refine jF ?_ NB362_360.out _ | refine jF ?_ NB362_361.out _ | refine jF ?_ NB362_368.out _) | exact HI362.out)⟩, ⟨by repeat (first | (with_reducible first | exact HB.out | apply zD | apply zB | apply zC | refine zE ?_ (jG HI362.out) | refine zE ?_ GE360.out | refine zE ?_ GE361.out | refine zE ?_ GE368.out) | exact HB.out)⟩⟩
        · rw [if_neg c18] at H
          have c18b0 : decide (0 < x6_1) = false := qG c18
          clear c18
          replace H := Option.bind_eq_some_iff.mp H
          obtain ⟨⟨t379, t380, t381, t382⟩, A260, H⟩ := H
          replace H : (some (x369000_1, x369001_1, x369002_1, t379, t380)) = some (r1, r2, r3, r4, r5) := H
          have A26 := zA A260
          clear A260
          simp only [Option.some.injEq, Prod.mk.injEq] at H
          obtain ⟨rfl, rfl, rfl, rfl, rfl⟩ := H
          try go_wp2
          have n0_ := zA (zH BK360.out)
          have n1_ := zA (zH BK361.out)
          have n2_ := zA (zH BK368.out)
          have n3_ := zA (jE HI362.out)
          have n4_ := zA (zC HB.out)
          clear BK360
          clear BK361
          clear BK368
          clear HI362
          clear HB
          have BK360 := n0_
          have BK361 := n1_
          have BK368 := n2_
          have HI362 := n3_
          have HB := n4_
          clear n0_ n1_ n2_ n3_ n4_
          refine start_ (n := 5) (S := fun w' => w'.cell? ⟨gb368, 0, none⟩ = some (.string x369000_1) ∧ w'.cell? ⟨gb368, 1, none⟩ = some (.string x369001_1) ∧ w'.cell? ⟨gb368, 2, none⟩ = some (.int .i64 x369002_1)) (ds := []) #[false, false, false, false, false] (by kernel_rfl) rfl rfl ⟨(zJ BK368.out 0).trans rfl, (zJ BK368.out 1).trans rfl, (zJ BK368.out 2).trans rfl⟩ (fun hHeld => ?_)
          generalize wr.drew = w27 at BK360 BK361 BK368 HI362 HB hHeld ⊢
          refine pure_ (i := 1) (N := some 29) (v := ?_) (a' := ?_) #[false, true, false, false, false] rfl rfl (by kernel_rfl) (fun _ _ _ h => h) (Or.inl ⟨by rfl, ?_⟩) ?_ ?_
          rotate_left
          · intro w'
            go_simp
            with_reducible rfl
          rotate_left
          · simp only [Act.put, qJ, qK, qL, i64_w, i32_w]
            rfl
          refine take_ (i := 0) (N := some 28) (v := ?_) (a' := ?_) #[true, true, false, false, false] rfl rfl (by kernel_rfl) (fun _ _ _ h => h) (Or.inl ⟨by rfl, ?_⟩) hHeld ?_ ?_
          rotate_left
          · rintro w' ⟨s0, s1, s2⟩
            go_simp
            with_reducible rfl
          rotate_left
          · simp only [Act.put, qJ, qK, qL, i64_w, i32_w]
            rfl
          refine one_ (i := 2) (N := some 30) #[true, true, true, false, false] rfl rfl (by kernel_rfl) (by decide) (fun K hK => ?_)
          refine goes_ Tryd.func74 (by kernel_rfl) rfl #[.pointer (some ⟨gb362, 0, none⟩)] (by rfl) rfl rfl (by (try simp only [List.map_toArray, List.map_cons, List.map_nil]); first | done | rfl | (simp only [qN, qM]; rfl)) ?_
          with_reducible refine (spec_l1Cur_logRecord.calls gb362 l0 t373 t374 t379 t380 t381 t382 w _ ?side1 ?side2 A26.out).mono ?_
          (case side1 => repeat (first | (with_reducible first | exact HI362.out | apply jB | apply jA | apply jE | apply jC | apply jD | refine jF ?_ NB362_360.out _ | refine jF ?_ NB362_361.out _ | refine jF ?_ NB362_368.out _) | exact HI362.out))
          (case side2 => repeat (first | (with_reducible first | exact HB.out | apply zD | apply zB | apply zC | refine zE ?_ (jG HI362.out) | refine zE ?_ GE360.out | refine zE ?_ GE361.out | refine zE ?_ GE368.out) | exact HB.out))
          rintro e w28 ⟨rfl, hi, hb, hk⟩
          refine ⟨_, rfl, ?_⟩
          have n0_ := zA (qA hk (g' := gb360) (o := .cells #[.string (⟨#[]⟩ : ByteArray), .string (⟨#[]⟩ : ByteArray), .int .i64 0] 25 (0, 0)) (by (with_reducible repeat (first | refine zF ?_ _ | refine zH ?_ | refine zG ?_ _)); exact BK360.out) NB360_362.out (by simp))
          have n1_ := zA (qA hk (g' := gb361) (o := .cells #[.string (⟨#[]⟩ : ByteArray), .string (⟨#[]⟩ : ByteArray)] 36 (0, 0)) (by (with_reducible repeat (first | refine zF ?_ _ | refine zH ?_ | refine zG ?_ _)); exact BK361.out) NB361_362.out (by simp))
          have n2_ := zA (qA hk (g' := gb368) (o := .cells #[.string x369000_1, .string x369001_1, .int .i64 x369002_1] 25 (0, 0)) (by (with_reducible repeat (first | refine zF ?_ _ | refine zH ?_ | refine zG ?_ _)); exact BK368.out) NB368_362.out (by simp))
          have n3_ := zA (hb)
          have n4_ := zA (hi)
          clear BK360
          clear BK361
          clear BK368
          clear HB
          clear HI362
          have BK360 := n0_
          have BK361 := n1_
          have BK368 := n2_
          have HB := n3_
          have HI362 := n4_
          clear n0_ n1_ n2_ n3_ n4_
          (try clear hb)
          (try clear hb2)
          (try clear hk)
          (try clear hi)
          refine hK.out _ _ ⟨(zJ BK368.out 0).trans rfl, (zJ BK368.out 1).trans rfl, (zJ BK368.out 2).trans rfl⟩ (fun hHeld => ?_)
          clear hK K
          refine norm_ (a' := ?_) ?_ ?_
          rotate_left
          · show Act.put _ (some 30) _ = _
            simp only [Act.put, qJ, qK, qL, i64_w, i32_w]
            rfl
          refine one_ (i := 3) (N := none) #[true, true, true, true, false] rfl rfl (by kernel_rfl) (by decide) (fun K hK => ?_)
          have hs29 : w28.cell? ⟨gb360, 0, none⟩ = some (.string (⟨#[]⟩ : ByteArray)) := (zJ BK360.out 0).trans rfl
          have hfs29 := zI BK360.out 0
          have hns29_1 := NB361_360.out
          have hns29_2 := NB368_360.out
          have hms29_1 := NB360_361.out
          have hms29_2 := NB360_368.out
          have hs30 : w28.cell? ⟨gb360, 1, none⟩ = some (.string (⟨#[]⟩ : ByteArray)) := (zJ BK360.out 1).trans rfl
          have hfs30 := zI BK360.out 1
          have hns30_1 := NB361_360.out
          have hns30_2 := NB368_360.out
          have hms30_1 := NB360_361.out
          have hms30_2 := NB360_368.out
          have hs31 : w28.cell? ⟨gb360, 2, none⟩ = some (.int .i64 0) := (zJ BK360.out 2).trans rfl
          have hfs31 := zI BK360.out 2
          have hns31_1 := NB361_360.out
          have hns31_2 := NB368_360.out
          have hms31_1 := NB360_361.out
          have hms31_2 := NB360_368.out
          refine skip_ (w1 := ?_) (by rfl) rfl ?_ ?_
          rotate_left
          · go_simp
            rfl
          refine hK.out _ _ ⟨((cell_far (p := ⟨gb360, _, none⟩) NB368_360.out _).trans (((cell_far (p := ⟨gb360, _, none⟩) NB368_360.out _).trans (((cell_far (p := ⟨gb360, _, none⟩) NB368_360.out _).trans (hHeld.1)))))), ((cell_far (p := ⟨gb360, _, none⟩) NB368_360.out _).trans (((cell_far (p := ⟨gb360, _, none⟩) NB368_360.out _).trans (((cell_far (p := ⟨gb360, _, none⟩) NB368_360.out _).trans (hHeld.2.1)))))), ((cell_far (p := ⟨gb360, _, none⟩) NB368_360.out _).trans (((cell_far (p := ⟨gb360, _, none⟩) NB368_360.out _).trans (((cell_far (p := ⟨gb360, _, none⟩) NB368_360.out _).trans (hHeld.2.2))))))⟩ (fun hHeld => ?_)
          clear hK K
          refine one_ (i := 4) (N := none) #[true, true, true, true, true] rfl rfl (by kernel_rfl) (by decide) (fun K hK => ?_)
          have hs32 : w28.cell? ⟨gb361, 0, none⟩ = some (.string (⟨#[]⟩ : ByteArray)) := (zJ BK361.out 0).trans rfl
          have hfs32 := zI BK361.out 0
          have hns32_0 := NB360_361.out
          have hns32_2 := NB368_361.out
          have hms32_0 := NB361_360.out
          have hms32_2 := NB361_368.out
          have hs33 : w28.cell? ⟨gb361, 1, none⟩ = some (.string (⟨#[]⟩ : ByteArray)) := (zJ BK361.out 1).trans rfl
          have hfs33 := zI BK361.out 1
          have hns33_0 := NB360_361.out
          have hns33_2 := NB368_361.out
          have hms33_0 := NB361_360.out
          have hms33_2 := NB361_368.out
          refine skip_ (w1 := ?_) (by rfl) rfl ?_ ?_
          rotate_left
          · go_simp
            rfl
          refine hK.out _ _ ⟨((cell_far (p := ⟨gb361, _, none⟩) NB368_361.out _).trans (((cell_far (p := ⟨gb361, _, none⟩) NB368_361.out _).trans (hHeld.1)))), ((cell_far (p := ⟨gb361, _, none⟩) NB368_361.out _).trans (((cell_far (p := ⟨gb361, _, none⟩) NB368_361.out _).trans (hHeld.2.1)))), ((cell_far (p := ⟨gb361, _, none⟩) NB368_361.out _).trans (((cell_far (p := ⟨gb361, _, none⟩) NB368_361.out _).trans (hHeld.2.2))))⟩ (fun hHeld => ?_)
          clear hK K
          refine done_ (by kernel_rfl) ?_
          try go_wp2
          refine bodyPost_ret (results_cc rfl _ _ gb360 gb361 25 36 #[.string x369000_1, .string x369001_1, .int .i64 x369002_1] #[.string t379, .string t380] (0, 0) (0, 0) _ _ rfl (by (with_reducible repeat (first | refine zF ?_ _ | refine zH ?_ | refine zG ?_ _)); refine blk_far ?_ NB360_361.out _; (with_reducible repeat (first | refine zF ?_ _ | refine zH ?_ | refine zG ?_ _)); refine blk_far ?_ NB360_361.out _; (with_reducible repeat (first | refine zF ?_ _ | refine zH ?_ | refine zG ?_ _)); refine zX (cs := #[.string x369000_1, .string x369001_1, .int .i64 0]) ?_ 2 _ rfl; (with_reducible repeat (first | refine zF ?_ _ | refine zH ?_ | refine zG ?_ _)); refine zX (cs := #[.string x369000_1, .string (⟨#[]⟩ : ByteArray), .int .i64 0]) ?_ 1 _ rfl; (with_reducible repeat (first | refine zF ?_ _ | refine zH ?_ | refine zG ?_ _)); refine zX (cs := #[.string (⟨#[]⟩ : ByteArray), .string (⟨#[]⟩ : ByteArray), .int .i64 0]) ?_ 0 _ rfl; (with_reducible repeat (first | refine zF ?_ _ | refine zH ?_ | refine zG ?_ _)); exact BK360.out) Tryd.underlying25 rfl (by kernel_rfl) rfl (by (with_reducible repeat (first | refine zF ?_ _ | refine zH ?_ | refine zG ?_ _)); refine zX (cs := #[.string t379, .string (⟨#[]⟩ : ByteArray)]) ?_ 1 _ rfl; (with_reducible repeat (first | refine zF ?_ _ | refine zH ?_ | refine zG ?_ _)); refine zX (cs := #[.string (⟨#[]⟩ : ByteArray), .string (⟨#[]⟩ : ByteArray)]) ?_ 0 _ rfl; (with_reducible repeat (first | refine zF ?_ _ | refine zH ?_ | refine zG ?_ _)); refine blk_far ?_ NB361_360.out _; (with_reducible repeat (first | refine zF ?_ _ | refine zH ?_ | refine zG ?_ _)); refine blk_far ?_ NB361_360.out _; (with_reducible repeat (first | refine zF ?_ _ | refine zH ?_ | refine zG ?_ _)); refine blk_far ?_ NB361_360.out _; (with_reducible repeat (first | refine zF ?_ _ | refine zH ?_ | refine zG ?_ _)); exact BK361.out) Tryd.underlying36 rfl (by kernel_rfl)) rfl ?_
          exact ⟨by first | rfl | (simp [qH, qI] <;> rfl) | (simp [*, qH, qI] <;> rfl), by repeat (first | (with_reducible first | exact HB.out | apply zD | apply zB | apply zC | refine zE ?_ (jG HI362.out) | refine zE ?_ GE360.out | refine zE ?_ GE361.out | refine zE ?_ GE368.out) | exact HB.out)⟩
  · replace c4 := Bool.eq_false_iff.mpr c4
    subst c4
    have H1 : ((spec_l1Cur_logRecord.f l0 t370 t371).bind fun bt383 => (some (t363, t364, t365, bt383.1, bt383.2.1))) = some (r1, r2, r3, r4, r5) := by rw [if_neg (show ¬ (false = true) by decide)] at H; exact H
    clear H
    have H := H1
    clear H1
    replace H := Option.bind_eq_some_iff.mp H
    obtain ⟨⟨t383, t384, t385, t386⟩, A340, H⟩ := H
    replace H : (some (t363, t364, t365, t383, t384)) = some (r1, r2, r3, r4, r5) := H
    have A34 := zA A340
    clear A340
    simp only [Option.some.injEq, Prod.mk.injEq] at H
    obtain ⟨rfl, rfl, rfl, rfl, rfl⟩ := H
    go_enter Tryd.func42, Tryd.ntmps42
    try go_wp2_with (first | ((with_reducible refine zZ (N := 2) rfl ?_); refine zY ?hg (N := 2) ?hd (cs := #[.string (⟨#[]⟩ : ByteArray), .string (⟨#[]⟩ : ByteArray), .int .i64 0]) (t := 25) ?hr ?_; (case hd => rfl); (case hg => rfl); (case hr => first | (go_simp; done) | (go_simp; rfl)); intro gb360 hg w35 hbox hb; have n0_ := zA (zL (by repeat (first | (with_reducible first | exact HB.out | apply zD | apply zB | apply zC) | exact HB.out)) hb); have n1_ := zA (hbox); have n2_ := zA ((by rw [hg]; exact (zK (by repeat (first | (with_reducible first | exact HB.out | apply zD | apply zB | apply zC) | exact HB.out))) : w.heap.size ≤ gb360)); have n3_ := zA ((by rw [hg]; exact (zK (by repeat (first | (with_reducible first | exact HB.out | apply zD | apply zB | apply zC) | exact HB.out))) : w.heap.size ≤ gb360)); clear HB; have HB := n0_; have BK360 := n1_; have GW360 := n2_; have GE360 := n3_; clear n0_ n1_ n2_ n3_; clear hb hbox hg) | ((with_reducible refine zZ (N := 3) rfl ?_); refine zY ?hg (N := 3) ?hd (cs := #[.string (⟨#[]⟩ : ByteArray), .string (⟨#[]⟩ : ByteArray)]) (t := 36) ?hr ?_; (case hd => rfl); (case hg => rfl); (case hr => first | (go_simp; done) | (go_simp; rfl)); intro gb361 hg w36 hbox hb; have n0_ := zA (zR (g := gb360) (o := .cells #[.string (⟨#[]⟩ : ByteArray), .string (⟨#[]⟩ : ByteArray), .int .i64 0] 25 (0, 0)) (by (with_reducible repeat (first | refine zF ?_ _ | refine zH ?_ | refine zG ?_ _)); exact BK360.out) hb); have n1_ := zA (zL (by repeat (first | (with_reducible first | exact HB.out | apply zD | apply zB | apply zC | refine zE ?_ GE360.out) | exact HB.out)) hb); have n2_ := zA (hbox); have n3_ := zA ((by rw [hg]; exact (zK (by repeat (first | (with_reducible first | exact HB.out | apply zD | apply zB | apply zC | refine zE ?_ GE360.out) | exact HB.out))) : w.heap.size ≤ gb361)); have n4_ := zA ((by rw [hg]; exact (zK (by repeat (first | (with_reducible first | exact HB.out | apply zD | apply zB | apply zC | refine zE ?_ GE360.out) | exact HB.out))) : w.heap.size ≤ gb361)); have n5_ := zA ((by rw [hg]; exact Nat.ne_of_lt (blk_lt (g := gb360) (o := .cells #[.string (⟨#[]⟩ : ByteArray), .string (⟨#[]⟩ : ByteArray), .int .i64 0] 25 (0, 0)) (by (with_reducible repeat (first | refine zF ?_ _ | refine zH ?_ | refine zG ?_ _)); exact BK360.out)) : gb360 ≠ gb361)); have n6_ := zA ((by rw [hg]; exact Nat.ne_of_gt (blk_lt (g := gb360) (o := .cells #[.string (⟨#[]⟩ : ByteArray), .string (⟨#[]⟩ : ByteArray), .int .i64 0] 25 (0, 0)) (by (with_reducible repeat (first | refine zF ?_ _ | refine zH ?_ | refine zG ?_ _)); exact BK360.out)) : gb361 ≠ gb360)); clear BK360; clear HB; have BK360 := n0_; have HB := n1_; have BK361 := n2_; have GW361 := n3_; have GE361 := n4_; have NB360_361 := n5_; have NB361_360 := n6_; clear n0_ n1_ n2_ n3_ n4_ n5_ n6_; clear hb hbox hg) | ((with_reducible refine zZ (N := 9) rfl ?_); refine zY ?hg (N := 9) ?hd (cs := #[.slice A0 l0.length c0, .int .i64 0, .int .u64 0]) (t := 75) ?hr ?_; (case hd => rfl); (case hg => rfl); (case hr => first | (go_simp; done) | (go_simp; rfl)); intro gb362 hg w37 hbox hb; have n0_ := zA (zR (g := gb360) (o := .cells #[.string (⟨#[]⟩ : ByteArray), .string (⟨#[]⟩ : ByteArray), .int .i64 0] 25 (0, 0)) (by (with_reducible repeat (first | refine zF ?_ _ | refine zH ?_ | refine zG ?_ _)); exact BK360.out) hb); have n1_ := zA (zR (g := gb361) (o := .cells #[.string (⟨#[]⟩ : ByteArray), .string (⟨#[]⟩ : ByteArray)] 36 (0, 0)) (by (with_reducible repeat (first | refine zF ?_ _ | refine zH ?_ | refine zG ?_ _)); exact BK361.out) hb); have n2_ := zA (zL (by repeat (first | (with_reducible first | exact HB.out | apply zD | apply zB | apply zC | refine zE ?_ GE360.out | refine zE ?_ GE361.out) | exact HB.out)) hb); have n3_ := zA (hbox); have n4_ := zA ((by rw [hg]; exact (zK (by repeat (first | (with_reducible first | exact HB.out | apply zD | apply zB | apply zC | refine zE ?_ GE360.out | refine zE ?_ GE361.out) | exact HB.out))) : w.heap.size ≤ gb362)); have n5_ := zA ((by rw [hg]; exact (zK (by repeat (first | (with_reducible first | exact HB.out | apply zD | apply zB | apply zC | refine zE ?_ GE360.out | refine zE ?_ GE361.out) | exact HB.out))) : w.heap.size ≤ gb362)); have n6_ := zA ((by rw [hg]; exact Nat.ne_of_lt (blk_lt (g := gb360) (o := .cells #[.string (⟨#[]⟩ : ByteArray), .string (⟨#[]⟩ : ByteArray), .int .i64 0] 25 (0, 0)) (by (with_reducible repeat (first | refine zF ?_ _ | refine zH ?_ | refine zG ?_ _)); exact BK360.out)) : gb360 ≠ gb362)); have n7_ := zA ((by rw [hg]; exact Nat.ne_of_gt (blk_lt (g := gb360) (o := .cells #[.string (⟨#[]⟩ : ByteArray), .string (⟨#[]⟩ : ByteArray), .int .i64 0] 25 (0, 0)) (by (with_reducible repeat (first | refine zF ?_ _ | refine zH ?_ | refine zG ?_ _)); exact BK360.out)) : gb362 ≠ gb360)); have n8_ := zA ((by rw [hg]; exact Nat.ne_of_lt (blk_lt (g := gb361) (o := .cells #[.string (⟨#[]⟩ : ByteArray), .string (⟨#[]⟩ : ByteArray)] 36 (0, 0)) (by (with_reducible repeat (first | refine zF ?_ _ | refine zH ?_ | refine zG ?_ _)); exact BK361.out)) : gb361 ≠ gb362)); have n9_ := zA ((by rw [hg]; exact Nat.ne_of_gt (blk_lt (g := gb361) (o := .cells #[.string (⟨#[]⟩ : ByteArray), .string (⟨#[]⟩ : ByteArray)] 36 (0, 0)) (by (with_reducible repeat (first | refine zF ?_ _ | refine zH ?_ | refine zG ?_ _)); exact BK361.out)) : gb362 ≠ gb361)); have n10_ := zA ((show IsS75 w w37 gb362 l0 0 0 from ⟨_, _, hbox, (by rw [hg]; exact (zK (by repeat (first | (with_reducible first | exact HB.out | apply zD | apply zB | apply zC | refine zE ?_ GE360.out | refine zE ?_ GE361.out) | exact HB.out)))), HR0.out⟩)); clear BK360; clear BK361; clear HB; have BK360 := n0_; have BK361 := n1_; have HB := n2_; have BK362 := n3_; have GW362 := n4_; have GE362 := n5_; have NB360_362 := n6_; have NB362_360 := n7_; have NB361_362 := n8_; have NB362_361 := n9_; have HI362 := n10_; clear n0_ n1_ n2_ n3_ n4_ n5_ n6_ n7_ n8_ n9_ n10_; clear hb hbox hg) | ((with_reducible refine zS (f := 78) rfl ?_); refine qW (some 11) rfl rfl Tryd.func78 (by kernel_rfl) rfl #[.pointer (some ⟨gb362, 0, none⟩)] rfl (by (try simp only [List.map_toArray, List.map_cons, List.map_nil]); first | done | rfl | (simp only [qN, qM]; rfl)) ?_; (with_reducible refine (spec_l1Cur_anyLog.calls k gb362 l0 0 0 t363 t364 t365 t366 t367 w _ ?side1 ?side2 A2.out).mono ?_); (case side1 => repeat (first | (with_reducible first | exact HI362.out | apply jB | apply jA | apply jE | apply jC | apply jD | refine jF ?_ NB362_360.out _ | refine jF ?_ NB362_361.out _) | exact HI362.out)); (case side2 => repeat (first | (with_reducible first | exact HB.out | apply zD | apply zB | apply zC | refine zE ?_ (jG HI362.out) | refine zE ?_ GE360.out | refine zE ?_ GE361.out) | exact HB.out)); rintro e w38 ⟨rfl, hi, hb, hk⟩; refine ⟨_, rfl, ?_⟩; have n0_ := zA (qA hk (g' := gb360) (o := .cells #[.string (⟨#[]⟩ : ByteArray), .string (⟨#[]⟩ : ByteArray), .int .i64 0] 25 (0, 0)) (by (with_reducible repeat (first | refine zF ?_ _ | refine zH ?_ | refine zG ?_ _)); exact BK360.out) NB360_362.out (by simp)); have n1_ := zA (qA hk (g' := gb361) (o := .cells #[.string (⟨#[]⟩ : ByteArray), .string (⟨#[]⟩ : ByteArray)] 36 (0, 0)) (by (with_reducible repeat (first | refine zF ?_ _ | refine zH ?_ | refine zG ?_ _)); exact BK361.out) NB361_362.out (by simp)); have n2_ := zA (hb); have n3_ := zA (hi); clear BK360; clear BK361; clear HB; clear HI362; have BK360 := n0_; have BK361 := n1_; have HB := n2_; have HI362 := n3_; clear n0_ n1_ n2_ n3_; (try clear hb); (try clear hb2); (try clear hk); (try clear hi)) | ((with_reducible refine zZ (N := 5) rfl ?_); refine zY ?hg (N := 5) ?hd (cs := #[.string (⟨#[]⟩ : ByteArray), .string (⟨#[]⟩ : ByteArray), .int .i64 0]) (t := 25) ?hr ?_; (case hd => rfl); (case hg => rfl); (case hr => first | (go_simp; done) | (go_simp; rfl)); intro gb368 hg w39 hbox hb; have n0_ := zA (zR (g := gb360) (o := .cells #[.string (⟨#[]⟩ : ByteArray), .string (⟨#[]⟩ : ByteArray), .int .i64 0] 25 (0, 0)) (by (with_reducible repeat (first | refine zF ?_ _ | refine zH ?_ | refine zG ?_ _)); exact BK360.out) hb); have n1_ := zA (zR (g := gb361) (o := .cells #[.string (⟨#[]⟩ : ByteArray), .string (⟨#[]⟩ : ByteArray)] 36 (0, 0)) (by (with_reducible repeat (first | refine zF ?_ _ | refine zH ?_ | refine zG ?_ _)); exact BK361.out) hb); have n2_ := zA (jH (by repeat (first | (with_reducible first | exact HI362.out | apply jB | apply jA | apply jE | apply jC | apply jD | refine jF ?_ NB362_360.out _ | refine jF ?_ NB362_361.out _) | exact HI362.out)) hb); have n3_ := zA (zL (by repeat (first | (with_reducible first | exact HB.out | apply zD | apply zB | apply zC | refine zE ?_ (jG HI362.out) | refine zE ?_ GE360.out | refine zE ?_ GE361.out) | exact HB.out)) hb); have n4_ := zA (hbox); have n5_ := zA ((by rw [hg]; exact (zK (by repeat (first | (with_reducible first | exact HB.out | apply zD | apply zB | apply zC | refine zE ?_ (jG HI362.out) | refine zE ?_ GE360.out | refine zE ?_ GE361.out) | exact HB.out))) : w.heap.size ≤ gb368)); have n6_ := zA ((by rw [hg]; exact (zK (by repeat (first | (with_reducible first | exact HB.out | apply zD | apply zB | apply zC | refine zE ?_ (jG HI362.out) | refine zE ?_ GE360.out | refine zE ?_ GE361.out) | exact HB.out))) : w.heap.size ≤ gb368)); have n7_ := zA ((by rw [hg]; exact Nat.ne_of_lt (blk_lt (g := gb360) (o := .cells #[.string (⟨#[]⟩ : ByteArray), .string (⟨#[]⟩ : ByteArray), .int .i64 0] 25 (0, 0)) (by (with_reducible repeat (first | refine zF ?_ _ | refine zH ?_ | refine zG ?_ _)); exact BK360.out)) : gb360 ≠ gb368)); have n8_ := zA ((by rw [hg]; exact Nat.ne_of_gt (blk_lt (g := gb360) (o := .cells #[.string (⟨#[]⟩ : ByteArray), .string (⟨#[]⟩ : ByteArray), .int .i64 0] 25 (0, 0)) (by (with_reducible repeat (first | refine zF ?_ _ | refine zH ?_ | refine zG ?_ _)); exact BK360.out)) : gb368 ≠ gb360)); have n9_ := zA ((by rw [hg]; exact Nat.ne_of_lt (blk_lt (g := gb361) (o := .cells #[.string (⟨#[]⟩ : ByteArray), .string (⟨#[]⟩ : ByteArray)] 36 (0, 0)) (by (with_reducible repeat (first | refine zF ?_ _ | refine zH ?_ | refine zG ?_ _)); exact BK361.out)) : gb361 ≠ gb368)); have n10_ := zA ((by rw [hg]; exact Nat.ne_of_gt (blk_lt (g := gb361) (o := .cells #[.string (⟨#[]⟩ : ByteArray), .string (⟨#[]⟩ : ByteArray)] 36 (0, 0)) (by (with_reducible repeat (first | refine zF ?_ _ | refine zH ?_ | refine zG ?_ _)); exact BK361.out)) : gb368 ≠ gb361)); have n11_ := zA ((by rw [hg]; exact Nat.ne_of_lt (jI (show IsS75 w _ gb362 l0 t366 t367 from by repeat (first | (with_reducible first | exact HI362.out | apply jB | apply jA | apply jE | apply jC | apply jD | refine jF ?_ NB362_360.out _ | refine jF ?_ NB362_361.out _) | exact HI362.out))) : gb362 ≠ gb368)); have n12_ := zA ((by rw [hg]; exact Nat.ne_of_gt (jI (show IsS75 w _ gb362 l0 t366 t367 from by repeat (first | (with_reducible first | exact HI362.out | apply jB | apply jA | apply jE | apply jC | apply jD | refine jF ?_ NB362_360.out _ | refine jF ?_ NB362_361.out _) | exact HI362.out))) : gb368 ≠ gb362)); clear BK360; clear BK361; clear HI362; clear HB; have BK360 := n0_; have BK361 := n1_; have HI362 := n2_; have HB := n3_; have BK368 := n4_; have GW368 := n5_; have GE368 := n6_; have NB360_368 := n7_; have NB368_360 := n8_; have NB361_368 := n9_; have NB368_361 := n10_; have NB362_368 := n11_; have NB368_362 := n12_; clear n0_ n1_ n2_ n3_ n4_ n5_ n6_ n7_ n8_ n9_ n10_ n11_ n12_; clear hb hbox hg; have hnb40 := NB368_360.out; have hnc40 := NB360_368.out; have hnb41 := NB368_361.out; have hnc41 := NB361_368.out; have hnb42 := NB368_362.out; have hnc42 := NB362_368.out; have hcz43_0 : w39.cell? ⟨gb368, 0, none⟩ = some (.string (⟨#[]⟩ : ByteArray)) := (zJ BK368.out 0).trans rfl; have hcz43_1 : w39.cell? ⟨gb368, 1, none⟩ = some (.string (⟨#[]⟩ : ByteArray)) := (zJ BK368.out 1).trans rfl; have hcz43_2 : w39.cell? ⟨gb368, 2, none⟩ = some (.int .i64 0) := (zJ BK368.out 2).trans rfl; have hfz43_0 := zI BK368.out 0; have hfz43_1 := zI BK368.out 1; have hfz43_2 := zI BK368.out 2) | ((with_reducible refine zS (f := 64) rfl ?_); refine qW (some 13) rfl rfl Tryd.func64 (by kernel_rfl) rfl #[.pointer (some ⟨gb362, 0, none⟩), .int .i64 40] rfl (by (try simp only [List.map_toArray, List.map_cons, List.map_nil]); first | done | rfl | (simp only [qN, qM]; rfl)) ?_; (with_reducible refine (spec_l1Cur_one.calls gb362 l0 t366 t367 40 false t370 t371 w _ ?side1 ?side2 A3.out).mono ?_); (case side1 => repeat (first | (with_reducible first | exact HI362.out | apply jB | apply jA | apply jE | apply jC | apply jD | refine jF ?_ NB362_360.out _ | refine jF ?_ NB362_361.out _ | refine jF ?_ NB362_368.out _) | exact HI362.out)); (case side2 => repeat (first | (with_reducible first | exact HB.out | apply zD | apply zB | apply zC | refine zE ?_ (jG HI362.out) | refine zE ?_ GE360.out | refine zE ?_ GE361.out | refine zE ?_ GE368.out) | exact HB.out)); rintro e w44 ⟨rfl, hi, hb, hk⟩; refine ⟨_, rfl, ?_⟩; have n0_ := zA (qA hk (g' := gb360) (o := .cells #[.string (⟨#[]⟩ : ByteArray), .string (⟨#[]⟩ : ByteArray), .int .i64 0] 25 (0, 0)) (by (with_reducible repeat (first | refine zF ?_ _ | refine zH ?_ | refine zG ?_ _)); refine blk_far ?_ NB360_368.out _; (with_reducible repeat (first | refine zF ?_ _ | refine zH ?_ | refine zG ?_ _)); refine blk_far ?_ NB360_368.out _; (with_reducible repeat (first | refine zF ?_ _ | refine zH ?_ | refine zG ?_ _)); refine blk_far ?_ NB360_368.out _; (with_reducible repeat (first | refine zF ?_ _ | refine zH ?_ | refine zG ?_ _)); exact BK360.out) NB360_362.out (by simp)); have n1_ := zA (qA hk (g' := gb361) (o := .cells #[.string (⟨#[]⟩ : ByteArray), .string (⟨#[]⟩ : ByteArray)] 36 (0, 0)) (by (with_reducible repeat (first | refine zF ?_ _ | refine zH ?_ | refine zG ?_ _)); refine blk_far ?_ NB361_368.out _; (with_reducible repeat (first | refine zF ?_ _ | refine zH ?_ | refine zG ?_ _)); refine blk_far ?_ NB361_368.out _; (with_reducible repeat (first | refine zF ?_ _ | refine zH ?_ | refine zG ?_ _)); refine blk_far ?_ NB361_368.out _; (with_reducible repeat (first | refine zF ?_ _ | refine zH ?_ | refine zG ?_ _)); exact BK361.out) NB361_362.out (by simp)); have n2_ := zA (qA hk (g' := gb368) (o := .cells #[.string t363, .string t364, .int .i64 t365] 25 (0, 0)) (by (with_reducible repeat (first | refine zF ?_ _ | refine zH ?_ | refine zG ?_ _)); refine zX (cs := #[.string t363, .string t364, .int .i64 0]) ?_ 2 _ rfl; (with_reducible repeat (first | refine zF ?_ _ | refine zH ?_ | refine zG ?_ _)); refine zX (cs := #[.string t363, .string (⟨#[]⟩ : ByteArray), .int .i64 0]) ?_ 1 _ rfl; (with_reducible repeat (first | refine zF ?_ _ | refine zH ?_ | refine zG ?_ _)); refine zX (cs := #[.string (⟨#[]⟩ : ByteArray), .string (⟨#[]⟩ : ByteArray), .int .i64 0]) ?_ 0 _ rfl; (with_reducible repeat (first | refine zF ?_ _ | refine zH ?_ | refine zG ?_ _)); exact BK368.out) NB368_362.out (by simp)); have n3_ := zA (hb); have n4_ := zA (hi); clear BK360; clear BK361; clear BK368; clear HB; clear HI362; have BK360 := n0_; have BK361 := n1_; have BK368 := n2_; have HB := n3_; have HI362 := n4_; clear n0_ n1_ n2_ n3_ n4_; (try clear hb); (try clear hb2); (try clear hk); (try clear hi)))
    have n0_ := zA (zH BK360.out)
    have n1_ := zA (zH BK361.out)
    have n2_ := zA (zH BK368.out)
    have n3_ := zA (jE HI362.out)
    have n4_ := zA (zC HB.out)
    clear BK360
    clear BK361
    clear BK368
    clear HI362
    clear HB
    have BK360 := n0_
    have BK361 := n1_
    have BK368 := n2_
    have HI362 := n3_
    have HB := n4_
    clear n0_ n1_ n2_ n3_ n4_
    refine start_ (n := 5) (S := fun w' => w'.cell? ⟨gb368, 0, none⟩ = some (.string t363) ∧ w'.cell? ⟨gb368, 1, none⟩ = some (.string t364) ∧ w'.cell? ⟨gb368, 2, none⟩ = some (.int .i64 t365)) (ds := []) #[false, false, false, false, false] (by kernel_rfl) rfl rfl ⟨(zJ BK368.out 0).trans rfl, (zJ BK368.out 1).trans rfl, (zJ BK368.out 2).trans rfl⟩ (fun hHeld => ?_)
    generalize w44.drew = w45 at BK360 BK361 BK368 HI362 HB hHeld ⊢
    refine pure_ (i := 1) (N := some 29) (v := ?_) (a' := ?_) #[false, true, false, false, false] rfl rfl (by kernel_rfl) (fun _ _ _ h => h) (Or.inl ⟨by rfl, ?_⟩) ?_ ?_
    rotate_left
    · intro w'
      go_simp
      with_reducible rfl
    rotate_left
    · simp only [Act.put, qJ, qK, qL, i64_w, i32_w]
      rfl
    refine take_ (i := 0) (N := some 28) (v := ?_) (a' := ?_) #[true, true, false, false, false] rfl rfl (by kernel_rfl) (fun _ _ _ h => h) (Or.inl ⟨by rfl, ?_⟩) hHeld ?_ ?_
    rotate_left
    · rintro w' ⟨s0, s1, s2⟩
      go_simp
      with_reducible rfl
    rotate_left
    · simp only [Act.put, qJ, qK, qL, i64_w, i32_w]
      rfl
    refine one_ (i := 2) (N := some 30) #[true, true, true, false, false] rfl rfl (by kernel_rfl) (by decide) (fun K hK => ?_)
    refine goes_ Tryd.func74 (by kernel_rfl) rfl #[.pointer (some ⟨gb362, 0, none⟩)] (by rfl) rfl rfl (by (try simp only [List.map_toArray, List.map_cons, List.map_nil]); first | done | rfl | (simp only [qN, qM]; rfl)) ?_
    with_reducible refine (spec_l1Cur_logRecord.calls gb362 l0 t370 t371 t383 t384 t385 t386 w _ ?side1 ?side2 A34.out).mono ?_
    (case side1 => repeat (first | (with_reducible first | exact HI362.out | apply jB | apply jA | apply jE | apply jC | apply jD | refine jF ?_ NB362_360.out _ | refine jF ?_ NB362_361.out _ | refine jF ?_ NB362_368.out _) | exact HI362.out))
    (case side2 => repeat (first | (with_reducible first | exact HB.out | apply zD | apply zB | apply zC | refine zE ?_ (jG HI362.out) | refine zE ?_ GE360.out | refine zE ?_ GE361.out | refine zE ?_ GE368.out) | exact HB.out))
    rintro e w46 ⟨rfl, hi, hb, hk⟩
    refine ⟨_, rfl, ?_⟩
    have n0_ := zA (qA hk (g' := gb360) (o := .cells #[.string (⟨#[]⟩ : ByteArray), .string (⟨#[]⟩ : ByteArray), .int .i64 0] 25 (0, 0)) (by (with_reducible repeat (first | refine zF ?_ _ | refine zH ?_ | refine zG ?_ _)); exact BK360.out) NB360_362.out (by simp))
    have n1_ := zA (qA hk (g' := gb361) (o := .cells #[.string (⟨#[]⟩ : ByteArray), .string (⟨#[]⟩ : ByteArray)] 36 (0, 0)) (by (with_reducible repeat (first | refine zF ?_ _ | refine zH ?_ | refine zG ?_ _)); exact BK361.out) NB361_362.out (by simp))
    have n2_ := zA (qA hk (g' := gb368) (o := .cells #[.string t363, .string t364, .int .i64 t365] 25 (0, 0)) (by (with_reducible repeat (first | refine zF ?_ _ | refine zH ?_ | refine zG ?_ _)); exact BK368.out) NB368_362.out (by simp))
    have n3_ := zA (hb)
    have n4_ := zA (hi)
    clear BK360
    clear BK361
    clear BK368
    clear HB
    clear HI362
    have BK360 := n0_
    have BK361 := n1_
    have BK368 := n2_
    have HB := n3_
    have HI362 := n4_
    clear n0_ n1_ n2_ n3_ n4_
    (try clear hb)
    (try clear hb2)
    (try clear hk)
    (try clear hi)
    refine hK.out _ _ ⟨(zJ BK368.out 0).trans rfl, (zJ BK368.out 1).trans rfl, (zJ BK368.out 2).trans rfl⟩ (fun hHeld => ?_)
    clear hK K
    refine norm_ (a' := ?_) ?_ ?_
    rotate_left
    · show Act.put _ (some 30) _ = _
      simp only [Act.put, qJ, qK, qL, i64_w, i32_w]
      rfl
    refine one_ (i := 3) (N := none) #[true, true, true, true, false] rfl rfl (by kernel_rfl) (by decide) (fun K hK => ?_)
    have hs47 : w46.cell? ⟨gb360, 0, none⟩ = some (.string (⟨#[]⟩ : ByteArray)) := (zJ BK360.out 0).trans rfl
    have hfs47 := zI BK360.out 0
    have hns47_1 := NB361_360.out
    have hns47_2 := NB368_360.out
    have hms47_1 := NB360_361.out
    have hms47_2 := NB360_368.out
    have hs48 : w46.cell? ⟨gb360, 1, none⟩ = some (.string (⟨#[]⟩ : ByteArray)) := (zJ BK360.out 1).trans rfl
    have hfs48 := zI BK360.out 1
    have hns48_1 := NB361_360.out
    have hns48_2 := NB368_360.out
    have hms48_1 := NB360_361.out
    have hms48_2 := NB360_368.out
    have hs49 : w46.cell? ⟨gb360, 2, none⟩ = some (.int .i64 0) := (zJ BK360.out 2).trans rfl
    have hfs49 := zI BK360.out 2
    have hns49_1 := NB361_360.out
    have hns49_2 := NB368_360.out
    have hms49_1 := NB360_361.out
    have hms49_2 := NB360_368.out
    refine skip_ (w1 := ?_) (by rfl) rfl ?_ ?_
    rotate_left
    · go_simp
      rfl
    refine hK.out _ _ ⟨((cell_far (p := ⟨gb360, _, none⟩) NB368_360.out _).trans (((cell_far (p := ⟨gb360, _, none⟩) NB368_360.out _).trans (((cell_far (p := ⟨gb360, _, none⟩) NB368_360.out _).trans (hHeld.1)))))), ((cell_far (p := ⟨gb360, _, none⟩) NB368_360.out _).trans (((cell_far (p := ⟨gb360, _, none⟩) NB368_360.out _).trans (((cell_far (p := ⟨gb360, _, none⟩) NB368_360.out _).trans (hHeld.2.1)))))), ((cell_far (p := ⟨gb360, _, none⟩) NB368_360.out _).trans (((cell_far (p := ⟨gb360, _, none⟩) NB368_360.out _).trans (((cell_far (p := ⟨gb360, _, none⟩) NB368_360.out _).trans (hHeld.2.2))))))⟩ (fun hHeld => ?_)
    clear hK K
    refine one_ (i := 4) (N := none) #[true, true, true, true, true] rfl rfl (by kernel_rfl) (by decide) (fun K hK => ?_)
    have hs50 : w46.cell? ⟨gb361, 0, none⟩ = some (.string (⟨#[]⟩ : ByteArray)) := (zJ BK361.out 0).trans rfl
    have hfs50 := zI BK361.out 0
    have hns50_0 := NB360_361.out
    have hns50_2 := NB368_361.out
    have hms50_0 := NB361_360.out
    have hms50_2 := NB361_368.out
    have hs51 : w46.cell? ⟨gb361, 1, none⟩ = some (.string (⟨#[]⟩ : ByteArray)) := (zJ BK361.out 1).trans rfl
    have hfs51 := zI BK361.out 1
    have hns51_0 := NB360_361.out
    have hns51_2 := NB368_361.out
    have hms51_0 := NB361_360.out
    have hms51_2 := NB361_368.out
    refine skip_ (w1 := ?_) (by rfl) rfl ?_ ?_
    rotate_left
    · go_simp
      rfl
    refine hK.out _ _ ⟨((cell_far (p := ⟨gb361, _, none⟩) NB368_361.out _).trans (((cell_far (p := ⟨gb361, _, none⟩) NB368_361.out _).trans (hHeld.1)))), ((cell_far (p := ⟨gb361, _, none⟩) NB368_361.out _).trans (((cell_far (p := ⟨gb361, _, none⟩) NB368_361.out _).trans (hHeld.2.1)))), ((cell_far (p := ⟨gb361, _, none⟩) NB368_361.out _).trans (((cell_far (p := ⟨gb361, _, none⟩) NB368_361.out _).trans (hHeld.2.2))))⟩ (fun hHeld => ?_)
    clear hK K
    refine done_ (by kernel_rfl) ?_
    try go_wp2
    refine bodyPost_ret (results_cc rfl _ _ gb360 gb361 25 36 #[.string t363, .string t364, .int .i64 t365] #[.string t383, .string t384] (0, 0) (0, 0) _ _ rfl (by (with_reducible repeat (first | refine zF ?_ _ | refine zH ?_ | refine zG ?_ _)); refine blk_far ?_ NB360_361.out _; (with_reducible repeat (first | refine zF ?_ _ | refine zH ?_ | refine zG ?_ _)); refine blk_far ?_ NB360_361.out _; (with_reducible repeat (first | refine zF ?_ _ | refine zH ?_ | refine zG ?_ _)); refine zX (cs := #[.string t363, .string t364, .int .i64 0]) ?_ 2 _ rfl; (with_reducible repeat (first | refine zF ?_ _ | refine zH ?_ | refine zG ?_ _)); refine zX (cs := #[.string t363, .string (⟨#[]⟩ : ByteArray), .int .i64 0]) ?_ 1 _ rfl; (with_reducible repeat (first | refine zF ?_ _ | refine zH ?_ | refine zG ?_ _)); refine zX (cs := #[.string (⟨#[]⟩ : ByteArray), .string (⟨#[]⟩ : ByteArray), .int .i64 0]) ?_ 0 _ rfl; (with_reducible repeat (first | refine zF ?_ _ | refine zH ?_ | refine zG ?_ _)); exact BK360.out) Tryd.underlying25 rfl (by kernel_rfl) rfl (by (with_reducible repeat (first | refine zF ?_ _ | refine zH ?_ | refine zG ?_ _)); refine zX (cs := #[.string t383, .string (⟨#[]⟩ : ByteArray)]) ?_ 1 _ rfl; (with_reducible repeat (first | refine zF ?_ _ | refine zH ?_ | refine zG ?_ _)); refine zX (cs := #[.string (⟨#[]⟩ : ByteArray), .string (⟨#[]⟩ : ByteArray)]) ?_ 0 _ rfl; (with_reducible repeat (first | refine zF ?_ _ | refine zH ?_ | refine zG ?_ _)); refine blk_far ?_ NB361_360.out _; (with_reducible repeat (first | refine zF ?_ _ | refine zH ?_ | refine zG ?_ _)); refine blk_far ?_ NB361_360.out _; (with_reducible repeat (first | refine zF ?_ _ | refine zH ?_ | refine zG ?_ _)); refine blk_far ?_ NB361_360.out _; (with_reducible repeat (first | refine zF ?_ _ | refine zH ?_ | refine zG ?_ _)); exact BK361.out) Tryd.underlying36 rfl (by kernel_rfl)) rfl ?_
    exact ⟨by first | rfl | (simp [qH, qI] <;> rfl) | (simp [*, qH, qI] <;> rfl), by repeat (first | (with_reducible first | exact HB.out | apply zD | apply zB | apply zC | refine zE ?_ (jG HI362.out) | refine zE ?_ GE360.out | refine zE ?_ GE361.out | refine zE ?_ GE368.out) | exact HB.out)⟩
def laws_rRecords.l0 : Nat → List (S36) → List (S36) → Int → Option (Bool)
  | 0, _, _, _ => none
  | k + 1, x0, x1, x5 => if x5 < (x0.length : Int) then (if 0 ≤ x5 then (if x5 < (x1.length : Int) then (if (!((((rd_T36 x0 x5).f0).toList) == (((rd_T36 x1 x5).f0).toList)) || (!((((rd_T36 x0 x5).f1).toList) == (((rd_T36 x1 x5).f1).toList)))) = true then (some false) else (laws_rRecords.l0 k x0 x1 (wrap64 (x5 + 1)))) else (none)) else (none)) else (some true)
def laws_rRecords.f (k : Nat) (l0 : List (S36)) (l1 : List (S36)) : Option (Bool) := if (l0.length : Int) = (l1.length : Int) then (laws_rRecords.l0 k l0 l1 0) else (some false)
set_option maxHeartbeats 8000000 in
set_option maxRecDepth 100000 in
theorem laws_rRecords.calls (k : Nat) (A0 : Option Addr) (c0 : Nat) (l0 : List (S36)) (A1 : Option Addr) (c1 : Nat) (l1 : List (S36)) (r : Bool) (w : World) (hr0 : Kd.C k36 w A0 l0.length l0) (hc0 : l0.length ≤ c0) (hr1 : Kd.C k36 w A1 l1.length l1) (hc1 : l1.length ≤ c1) (h : laws_rRecords.f k l0 l1 = some r) :
    Calls Tryd.prog 44 #[.slice A0 l0.length c0, .slice A1 l1.length c1] w fun e w' => e = .returned (.bool r) ∧ Drawn0 w w' := by
  have hu36 := Tryd.underlying36
  have HR0 := zA hr0
  have HC0 := zA hc0
  clear hr0 hc0
  have HR1 := zA hr1
  have HC1 := zA hc1
  clear hr1 hc1
  have H : (if (l0.length : Int) = (l1.length : Int) then (laws_rRecords.l0 k l0 l1 0) else (some false)) = some r := h
  clear h
  by_cases c3 : (l0.length : Int) = (l1.length : Int)
  · rw [if_pos c3] at H
    have c3b0 : ((l0.length : Int) == (l1.length : Int)) = true := beq_iff_eq.mpr c3
    have c3b1 : ((l0.length : Int) != (l1.length : Int)) = false := bne_eq_false_iff_eq.mpr c3
    have c3b2 : (l0.length == l1.length) = true := by first | simpa using c3 | (simp at c3 ⊢; omega)
    clear c3
    have H' := zA H
    clear H
    go_enter Tryd.func44, Tryd.ntmps44
    go_wp2
    repeat (go_quiet (fail); try go_wp2)
    go_loopg [5] k (fun kq v5 w' => ∃ (x5_1 : Int), v5 = .int .i64 x5_1 ∧ Aside0 (laws_rRecords.l0 kq l0 l1 x5_1 = some r) ∧ Aside0 (kq ≤ k) ∧ Drawn0 w w')
    case atStart => exact ⟨(0), (by first | rfl | (simp; done) | (simp [*]; done)), H', ⟨Nat.le_refl _⟩, by repeat (first | exact Drawn0.refl _ | apply Drawn0.step)⟩
    case round =>
      clear H'
      try clear c1
      try clear p2
      try clear c3
      try clear c3b0
      try clear c3b1
      try clear c3b2
      obtain ⟨x5_1, rfl, HA, HK1, ⟨m1, rfl⟩⟩ := hrel
      cases gk with
      | zero => exact absurd HA.out (by simp [laws_rRecords.l0])
      | succ k1 =>
        have H := HA.out
        clear HA
        simp only [laws_rRecords.l0] at H
        by_cases c4 : x5_1 < (l0.length : Int)
        · rw [if_pos c4] at H
          have c4b0 : decide (x5_1 < (l0.length : Int)) = true := qE c4
          clear c4
          by_cases c5 : 0 ≤ x5_1
          · rw [if_pos c5] at H
            have c5b0 : decide (0 ≤ x5_1) = true := qE c5
            clear c5
            by_cases c6 : x5_1 < (l1.length : Int)
            · rw [if_pos c6] at H
              have c6b0 : decide (x5_1 < (l1.length : Int)) = true := qE c6
              clear c6
              by_cases c7 : (!((((rd_T36 l0 x5_1).f0).toList) == (((rd_T36 l1 x5_1).f0).toList)) || (!((((rd_T36 l0 x5_1).f1).toList) == (((rd_T36 l1 x5_1).f1).toList)))) = true
              · rw [if_pos c7] at H
                have c7b0 : (!((((rd_T36 l0 x5_1).f0).toList) == (((rd_T36 l1 x5_1).f0).toList)) || (!((((rd_T36 l0 x5_1).f1).toList) == (((rd_T36 l1 x5_1).f1).toList)))) = true := c7
                clear c7
                obtain rfl := Option.some.inj H
                have p387 : 0 ≤ (x5_1 : Int) := qF (by first | (with_reducible assumption) | assumption)
                have q387 : x5_1 < (l0.length : Int) := qF (by first | (with_reducible assumption) | assumption)
                obtain ⟨ad387, e387, hx387_0, hx387_1⟩ := at_T36 HR0.out x5_1 p387 q387
                cases e387
                replace p387 := eq_true p387
                replace q387 := eq_true q387
                have p388 : 0 ≤ (x5_1 : Int) := qF (by first | (with_reducible assumption) | assumption)
                have q388 : x5_1 < (l1.length : Int) := qF (by first | (with_reducible assumption) | assumption)
                obtain ⟨ad388, e388, hx388_0, hx388_1⟩ := at_T36 HR1.out x5_1 p388 q388
                cases e388
                replace p388 := eq_true p388
                replace q388 := eq_true q388
                go_wp2
                repeat (go_quiet (fail); try go_wp2)
                go_ret
                exact ⟨by first | rfl | (simp; done) | (simp [*]; done), by repeat (first | exact Drawn0.refl _ | apply Drawn0.step)⟩
              · rw [if_neg c7] at H
                have c7b0 : (!((((rd_T36 l0 x5_1).f0).toList) == (((rd_T36 l1 x5_1).f0).toList)) || (!((((rd_T36 l0 x5_1).f1).toList) == (((rd_T36 l1 x5_1).f1).toList)))) = false := by simpa using c7
                clear c7
                have H' := zA H
                clear H
                have p387 : 0 ≤ (x5_1 : Int) := qF (by first | (with_reducible assumption) | assumption)
                have q387 : x5_1 < (l0.length : Int) := qF (by first | (with_reducible assumption) | assumption)
                obtain ⟨ad387, e387, hx387_0, hx387_1⟩ := at_T36 HR0.out x5_1 p387 q387
                cases e387
                replace p387 := eq_true p387
                replace q387 := eq_true q387
                have p388 : 0 ≤ (x5_1 : Int) := qF (by first | (with_reducible assumption) | assumption)
                have q388 : x5_1 < (l1.length : Int) := qF (by first | (with_reducible assumption) | assumption)
                obtain ⟨ad388, e388, hx388_0, hx388_1⟩ := at_T36 HR1.out x5_1 p388 q388
                cases e388
                replace p388 := eq_true p388
                replace q388 := eq_true q388
                go_wp2
                repeat (go_quiet (fail); try go_wp2)
                go_roundg k1
                case measure => have := HK1.out; omega
                case rel => exact ⟨(wrap64 (x5_1 + 1)), (by first | rfl | (simp; done) | (simp [*]; done)), H', ⟨by have := HK1.out; omega⟩, by repeat (first | exact Drawn0.refl _ | apply Drawn0.step)⟩
            · rw [if_neg c6] at H
              exact absurd H (by simp)
          · rw [if_neg c5] at H
            exact absurd H (by simp)
        · rw [if_neg c4] at H
          have c4b0 : decide (x5_1 < (l0.length : Int)) = false := qG c4
          clear c4
          obtain rfl := Option.some.inj H
          go_wp2
          repeat (go_quiet (fail); try go_wp2)
          go_ret
          exact ⟨by first | rfl | (simp; done) | (simp [*]; done), by repeat (first | exact Drawn0.refl _ | apply Drawn0.step)⟩
  · rw [if_neg c3] at H
    have c3b0 : ((l0.length : Int) == (l1.length : Int)) = false := beq_eq_false_iff_ne.mpr c3
    have c3b1 : ((l0.length : Int) != (l1.length : Int)) = true := bne_iff_ne.mpr c3
    have c3b2 : (l0.length == l1.length) = false := by first | simpa using c3 | (simp at c3 ⊢; omega)
    obtain rfl := Option.some.inj H
    go_enter Tryd.func44, Tryd.ntmps44
    go_wp2
    repeat (go_quiet (fail); try go_wp2)
    go_ret
    exact ⟨by first | rfl | (simp; done) | (simp [*]; done), by repeat (first | exact Drawn0.refl _ | apply Drawn0.step)⟩
def spec_DrawCrashLog.f (k : Nat) (l0 : List Int) : Option (ByteArray × ByteArray × Int × Int × Bool) := (spec_l1Cur_anyLog.f k l0 0 0).bind fun bt391 => ((spec_l1Cur_pick.f l0 bt391.2.2.2.1 bt391.2.2.2.2 (wrap64 ((bt391.2.1.size : Int) + 3))).bind fun bt397 => ((spec_l1Cur_one.f l0 bt397.2.1 bt397.2.2 2).bind fun bt400 => (some (bt391.1, bt391.2.1, bt391.2.2.1, wrap64 (bt397.1 - 1), bt400.1))))
set_option maxHeartbeats 8000000 in
set_option maxRecDepth 100000 in
theorem spec_DrawCrashLog.calls (k : Nat) (A0 : Option Addr) (c0 : Nat) (l0 : List Int) (r1 : ByteArray) (r2 : ByteArray) (r3 : Int) (r4 : Int) (r5 : Bool) (w : World) (hr0 : Kd.C (Kd.int .u8) w A0 l0.length l0) (hc0 : l0.length ≤ c0) (h : spec_DrawCrashLog.f k l0 = some (r1, r2, r3, r4, r5)) :
    Calls Tryd.prog 45 #[.slice A0 l0.length c0] w fun e w' => e = .returned (.tuple #[.agg #[.string r1, .string r2, .int .i64 r3], .int .i64 r4, .bool r5]) ∧ Below w.heap.size w w' := by
  have hu25 := Tryd.underlying25
  have hu75 := Tryd.underlying75
  have HR0 := zA hr0
  have HC0 := zA hc0
  clear hr0 hc0
  have HB := zA (qO w.heap.size w)
  have H : ((spec_l1Cur_anyLog.f k l0 0 0).bind fun bt391 => ((spec_l1Cur_pick.f l0 bt391.2.2.2.1 bt391.2.2.2.2 (wrap64 ((bt391.2.1.size : Int) + 3))).bind fun bt397 => ((spec_l1Cur_one.f l0 bt397.2.1 bt397.2.2 2).bind fun bt400 => (some (bt391.1, bt391.2.1, bt391.2.2.1, wrap64 (bt397.1 - 1), bt400.1))))) = some (r1, r2, r3, r4, r5) := h
  clear h
  replace H := Option.bind_eq_some_iff.mp H
  obtain ⟨⟨t391, t392, t393, t394, t395⟩, A20, H⟩ := H
  replace H : ((spec_l1Cur_pick.f l0 t394 t395 (wrap64 ((t392.size : Int) + 3))).bind fun bt397 => ((spec_l1Cur_one.f l0 bt397.2.1 bt397.2.2 2).bind fun bt400 => (some (t391, t392, t393, wrap64 (bt397.1 - 1), bt400.1)))) = some (r1, r2, r3, r4, r5) := H
  have A2 := zA A20
  clear A20
  replace H := Option.bind_eq_some_iff.mp H
  obtain ⟨⟨t397, t398, t399⟩, A30, H⟩ := H
  replace H : ((spec_l1Cur_one.f l0 t398 t399 2).bind fun bt400 => (some (t391, t392, t393, wrap64 (t397 - 1), bt400.1))) = some (r1, r2, r3, r4, r5) := H
  have A3 := zA A30
  clear A30
  replace H := Option.bind_eq_some_iff.mp H
  obtain ⟨⟨t400, t401, t402⟩, A40, H⟩ := H
  replace H : (some (t391, t392, t393, wrap64 (t397 - 1), t400)) = some (r1, r2, r3, r4, r5) := H
  have A4 := zA A40
  clear A40
  simp only [Option.some.injEq, Prod.mk.injEq] at H
  obtain ⟨rfl, rfl, rfl, rfl, rfl⟩ := H
  go_enter Tryd.func45, Tryd.ntmps45
  try go_wp2_with (first | ((with_reducible refine zZ (N := 2) rfl ?_); refine zY ?hg (N := 2) ?hd (cs := #[.string (⟨#[]⟩ : ByteArray), .string (⟨#[]⟩ : ByteArray), .int .i64 0]) (t := 25) ?hr ?_; (case hd => rfl); (case hg => rfl); (case hr => first | (go_simp; done) | (go_simp; rfl)); intro gb389 hg w5 hbox hb; have n0_ := zA (zL (by repeat (first | (with_reducible first | exact HB.out | apply zD | apply zB | apply zC) | exact HB.out)) hb); have n1_ := zA (hbox); have n2_ := zA ((by rw [hg]; exact (zK (by repeat (first | (with_reducible first | exact HB.out | apply zD | apply zB | apply zC) | exact HB.out))) : w.heap.size ≤ gb389)); have n3_ := zA ((by rw [hg]; exact (zK (by repeat (first | (with_reducible first | exact HB.out | apply zD | apply zB | apply zC) | exact HB.out))) : w.heap.size ≤ gb389)); clear HB; have HB := n0_; have BK389 := n1_; have GW389 := n2_; have GE389 := n3_; clear n0_ n1_ n2_ n3_; clear hb hbox hg) | ((with_reducible refine zZ (N := 10) rfl ?_); refine zY ?hg (N := 10) ?hd (cs := #[.slice A0 l0.length c0, .int .i64 0, .int .u64 0]) (t := 75) ?hr ?_; (case hd => rfl); (case hg => rfl); (case hr => first | (go_simp; done) | (go_simp; rfl)); intro gb390 hg w6 hbox hb; have n0_ := zA (zR (g := gb389) (o := .cells #[.string (⟨#[]⟩ : ByteArray), .string (⟨#[]⟩ : ByteArray), .int .i64 0] 25 (0, 0)) (by (with_reducible repeat (first | refine zF ?_ _ | refine zH ?_ | refine zG ?_ _)); exact BK389.out) hb); have n1_ := zA (zL (by repeat (first | (with_reducible first | exact HB.out | apply zD | apply zB | apply zC | refine zE ?_ GE389.out) | exact HB.out)) hb); have n2_ := zA (hbox); have n3_ := zA ((by rw [hg]; exact (zK (by repeat (first | (with_reducible first | exact HB.out | apply zD | apply zB | apply zC | refine zE ?_ GE389.out) | exact HB.out))) : w.heap.size ≤ gb390)); have n4_ := zA ((by rw [hg]; exact (zK (by repeat (first | (with_reducible first | exact HB.out | apply zD | apply zB | apply zC | refine zE ?_ GE389.out) | exact HB.out))) : w.heap.size ≤ gb390)); have n5_ := zA ((by rw [hg]; exact Nat.ne_of_lt (blk_lt (g := gb389) (o := .cells #[.string (⟨#[]⟩ : ByteArray), .string (⟨#[]⟩ : ByteArray), .int .i64 0] 25 (0, 0)) (by (with_reducible repeat (first | refine zF ?_ _ | refine zH ?_ | refine zG ?_ _)); exact BK389.out)) : gb389 ≠ gb390)); have n6_ := zA ((by rw [hg]; exact Nat.ne_of_gt (blk_lt (g := gb389) (o := .cells #[.string (⟨#[]⟩ : ByteArray), .string (⟨#[]⟩ : ByteArray), .int .i64 0] 25 (0, 0)) (by (with_reducible repeat (first | refine zF ?_ _ | refine zH ?_ | refine zG ?_ _)); exact BK389.out)) : gb390 ≠ gb389)); have n7_ := zA ((show IsS75 w w6 gb390 l0 0 0 from ⟨_, _, hbox, (by rw [hg]; exact (zK (by repeat (first | (with_reducible first | exact HB.out | apply zD | apply zB | apply zC | refine zE ?_ GE389.out) | exact HB.out)))), HR0.out⟩)); clear BK389; clear HB; have BK389 := n0_; have HB := n1_; have BK390 := n2_; have GW390 := n3_; have GE390 := n4_; have NB389_390 := n5_; have NB390_389 := n6_; have HI390 := n7_; clear n0_ n1_ n2_ n3_ n4_ n5_ n6_ n7_; clear hb hbox hg) | ((with_reducible refine zS (f := 78) rfl ?_); refine qW (some 12) rfl rfl Tryd.func78 (by kernel_rfl) rfl #[.pointer (some ⟨gb390, 0, none⟩)] rfl (by (try simp only [List.map_toArray, List.map_cons, List.map_nil]); first | done | rfl | (simp only [qN, qM]; rfl)) ?_; (with_reducible refine (spec_l1Cur_anyLog.calls k gb390 l0 0 0 t391 t392 t393 t394 t395 w _ ?side1 ?side2 A2.out).mono ?_); (case side1 => repeat (first | (with_reducible first | exact HI390.out | apply jB | apply jA | apply jE | apply jC | apply jD | refine jF ?_ NB390_389.out _) | exact HI390.out)); (case side2 => repeat (first | (with_reducible first | exact HB.out | apply zD | apply zB | apply zC | refine zE ?_ (jG HI390.out) | refine zE ?_ GE389.out) | exact HB.out)); rintro e w7 ⟨rfl, hi, hb, hk⟩; refine ⟨_, rfl, ?_⟩; have n0_ := zA (qA hk (g' := gb389) (o := .cells #[.string (⟨#[]⟩ : ByteArray), .string (⟨#[]⟩ : ByteArray), .int .i64 0] 25 (0, 0)) (by (with_reducible repeat (first | refine zF ?_ _ | refine zH ?_ | refine zG ?_ _)); exact BK389.out) NB389_390.out (by simp)); have n1_ := zA (hb); have n2_ := zA (hi); clear BK389; clear HB; clear HI390; have BK389 := n0_; have HB := n1_; have HI390 := n2_; clear n0_ n1_ n2_; (try clear hb); (try clear hb2); (try clear hk); (try clear hi)) | ((with_reducible refine zZ (N := 6) rfl ?_); refine zY ?hg (N := 6) ?hd (cs := #[.string (⟨#[]⟩ : ByteArray), .string (⟨#[]⟩ : ByteArray), .int .i64 0]) (t := 25) ?hr ?_; (case hd => rfl); (case hg => rfl); (case hr => first | (go_simp; done) | (go_simp; rfl)); intro gb396 hg w8 hbox hb; have n0_ := zA (zR (g := gb389) (o := .cells #[.string (⟨#[]⟩ : ByteArray), .string (⟨#[]⟩ : ByteArray), .int .i64 0] 25 (0, 0)) (by (with_reducible repeat (first | refine zF ?_ _ | refine zH ?_ | refine zG ?_ _)); exact BK389.out) hb); have n1_ := zA (jH (by repeat (first | (with_reducible first | exact HI390.out | apply jB | apply jA | apply jE | apply jC | apply jD | refine jF ?_ NB390_389.out _) | exact HI390.out)) hb); have n2_ := zA (zL (by repeat (first | (with_reducible first | exact HB.out | apply zD | apply zB | apply zC | refine zE ?_ (jG HI390.out) | refine zE ?_ GE389.out) | exact HB.out)) hb); have n3_ := zA (hbox); have n4_ := zA ((by rw [hg]; exact (zK (by repeat (first | (with_reducible first | exact HB.out | apply zD | apply zB | apply zC | refine zE ?_ (jG HI390.out) | refine zE ?_ GE389.out) | exact HB.out))) : w.heap.size ≤ gb396)); have n5_ := zA ((by rw [hg]; exact (zK (by repeat (first | (with_reducible first | exact HB.out | apply zD | apply zB | apply zC | refine zE ?_ (jG HI390.out) | refine zE ?_ GE389.out) | exact HB.out))) : w.heap.size ≤ gb396)); have n6_ := zA ((by rw [hg]; exact Nat.ne_of_lt (blk_lt (g := gb389) (o := .cells #[.string (⟨#[]⟩ : ByteArray), .string (⟨#[]⟩ : ByteArray), .int .i64 0] 25 (0, 0)) (by (with_reducible repeat (first | refine zF ?_ _ | refine zH ?_ | refine zG ?_ _)); exact BK389.out)) : gb389 ≠ gb396)); have n7_ := zA ((by rw [hg]; exact Nat.ne_of_gt (blk_lt (g := gb389) (o := .cells #[.string (⟨#[]⟩ : ByteArray), .string (⟨#[]⟩ : ByteArray), .int .i64 0] 25 (0, 0)) (by (with_reducible repeat (first | refine zF ?_ _ | refine zH ?_ | refine zG ?_ _)); exact BK389.out)) : gb396 ≠ gb389)); have n8_ := zA ((by rw [hg]; exact Nat.ne_of_lt (jI (show IsS75 w _ gb390 l0 t394 t395 from by repeat (first | (with_reducible first | exact HI390.out | apply jB | apply jA | apply jE | apply jC | apply jD | refine jF ?_ NB390_389.out _) | exact HI390.out))) : gb390 ≠ gb396)); have n9_ := zA ((by rw [hg]; exact Nat.ne_of_gt (jI (show IsS75 w _ gb390 l0 t394 t395 from by repeat (first | (with_reducible first | exact HI390.out | apply jB | apply jA | apply jE | apply jC | apply jD | refine jF ?_ NB390_389.out _) | exact HI390.out))) : gb396 ≠ gb390)); clear BK389; clear HI390; clear HB; have BK389 := n0_; have HI390 := n1_; have HB := n2_; have BK396 := n3_; have GW396 := n4_; have GE396 := n5_; have NB389_396 := n6_; have NB396_389 := n7_; have NB390_396 := n8_; have NB396_390 := n9_; clear n0_ n1_ n2_ n3_ n4_ n5_ n6_ n7_ n8_ n9_; clear hb hbox hg; have hnb9 := NB396_389.out; have hnc9 := NB389_396.out; have hnb10 := NB396_390.out; have hnc10 := NB390_396.out; have hcz11_0 : w8.cell? ⟨gb396, 0, none⟩ = some (.string (⟨#[]⟩ : ByteArray)) := (zJ BK396.out 0).trans rfl; have hcz11_1 : w8.cell? ⟨gb396, 1, none⟩ = some (.string (⟨#[]⟩ : ByteArray)) := (zJ BK396.out 1).trans rfl; have hcz11_2 : w8.cell? ⟨gb396, 2, none⟩ = some (.int .i64 0) := (zJ BK396.out 2).trans rfl; have hfz11_0 := zI BK396.out 0; have hfz11_1 := zI BK396.out 1; have hfz11_2 := zI BK396.out 2) | ((with_reducible refine zS (f := 59) rfl ?_); refine qW (some 18) rfl rfl Tryd.func59 (by kernel_rfl) rfl #[.pointer (some ⟨gb390, 0, none⟩), .int .i64 (wrap64 ((t392.size : Int) + 3))] rfl (by (try simp only [List.map_toArray, List.map_cons, List.map_nil]); first | done | rfl | (simp only [qN, qM]; rfl)) ?_; (with_reducible refine (spec_l1Cur_pick.calls gb390 l0 t394 t395 (wrap64 ((t392.size : Int) + 3)) t397 t398 t399 w _ ?side1 ?side2 A3.out).mono ?_); (case side1 => repeat (first | (with_reducible first | exact HI390.out | apply jB | apply jA | apply jE | apply jC | apply jD | refine jF ?_ NB390_389.out _ | refine jF ?_ NB390_396.out _) | exact HI390.out)); (case side2 => repeat (first | (with_reducible first | exact HB.out | apply zD | apply zB | apply zC | refine zE ?_ (jG HI390.out) | refine zE ?_ GE389.out | refine zE ?_ GE396.out) | exact HB.out)); rintro e w12 ⟨rfl, hi, hb, hk⟩; refine ⟨_, rfl, ?_⟩; have n0_ := zA (qA hk (g' := gb389) (o := .cells #[.string (⟨#[]⟩ : ByteArray), .string (⟨#[]⟩ : ByteArray), .int .i64 0] 25 (0, 0)) (by (with_reducible repeat (first | refine zF ?_ _ | refine zH ?_ | refine zG ?_ _)); refine blk_far ?_ NB389_396.out _; (with_reducible repeat (first | refine zF ?_ _ | refine zH ?_ | refine zG ?_ _)); refine blk_far ?_ NB389_396.out _; (with_reducible repeat (first | refine zF ?_ _ | refine zH ?_ | refine zG ?_ _)); refine blk_far ?_ NB389_396.out _; (with_reducible repeat (first | refine zF ?_ _ | refine zH ?_ | refine zG ?_ _)); exact BK389.out) NB389_390.out (by simp)); have n1_ := zA (qA hk (g' := gb396) (o := .cells #[.string t391, .string t392, .int .i64 t393] 25 (0, 0)) (by (with_reducible repeat (first | refine zF ?_ _ | refine zH ?_ | refine zG ?_ _)); refine zX (cs := #[.string t391, .string t392, .int .i64 0]) ?_ 2 _ rfl; (with_reducible repeat (first | refine zF ?_ _ | refine zH ?_ | refine zG ?_ _)); refine zX (cs := #[.string t391, .string (⟨#[]⟩ : ByteArray), .int .i64 0]) ?_ 1 _ rfl; (with_reducible repeat (first | refine zF ?_ _ | refine zH ?_ | refine zG ?_ _)); refine zX (cs := #[.string (⟨#[]⟩ : ByteArray), .string (⟨#[]⟩ : ByteArray), .int .i64 0]) ?_ 0 _ rfl; (with_reducible repeat (first | refine zF ?_ _ | refine zH ?_ | refine zG ?_ _)); exact BK396.out) NB396_390.out (by simp)); have n2_ := zA (hb); have n3_ := zA (hi); clear BK389; clear BK396; clear HB; clear HI390; have BK389 := n0_; have BK396 := n1_; have HB := n2_; have HI390 := n3_; clear n0_ n1_ n2_ n3_; (try clear hb); (try clear hb2); (try clear hk); (try clear hi)))
  have n0_ := zA (zH BK389.out)
  have n1_ := zA (zH BK396.out)
  have n2_ := zA (jE HI390.out)
  have n3_ := zA (zC HB.out)
  clear BK389
  clear BK396
  clear HI390
  clear HB
  have BK389 := n0_
  have BK396 := n1_
  have HI390 := n2_
  have HB := n3_
  clear n0_ n1_ n2_ n3_
  refine start_ (n := 7) (S := fun w' => w'.cell? ⟨gb396, 0, none⟩ = some (.string t391) ∧ w'.cell? ⟨gb396, 1, none⟩ = some (.string t392) ∧ w'.cell? ⟨gb396, 2, none⟩ = some (.int .i64 t393)) (ds := []) #[false, false, false, false, false, false, false] (by kernel_rfl) rfl rfl ⟨(zJ BK396.out 0).trans rfl, (zJ BK396.out 1).trans rfl, (zJ BK396.out 2).trans rfl⟩ (fun hHeld => ?_)
  generalize w12.drew = w13 at BK389 BK396 HI390 HB hHeld ⊢
  refine pure_ (i := 1) (N := some 21) (v := ?_) (a' := ?_) #[false, true, false, false, false, false, false] rfl rfl (by kernel_rfl) (fun _ _ _ h => h) (Or.inl ⟨by rfl, ?_⟩) ?_ ?_
  rotate_left
  · intro w'
    go_simp
    with_reducible rfl
  rotate_left
  · simp only [Act.put, qJ, qK, qL, i64_w, i32_w]
    rfl
  refine pure_ (i := 2) (N := some 22) (v := ?_) (a' := ?_) #[false, true, true, false, false, false, false] rfl rfl (by kernel_rfl) (fun _ _ _ h => h) (Or.inl ⟨by rfl, ?_⟩) ?_ ?_
  rotate_left
  · intro w'
    go_simp
    with_reducible rfl
  rotate_left
  · simp only [Act.put, qJ, qK, qL, i64_w, i32_w]
    rfl
  refine take_ (i := 0) (N := some 20) (v := ?_) (a' := ?_) #[true, true, true, false, false, false, false] rfl rfl (by kernel_rfl) (fun _ _ _ h => h) (Or.inl ⟨by rfl, ?_⟩) hHeld ?_ ?_
  rotate_left
  · rintro w' ⟨s0, s1, s2⟩
    go_simp
    with_reducible rfl
  rotate_left
  · simp only [Act.put, qJ, qK, qL, i64_w, i32_w]
    rfl
  refine one_ (i := 3) (N := some 23) #[true, true, true, true, false, false, false] rfl rfl (by kernel_rfl) (by decide) (fun K hK => ?_)
  refine goes_ Tryd.func64 (by kernel_rfl) rfl #[.pointer (some ⟨gb390, 0, none⟩), .int .i64 2] (by rfl) rfl rfl (by (try simp only [List.map_toArray, List.map_cons, List.map_nil]); first | done | rfl | (simp only [qN, qM]; rfl)) ?_
  with_reducible refine (spec_l1Cur_one.calls gb390 l0 t398 t399 2 t400 t401 t402 w _ ?side1 ?side2 A4.out).mono ?_
  (case side1 => repeat (first | (with_reducible first | exact HI390.out | apply jB | apply jA | apply jE | apply jC | apply jD | refine jF ?_ NB390_389.out _ | refine jF ?_ NB390_396.out _) | exact HI390.out))
  (case side2 => repeat (first | (with_reducible first | exact HB.out | apply zD | apply zB | apply zC | refine zE ?_ (jG HI390.out) | refine zE ?_ GE389.out | refine zE ?_ GE396.out) | exact HB.out))
  rintro e w14 ⟨rfl, hi, hb, hk⟩
  refine ⟨_, rfl, ?_⟩
  have n0_ := zA (qA hk (g' := gb389) (o := .cells #[.string (⟨#[]⟩ : ByteArray), .string (⟨#[]⟩ : ByteArray), .int .i64 0] 25 (0, 0)) (by (with_reducible repeat (first | refine zF ?_ _ | refine zH ?_ | refine zG ?_ _)); exact BK389.out) NB389_390.out (by simp))
  have n1_ := zA (qA hk (g' := gb396) (o := .cells #[.string t391, .string t392, .int .i64 t393] 25 (0, 0)) (by (with_reducible repeat (first | refine zF ?_ _ | refine zH ?_ | refine zG ?_ _)); exact BK396.out) NB396_390.out (by simp))
  have n2_ := zA (hb)
  have n3_ := zA (hi)
  clear BK389
  clear BK396
  clear HB
  clear HI390
  have BK389 := n0_
  have BK396 := n1_
  have HB := n2_
  have HI390 := n3_
  clear n0_ n1_ n2_ n3_
  (try clear hb)
  (try clear hb2)
  (try clear hk)
  (try clear hi)
  refine hK.out _ _ ⟨(zJ BK396.out 0).trans rfl, (zJ BK396.out 1).trans rfl, (zJ BK396.out 2).trans rfl⟩ (fun hHeld => ?_)
  clear hK K
  refine norm_ (a' := ?_) ?_ ?_
  rotate_left
  · show Act.put _ (some 23) _ = _
    simp only [Act.put, qJ, qK, qL, i64_w, i32_w]
    rfl
  refine one_ (i := 4) (N := none) #[true, true, true, true, true, false, false] rfl rfl (by kernel_rfl) (by decide) (fun K hK => ?_)
  have hs15 : w14.cell? ⟨gb389, 0, none⟩ = some (.string (⟨#[]⟩ : ByteArray)) := (zJ BK389.out 0).trans rfl
  have hfs15 := zI BK389.out 0
  have hns15_1 := NB396_389.out
  have hms15_1 := NB389_396.out
  have hs16 : w14.cell? ⟨gb389, 1, none⟩ = some (.string (⟨#[]⟩ : ByteArray)) := (zJ BK389.out 1).trans rfl
  have hfs16 := zI BK389.out 1
  have hns16_1 := NB396_389.out
  have hms16_1 := NB389_396.out
  have hs17 : w14.cell? ⟨gb389, 2, none⟩ = some (.int .i64 0) := (zJ BK389.out 2).trans rfl
  have hfs17 := zI BK389.out 2
  have hns17_1 := NB396_389.out
  have hms17_1 := NB389_396.out
  refine skip_ (w1 := ?_) (by rfl) rfl ?_ ?_
  rotate_left
  · go_simp
    rfl
  refine hK.out _ _ ⟨((cell_far (p := ⟨gb389, _, none⟩) NB396_389.out _).trans (((cell_far (p := ⟨gb389, _, none⟩) NB396_389.out _).trans (((cell_far (p := ⟨gb389, _, none⟩) NB396_389.out _).trans (hHeld.1)))))), ((cell_far (p := ⟨gb389, _, none⟩) NB396_389.out _).trans (((cell_far (p := ⟨gb389, _, none⟩) NB396_389.out _).trans (((cell_far (p := ⟨gb389, _, none⟩) NB396_389.out _).trans (hHeld.2.1)))))), ((cell_far (p := ⟨gb389, _, none⟩) NB396_389.out _).trans (((cell_far (p := ⟨gb389, _, none⟩) NB396_389.out _).trans (((cell_far (p := ⟨gb389, _, none⟩) NB396_389.out _).trans (hHeld.2.2))))))⟩ (fun hHeld => ?_)
  clear hK K
  refine pure_ (i := 5) (N := some 3) (v := ?_) (a' := ?_) #[true, true, true, true, true, true, false] rfl rfl (by kernel_rfl) (fun _ _ _ h => h) (Or.inl ⟨by rfl, ?_⟩) ?_ ?_
  rotate_left
  · intro w'
    go_simp
    with_reducible rfl
  rotate_left
  · simp only [Act.put, qJ, qK, qL, i64_w, i32_w]
    rfl
  refine pure_ (i := 6) (N := some 4) (v := ?_) (a' := ?_) #[true, true, true, true, true, true, true] rfl rfl (by kernel_rfl) (fun _ _ _ h => h) (Or.inl ⟨by rfl, ?_⟩) ?_ ?_
  rotate_left
  · intro w'
    go_simp
    with_reducible rfl
  rotate_left
  · simp only [Act.put, qJ, qK, qL, i64_w, i32_w]
    rfl
  refine done_ (by kernel_rfl) ?_
  try go_wp2
  refine bodyPost_ret (results_ctt rfl _ _ gb389 25 #[.string t391, .string t392, .int .i64 t393] (0, 0) _ rfl (by (with_reducible repeat (first | refine zF ?_ _ | refine zH ?_ | refine zG ?_ _)); refine zX (cs := #[.string t391, .string t392, .int .i64 0]) ?_ 2 _ rfl; (with_reducible repeat (first | refine zF ?_ _ | refine zH ?_ | refine zG ?_ _)); refine zX (cs := #[.string t391, .string (⟨#[]⟩ : ByteArray), .int .i64 0]) ?_ 1 _ rfl; (with_reducible repeat (first | refine zF ?_ _ | refine zH ?_ | refine zG ?_ _)); refine zX (cs := #[.string (⟨#[]⟩ : ByteArray), .string (⟨#[]⟩ : ByteArray), .int .i64 0]) ?_ 0 _ rfl; (with_reducible repeat (first | refine zF ?_ _ | refine zH ?_ | refine zG ?_ _)); exact BK389.out) Tryd.underlying25 rfl (by kernel_rfl)) rfl ?_
  exact ⟨by first | rfl | (simp [qH, qI] <;> rfl) | (simp [*, qH, qI] <;> rfl), by repeat (first | (with_reducible first | exact HB.out | apply zD | apply zB | apply zC | refine zE ?_ (jG HI390.out) | refine zE ?_ GE389.out | refine zE ?_ GE396.out) | exact HB.out)⟩
end Go.Proofs.YtnbhbnndfpfikaaDoor.X
