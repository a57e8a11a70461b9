/- What functions of the program return (each as a Lean function and its contract); written by a program of this session's over the kit's printer. -/
import Derived.Test.YtnbhbnndfpfikaaDoorY0
import Derived.Test.YtnbhbnndfpfikaaDoorY2
import Derived.Test.YtnbhbnndfpfikaaDoorY3
import Derived.Test.YtnbhbnndfpfikaaDoorY7
import Derived.Test.YtnbhbnndfpfikaaDoorXa
namespace Go.Proofs.YtnbhbnndfpfikaaDoor.X
open Go.RowKit Go.Proofs.YtnbhbnndfpfikaaDoorW.PrintWords Go.Proofs.YtnbhbnndfpfikaaDoorW.PrintLast Go.Proofs.YtnbhbnndfpfikaaDoorW.PrintMore
attribute [local go_sem] max2_int min2_int max_two min_two max_three min_three max_four min_four   -- for this text's walks alone
set_option linter.unusedVariables false
set_option linter.unusedSimpArgs false
def impl_AppendRecord.j0 : Nat → Bool → ByteArray → ByteArray → Int → ByteArray → ByteArray → Option (ByteArray × ByteArray × Int × Int)
  | 0, _, _, _, _, _, _ => none
  | k + 1, x8, x214000, x214001, x214002, x215000, x215001 => if x8 = true then (some (x214000, x214001, x214002, 1)) else (if x214002 = 60 then (some (x214000, x214001, x214002, 2)) else ((impl_EncodeRecord.f k x214002 x215000 x215001).bind fun bt218 => (if x214001.size + bt218.1.size ≤ 9223372036854775807 then (some (x214000, x214001 ++ bt218.1, wrap64 (x214002 + 1), 0)) else (none))))
def impl_AppendRecord.f (k : Nat) (a0_0 : ByteArray) (a0_1 : ByteArray) (a0_2 : Int) (a1_0 : ByteArray) (a1_1 : ByteArray) : Option (ByteArray × ByteArray × Int × Int) := (impl_IsValidLog.f k a0_0 a0_1 a0_2).bind fun t216 => (if t216 = true then ((impl_IsValidRecord.f a1_0 a1_1).bind fun t217 => (impl_AppendRecord.j0 k (!t217) a0_0 a0_1 a0_2 a1_0 a1_1)) else (impl_AppendRecord.j0 k true a0_0 a0_1 a0_2 a1_0 a1_1))
set_option maxHeartbeats 8000000 in
set_option maxRecDepth 100000 in
theorem impl_AppendRecord.calls (k : Nat) (a0_0 : ByteArray) (a0_1 : ByteArray) (a0_2 : Int) (a1_0 : ByteArray) (a1_1 : ByteArray) (r1 : ByteArray) (r2 : ByteArray) (r3 : Int) (r4 : Int) (w : World) (hG : Glob w) (h : impl_AppendRecord.f k a0_0 a0_1 a0_2 a1_0 a1_1 = some (r1, r2, r3, r4)) :
    Calls Tryd.prog 16 #[.agg #[.string a0_0, .string a0_1, .int .i64 a0_2], .agg #[.string a1_0, .string a1_1]] w fun e w' => e = .returned (.tuple #[.agg #[.string r1, .string r2, .int .i64 r3], .int .i64 r4]) ∧ Below w.heap.size w w' := by
  have hu25 := Tryd.underlying25
  have hu36 := Tryd.underlying36
  have HB := zA (qO w.heap.size w)
  have H : ((impl_IsValidLog.f k a0_0 a0_1 a0_2).bind fun t216 => (if t216 = true then ((impl_IsValidRecord.f a1_0 a1_1).bind fun t217 => (impl_AppendRecord.j0 k (!t217) a0_0 a0_1 a0_2 a1_0 a1_1)) else (impl_AppendRecord.j0 k true a0_0 a0_1 a0_2 a1_0 a1_1))) = some (r1, r2, r3, r4) := h
  clear h
  have HC3 := zA H
  clear H
  go_enter Tryd.func16, Tryd.ntmps16
  go_upto_region 1 with (first | ((with_reducible refine zZ (N := 2) rfl ?_); refine zY ?hg (N := 2) ?hd (cs := #[.string a0_0, .string a0_1, .int .i64 a0_2]) (t := 25) ?hr ?_; (case hd => rfl); (case hg => rfl); (case hr => first | (go_simp; done) | (go_simp; rfl)); intro gb213 hg w4 hbox hb; have n0_ := zA (zL (by repeat (first | (with_reducible first | exact HB.out | apply zD | apply zB | apply zC) | exact HB.out)) hb); have n1_ := zA (hbox); have n2_ := zA ((by rw [hg]; exact (zK (by repeat (first | (with_reducible first | exact HB.out | apply zD | apply zB | apply zC) | exact HB.out))) : w.heap.size ≤ gb213)); have n3_ := zA ((by rw [hg]; exact (zK (by repeat (first | (with_reducible first | exact HB.out | apply zD | apply zB | apply zC) | exact HB.out))) : w.heap.size ≤ gb213)); clear HB; have HB := n0_; have BK213 := n1_; have GW213 := n2_; have GE213 := n3_; clear n0_ n1_ n2_ n3_; clear hb hbox hg) | ((with_reducible refine zZ (N := 3) rfl ?_); refine zY ?hg (N := 3) ?hd (cs := #[.string a1_0, .string a1_1]) (t := 36) ?hr ?_; (case hd => rfl); (case hg => rfl); (case hr => first | (go_simp; done) | (go_simp; rfl)); intro gb214 hg w5 hbox hb; have n0_ := zA (zR (g := gb213) (o := .cells #[.string a0_0, .string a0_1, .int .i64 a0_2] 25 (0, 0)) (by (with_reducible repeat (first | refine zF ?_ _ | refine zH ?_ | refine zG ?_ _)); exact BK213.out) hb); have n1_ := zA (zL (by repeat (first | (with_reducible first | exact HB.out | apply zD | apply zB | apply zC | refine zE ?_ GE213.out) | exact HB.out)) hb); have n2_ := zA (hbox); have n3_ := zA ((by rw [hg]; exact (zK (by repeat (first | (with_reducible first | exact HB.out | apply zD | apply zB | apply zC | refine zE ?_ GE213.out) | exact HB.out))) : w.heap.size ≤ gb214)); have n4_ := zA ((by rw [hg]; exact (zK (by repeat (first | (with_reducible first | exact HB.out | apply zD | apply zB | apply zC | refine zE ?_ GE213.out) | exact HB.out))) : w.heap.size ≤ gb214)); have n5_ := zA ((by rw [hg]; exact Nat.ne_of_lt (blk_lt (g := gb213) (o := .cells #[.string a0_0, .string a0_1, .int .i64 a0_2] 25 (0, 0)) (by (with_reducible repeat (first | refine zF ?_ _ | refine zH ?_ | refine zG ?_ _)); exact BK213.out)) : gb213 ≠ gb214)); have n6_ := zA ((by rw [hg]; exact Nat.ne_of_gt (blk_lt (g := gb213) (o := .cells #[.string a0_0, .string a0_1, .int .i64 a0_2] 25 (0, 0)) (by (with_reducible repeat (first | refine zF ?_ _ | refine zH ?_ | refine zG ?_ _)); exact BK213.out)) : gb214 ≠ gb213)); clear BK213; clear HB; have BK213 := n0_; have HB := n1_; have BK214 := n2_; have GW214 := n3_; have GE214 := n4_; have NB213_214 := n5_; have NB214_213 := n6_; clear n0_ n1_ n2_ n3_ n4_ n5_ n6_; clear hb hbox hg) | ((with_reducible refine zZ (N := 4) rfl ?_); refine zY ?hg (N := 4) ?hd (cs := #[.string (⟨#[]⟩ : ByteArray), .string (⟨#[]⟩ : ByteArray), .int .i64 0]) (t := 25) ?hr ?_; (case hd => rfl); (case hg => rfl); (case hr => first | (go_simp; done) | (go_simp; rfl)); intro gb215 hg w6 hbox hb; have n0_ := zA (zR (g := gb213) (o := .cells #[.string a0_0, .string a0_1, .int .i64 a0_2] 25 (0, 0)) (by (with_reducible repeat (first | refine zF ?_ _ | refine zH ?_ | refine zG ?_ _)); exact BK213.out) hb); have n1_ := zA (zR (g := gb214) (o := .cells #[.string a1_0, .string a1_1] 36 (0, 0)) (by (with_reducible repeat (first | refine zF ?_ _ | refine zH ?_ | refine zG ?_ _)); exact BK214.out) hb); have n2_ := zA (zL (by repeat (first | (with_reducible first | exact HB.out | apply zD | apply zB | apply zC | refine zE ?_ GE213.out | refine zE ?_ GE214.out) | exact HB.out)) hb); have n3_ := zA (hbox); have n4_ := zA ((by rw [hg]; exact (zK (by repeat (first | (with_reducible first | exact HB.out | apply zD | apply zB | apply zC | refine zE ?_ GE213.out | refine zE ?_ GE214.out) | exact HB.out))) : w.heap.size ≤ gb215)); have n5_ := zA ((by rw [hg]; exact (zK (by repeat (first | (with_reducible first | exact HB.out | apply zD | apply zB | apply zC | refine zE ?_ GE213.out | refine zE ?_ GE214.out) | exact HB.out))) : w.heap.size ≤ gb215)); have n6_ := zA ((by rw [hg]; exact Nat.ne_of_lt (blk_lt (g := gb213) (o := .cells #[.string a0_0, .string a0_1, .int .i64 a0_2] 25 (0, 0)) (by (with_reducible repeat (first | refine zF ?_ _ | refine zH ?_ | refine zG ?_ _)); exact BK213.out)) : gb213 ≠ gb215)); have n7_ := zA ((by rw [hg]; exact Nat.ne_of_gt (blk_lt (g := gb213) (o := .cells #[.string a0_0, .string a0_1, .int .i64 a0_2] 25 (0, 0)) (by (with_reducible repeat (first | refine zF ?_ _ | refine zH ?_ | refine zG ?_ _)); exact BK213.out)) : gb215 ≠ gb213)); have n8_ := zA ((by rw [hg]; exact Nat.ne_of_lt (blk_lt (g := gb214) (o := .cells #[.string a1_0, .string a1_1] 36 (0, 0)) (by (with_reducible repeat (first | refine zF ?_ _ | refine zH ?_ | refine zG ?_ _)); exact BK214.out)) : gb214 ≠ gb215)); have n9_ := zA ((by rw [hg]; exact Nat.ne_of_gt (blk_lt (g := gb214) (o := .cells #[.string a1_0, .string a1_1] 36 (0, 0)) (by (with_reducible repeat (first | refine zF ?_ _ | refine zH ?_ | refine zG ?_ _)); exact BK214.out)) : gb215 ≠ gb214)); clear BK213; clear BK214; clear HB; have BK213 := n0_; have BK214 := n1_; have HB := n2_; have BK215 := n3_; have GW215 := n4_; have GE215 := n5_; have NB213_215 := n6_; have NB215_213 := n7_; have NB214_215 := n8_; have NB215_214 := n9_; clear n0_ n1_ n2_ n3_ n4_ n5_ n6_ n7_ n8_ n9_; clear hb hbox hg))
  (try simp only [Act.put, qJ, qK, qL])
  go_cut [8] (fun v8 wc => ∃ (kq : Nat) (x8_2 : Bool), v8 = .bool x8_2 ∧ Aside0 (impl_AppendRecord.j0 kq x8_2 a0_0 a0_1 a0_2 a1_0 a1_1 = some (r1, r2, r3, r4)) ∧ Aside0 (kq ≤ k) ∧ Aside0 (wc.heap[gb213]? = some (.cells #[.string a0_0, .string a0_1, .int .i64 a0_2] 25 (0, 0))) ∧ Aside0 (wc.heap[gb214]? = some (.cells #[.string a1_0, .string a1_1] 36 (0, 0))) ∧ Aside0 (wc.heap[gb215]? = some (.cells #[.string (⟨#[]⟩ : ByteArray), .string (⟨#[]⟩ : ByteArray), .int .i64 0] 25 (0, 0))) ∧ Aside0 (Below w.heap.size w wc))
  case first =>
    have H := HC3.out
    clear HC3
    replace H := Option.bind_eq_some_iff.mp H
    obtain ⟨t216, A70, H⟩ := H
    replace H : (if t216 = true then ((impl_IsValidRecord.f a1_0 a1_1).bind fun t217 => (impl_AppendRecord.j0 k (!t217) a0_0 a0_1 a0_2 a1_0 a1_1)) else (impl_AppendRecord.j0 k true a0_0 a0_1 a0_2 a1_0 a1_1)) = some (r1, r2, r3, r4) := H
    have A7 := zA A70
    clear A70
    by_cases c8 : t216 = true
    · subst c8
      have H1 : ((impl_IsValidRecord.f a1_0 a1_1).bind fun t217 => (impl_AppendRecord.j0 k (!t217) a0_0 a0_1 a0_2 a1_0 a1_1)) = some (r1, r2, r3, r4) := by rw [if_pos rfl] at H; exact H
      clear H
      have H := H1
      clear H1
      replace H := Option.bind_eq_some_iff.mp H
      obtain ⟨t217, A90, H⟩ := H
      replace H : (impl_AppendRecord.j0 k (!t217) a0_0 a0_1 a0_2 a1_0 a1_1) = some (r1, r2, r3, r4) := H
      have A9 := zA A90
      clear A90
      have H' := zA H
      clear H
      have hnb10 := NB213_214.out
      have hnc10 := NB214_213.out
      have hnb11 := NB213_215.out
      have hnc11 := NB215_213.out
      have hcz12_0 : w6.cell? ⟨gb213, 0, none⟩ = some (.string a0_0) := (zJ BK213.out 0).trans rfl
      have hcz12_1 : w6.cell? ⟨gb213, 1, none⟩ = some (.string a0_1) := (zJ BK213.out 1).trans rfl
      have hcz12_2 : w6.cell? ⟨gb213, 2, none⟩ = some (.int .i64 a0_2) := (zJ BK213.out 2).trans rfl
      have hfz12_0 := zI BK213.out 0
      have hfz12_1 := zI BK213.out 1
      have hfz12_2 := zI BK213.out 2
      go_wp2_with (first | ((with_reducible refine zS (f := 43) rfl ?_); refine qW (some 10) rfl rfl Tryd.func43 (by kernel_rfl) rfl #[.agg #[.string a0_0, .string a0_1, .int .i64 a0_2]] rfl (by (try simp only [List.map_toArray, List.map_cons, List.map_nil]); first | done | rfl | (simp only [qN, qM]; rfl)) ?_; (with_reducible refine (impl_IsValidLog.calls k a0_0 a0_1 a0_2 true _ ?side1 A7.out).mono ?_); (case side1 => exact Glob.below hG (by repeat (first | (with_reducible first | exact HB.out | apply zD | apply zB | apply zC | refine zE ?_ GE213.out | refine zE ?_ GE214.out | refine zE ?_ GE215.out) | exact HB.out))); rintro e w13 ⟨rfl, hb⟩; refine ⟨_, rfl, ?_⟩; have n0_ := zA (zR (g := gb213) (o := .cells #[.string a0_0, .string a0_1, .int .i64 a0_2] 25 (0, 0)) (by (with_reducible repeat (first | refine zF ?_ _ | refine zH ?_ | refine zG ?_ _)); exact BK213.out) hb); have n1_ := zA (zR (g := gb214) (o := .cells #[.string a1_0, .string a1_1] 36 (0, 0)) (by (with_reducible repeat (first | refine zF ?_ _ | refine zH ?_ | refine zG ?_ _)); exact BK214.out) hb); have n2_ := zA (zR (g := gb215) (o := .cells #[.string (⟨#[]⟩ : ByteArray), .string (⟨#[]⟩ : ByteArray), .int .i64 0] 25 (0, 0)) (by (with_reducible repeat (first | refine zF ?_ _ | refine zH ?_ | refine zG ?_ _)); exact BK215.out) hb); have n3_ := zA (zL (by repeat (first | (with_reducible first | exact HB.out | apply zD | apply zB | apply zC | refine zE ?_ GE213.out | refine zE ?_ GE214.out | refine zE ?_ GE215.out) | exact HB.out)) hb); clear BK213; clear BK214; clear BK215; clear HB; have BK213 := n0_; have BK214 := n1_; have BK215 := n2_; have HB := n3_; clear n0_ n1_ n2_ n3_; (try clear hb); (try clear hb2); (try clear hk); (try clear hi); have hnb14 := NB214_215.out; have hnc14 := NB215_214.out; have hcz15_0 : w13.cell? ⟨gb214, 0, none⟩ = some (.string a1_0) := (zJ BK214.out 0).trans rfl; have hcz15_1 : w13.cell? ⟨gb214, 1, none⟩ = some (.string a1_1) := (zJ BK214.out 1).trans rfl; have hfz15_0 := zI BK214.out 0; have hfz15_1 := zI BK214.out 1) | (go_at_call 40; (with_reducible refine (impl_IsValidRecord.calls a1_0 a1_1 t217 _ A9.out).mono ?_); rintro e w16 ⟨rfl, hb⟩; have n0_ := zA (zR (g := gb213) (o := .cells #[.string a0_0, .string a0_1, .int .i64 a0_2] 25 (0, 0)) (by (with_reducible repeat (first | refine zF ?_ _ | refine zH ?_ | refine zG ?_ _)); exact BK213.out) hb); have n1_ := zA (zR (g := gb214) (o := .cells #[.string a1_0, .string a1_1] 36 (0, 0)) (by (with_reducible repeat (first | refine zF ?_ _ | refine zH ?_ | refine zG ?_ _)); exact BK214.out) hb); have n2_ := zA (zR (g := gb215) (o := .cells #[.string (⟨#[]⟩ : ByteArray), .string (⟨#[]⟩ : ByteArray), .int .i64 0] 25 (0, 0)) (by (with_reducible repeat (first | refine zF ?_ _ | refine zH ?_ | refine zG ?_ _)); exact BK215.out) hb); have n3_ := zA (zL (by repeat (first | (with_reducible first | exact HB.out | apply zD | apply zB | apply zC | refine zE ?_ GE213.out | refine zE ?_ GE214.out | refine zE ?_ GE215.out) | exact HB.out)) hb); clear BK213; clear BK214; clear BK215; clear HB; have BK213 := n0_; have BK214 := n1_; have BK215 := n2_; have HB := n3_; clear n0_ n1_ n2_ n3_; (try clear hb); (try clear hb2); (try clear hk); (try clear hi)))
      go_meet
      case rel => exact ⟨_, (!t217), (by first | rfl | (simp; done) | (simp [*]; done)), H', ⟨by first | omega | exact Nat.le_refl _⟩, ⟨by (with_reducible repeat (first | refine zF ?_ _ | refine zH ?_ | refine zG ?_ _)); exact BK213.out⟩, ⟨by (with_reducible repeat (first | refine zF ?_ _ | refine zH ?_ | refine zG ?_ _)); exact BK214.out⟩, ⟨by (with_reducible repeat (first | refine zF ?_ _ | refine zH ?_ | refine zG ?_ _)); exact BK215.out⟩, ⟨by repeat (first | (with_reducible first | exact HB.out | apply zD | apply zB | apply zC | refine zE ?_ GE213.out | refine zE ?_ GE214.out | refine zE ?_ GE215.out) | exact HB.out)⟩⟩
    · replace c8 := Bool.eq_false_iff.mpr c8
      subst c8
      have H1 : (impl_AppendRecord.j0 k true a0_0 a0_1 a0_2 a1_0 a1_1) = some (r1, r2, r3, r4) := by rw [if_neg (show ¬ (false = true) by decide)] at H; exact H
      clear H
      have H := H1
      clear H1
      have H' := zA H
      clear H
      have hnb17 := NB213_214.out
      have hnc17 := NB214_213.out
      have hnb18 := NB213_215.out
      have hnc18 := NB215_213.out
      have hcz19_0 : w6.cell? ⟨gb213, 0, none⟩ = some (.string a0_0) := (zJ BK213.out 0).trans rfl
      have hcz19_1 : w6.cell? ⟨gb213, 1, none⟩ = some (.string a0_1) := (zJ BK213.out 1).trans rfl
      have hcz19_2 : w6.cell? ⟨gb213, 2, none⟩ = some (.int .i64 a0_2) := (zJ BK213.out 2).trans rfl
      have hfz19_0 := zI BK213.out 0
      have hfz19_1 := zI BK213.out 1
      have hfz19_2 := zI BK213.out 2
      go_wp2_with (first | ((with_reducible refine zS (f := 43) rfl ?_); refine qW (some 10) rfl rfl Tryd.func43 (by kernel_rfl) rfl #[.agg #[.string a0_0, .string a0_1, .int .i64 a0_2]] rfl (by (try simp only [List.map_toArray, List.map_cons, List.map_nil]); first | done | rfl | (simp only [qN, qM]; rfl)) ?_; (with_reducible refine (impl_IsValidLog.calls k a0_0 a0_1 a0_2 false _ ?side1 A7.out).mono ?_); (case side1 => exact Glob.below hG (by repeat (first | (with_reducible first | exact HB.out | apply zD | apply zB | apply zC | refine zE ?_ GE213.out | refine zE ?_ GE214.out | refine zE ?_ GE215.out) | exact HB.out))); rintro e w20 ⟨rfl, hb⟩; refine ⟨_, rfl, ?_⟩; have n0_ := zA (zR (g := gb213) (o := .cells #[.string a0_0, .string a0_1, .int .i64 a0_2] 25 (0, 0)) (by (with_reducible repeat (first | refine zF ?_ _ | refine zH ?_ | refine zG ?_ _)); exact BK213.out) hb); have n1_ := zA (zR (g := gb214) (o := .cells #[.string a1_0, .string a1_1] 36 (0, 0)) (by (with_reducible repeat (first | refine zF ?_ _ | refine zH ?_ | refine zG ?_ _)); exact BK214.out) hb); have n2_ := zA (zR (g := gb215) (o := .cells #[.string (⟨#[]⟩ : ByteArray), .string (⟨#[]⟩ : ByteArray), .int .i64 0] 25 (0, 0)) (by (with_reducible repeat (first | refine zF ?_ _ | refine zH ?_ | refine zG ?_ _)); exact BK215.out) hb); have n3_ := zA (zL (by repeat (first | (with_reducible first | exact HB.out | apply zD | apply zB | apply zC | refine zE ?_ GE213.out | refine zE ?_ GE214.out | refine zE ?_ GE215.out) | exact HB.out)) hb); clear BK213; clear BK214; clear BK215; clear HB; have BK213 := n0_; have BK214 := n1_; have BK215 := n2_; have HB := n3_; clear n0_ n1_ n2_ n3_; (try clear hb); (try clear hb2); (try clear hk); (try clear hi)))
      go_meet
      case rel => exact ⟨_, (true), (by first | rfl | (simp; done) | (simp [*]; done)), H', ⟨by first | omega | exact Nat.le_refl _⟩, ⟨by (with_reducible repeat (first | refine zF ?_ _ | refine zH ?_ | refine zG ?_ _)); exact BK213.out⟩, ⟨by (with_reducible repeat (first | refine zF ?_ _ | refine zH ?_ | refine zG ?_ _)); exact BK214.out⟩, ⟨by (with_reducible repeat (first | refine zF ?_ _ | refine zH ?_ | refine zG ?_ _)); exact BK215.out⟩, ⟨by repeat (first | (with_reducible first | exact HB.out | apply zD | apply zB | apply zC | refine zE ?_ GE213.out | refine zE ?_ GE214.out | refine zE ?_ GE215.out) | exact HB.out)⟩⟩
  case rest =>
    clear HC3
    try clear c1
    try clear p2
    try clear c4
    try clear c8
    try clear c10
    try clear c11
    try clear c14
    try clear c16
    try clear c17
    try clear c18
    try clear hcz12_0
    try clear hcz12_1
    try clear hcz12_2
    try clear hcz15_0
    try clear hcz15_1
    try clear hcz19_0
    try clear hcz19_1
    try clear hcz19_2
    try clear hfz12_0
    try clear hfz12_1
    try clear hfz12_2
    try clear hfz15_0
    try clear hfz15_1
    try clear hfz19_0
    try clear hfz19_1
    try clear hfz19_2
    obtain ⟨kq, x8_2, rfl, HA, HJ2, BK213, BK214, BK215, HB⟩ := hcut
    cases kq with
    | zero => exact absurd HA.out (by simp [impl_AppendRecord.j0])
    | succ kj2 =>
      have H := HA.out
      clear HA
      simp only [impl_AppendRecord.j0] at H
      by_cases c21 : x8_2 = true
      · subst c21
        have H1 : (some (a0_0, a0_1, a0_2, 1)) = some (r1, r2, r3, r4) := by rw [if_pos rfl] at H; exact H
        clear H
        have H := H1
        clear H1
        simp only [Option.some.injEq, Prod.mk.injEq] at H
        obtain ⟨rfl, rfl, rfl, rfl⟩ := H
        have hnb22 := NB213_214.out
        have hnc22 := NB214_213.out
        have hnb23 := NB213_215.out
        have hnc23 := NB215_213.out
        have hcz24_0 : wc.cell? ⟨gb213, 0, none⟩ = some (.string a0_0) := (zJ BK213.out 0).trans rfl
        have hcz24_1 : wc.cell? ⟨gb213, 1, none⟩ = some (.string a0_1) := (zJ BK213.out 1).trans rfl
        have hcz24_2 : wc.cell? ⟨gb213, 2, none⟩ = some (.int .i64 a0_2) := (zJ BK213.out 2).trans rfl
        have hfz24_0 := zI BK213.out 0
        have hfz24_1 := zI BK213.out 1
        have hfz24_2 := zI BK213.out 2
        have hnb25 := NB215_214.out
        have hnc25 := NB214_215.out
        have hcz26_0 : wc.cell? ⟨gb215, 0, none⟩ = some (.string (⟨#[]⟩ : ByteArray)) := (zJ BK215.out 0).trans rfl
        have hcz26_1 : wc.cell? ⟨gb215, 1, none⟩ = some (.string (⟨#[]⟩ : ByteArray)) := (zJ BK215.out 1).trans rfl
        have hcz26_2 : wc.cell? ⟨gb215, 2, none⟩ = some (.int .i64 0) := (zJ BK215.out 2).trans rfl
        have hfz26_0 := zI BK215.out 0
        have hfz26_1 := zI BK215.out 1
        have hfz26_2 := zI BK215.out 2
        go_wp2
        refine bodyPost_ret (results_ct rfl _ _ gb215 25 #[.string a0_0, .string a0_1, .int .i64 a0_2] (0, 0) _ rfl (by (with_reducible repeat (first | refine zF ?_ _ | refine zH ?_ | refine zG ?_ _)); refine zX (cs := #[.string a0_0, .string a0_1, .int .i64 0]) ?_ 2 _ rfl; (with_reducible repeat (first | refine zF ?_ _ | refine zH ?_ | refine zG ?_ _)); refine zX (cs := #[.string a0_0, .string (⟨#[]⟩ : ByteArray), .int .i64 0]) ?_ 1 _ rfl; (with_reducible repeat (first | refine zF ?_ _ | refine zH ?_ | refine zG ?_ _)); refine zX (cs := #[.string (⟨#[]⟩ : ByteArray), .string (⟨#[]⟩ : ByteArray), .int .i64 0]) ?_ 0 _ rfl; (with_reducible repeat (first | refine zF ?_ _ | refine zH ?_ | refine zG ?_ _)); exact BK215.out) Tryd.underlying25 rfl (by kernel_rfl)) rfl ?_
        exact ⟨by first | rfl | (simp [qH, qI] <;> rfl) | (simp [*, qH, qI] <;> rfl), by repeat (first | (with_reducible first | exact HB.out | apply zD | apply zB | apply zC | refine zE ?_ GE213.out | refine zE ?_ GE214.out | refine zE ?_ GE215.out) | exact HB.out)⟩
      · replace c21 := Bool.eq_false_iff.mpr c21
        subst c21
        have H1 : (if a0_2 = 60 then (some (a0_0, a0_1, a0_2, 2)) else ((impl_EncodeRecord.f kj2 a0_2 a1_0 a1_1).bind fun bt218 => (if a0_1.size + bt218.1.size ≤ 9223372036854775807 then (some (a0_0, a0_1 ++ bt218.1, wrap64 (a0_2 + 1), 0)) else (none)))) = some (r1, r2, r3, r4) := by rw [if_neg (show ¬ (false = true) by decide)] at H; exact H
        clear H
        have H := H1
        clear H1
        by_cases c27 : a0_2 = 60
        · rw [if_pos c27] at H
          have c27b0 : (a0_2 == 60) = true := beq_iff_eq.mpr c27
          have c27b1 : (a0_2 != 60) = false := bne_eq_false_iff_eq.mpr c27
          clear c27
          simp only [Option.some.injEq, Prod.mk.injEq] at H
          obtain ⟨rfl, rfl, rfl, rfl⟩ := H
          have hnb28 := NB213_214.out
          have hnc28 := NB214_213.out
          have hnb29 := NB213_215.out
          have hnc29 := NB215_213.out
          have hcz30_0 : wc.cell? ⟨gb213, 0, none⟩ = some (.string a0_0) := (zJ BK213.out 0).trans rfl
          have hcz30_1 : wc.cell? ⟨gb213, 1, none⟩ = some (.string a0_1) := (zJ BK213.out 1).trans rfl
          have hcz30_2 : wc.cell? ⟨gb213, 2, none⟩ = some (.int .i64 a0_2) := (zJ BK213.out 2).trans rfl
          have hfz30_0 := zI BK213.out 0
          have hfz30_1 := zI BK213.out 1
          have hfz30_2 := zI BK213.out 2
          have hnb31 := NB215_214.out
          have hnc31 := NB214_215.out
          have hcz32_0 : wc.cell? ⟨gb215, 0, none⟩ = some (.string (⟨#[]⟩ : ByteArray)) := (zJ BK215.out 0).trans rfl
          have hcz32_1 : wc.cell? ⟨gb215, 1, none⟩ = some (.string (⟨#[]⟩ : ByteArray)) := (zJ BK215.out 1).trans rfl
          have hcz32_2 : wc.cell? ⟨gb215, 2, none⟩ = some (.int .i64 0) := (zJ BK215.out 2).trans rfl
          have hfz32_0 := zI BK215.out 0
          have hfz32_1 := zI BK215.out 1
          have hfz32_2 := zI BK215.out 2
          go_wp2
          refine bodyPost_ret (results_ct rfl _ _ gb215 25 #[.string a0_0, .string a0_1, .int .i64 a0_2] (0, 0) _ rfl (by (with_reducible repeat (first | refine zF ?_ _ | refine zH ?_ | refine zG ?_ _)); refine zX (cs := #[.string a0_0, .string a0_1, .int .i64 0]) ?_ 2 _ rfl; (with_reducible repeat (first | refine zF ?_ _ | refine zH ?_ | refine zG ?_ _)); refine zX (cs := #[.string a0_0, .string (⟨#[]⟩ : ByteArray), .int .i64 0]) ?_ 1 _ rfl; (with_reducible repeat (first | refine zF ?_ _ | refine zH ?_ | refine zG ?_ _)); refine zX (cs := #[.string (⟨#[]⟩ : ByteArray), .string (⟨#[]⟩ : ByteArray), .int .i64 0]) ?_ 0 _ rfl; (with_reducible repeat (first | refine zF ?_ _ | refine zH ?_ | refine zG ?_ _)); exact BK215.out) Tryd.underlying25 rfl (by kernel_rfl)) rfl ?_
          exact ⟨by first | rfl | (simp [qH, qI] <;> rfl) | (simp [*, qH, qI] <;> rfl), by repeat (first | (with_reducible first | exact HB.out | apply zD | apply zB | apply zC | refine zE ?_ GE213.out | refine zE ?_ GE214.out | refine zE ?_ GE215.out) | exact HB.out)⟩
        · rw [if_neg c27] at H
          have c27b0 : (a0_2 == 60) = false := beq_eq_false_iff_ne.mpr c27
          have c27b1 : (a0_2 != 60) = true := bne_iff_ne.mpr c27
          replace H := Option.bind_eq_some_iff.mp H
          obtain ⟨⟨t218, t219⟩, A330, H⟩ := H
          replace H : (if a0_1.size + t218.size ≤ 9223372036854775807 then (some (a0_0, a0_1 ++ t218, wrap64 (a0_2 + 1), 0)) else (none)) = some (r1, r2, r3, r4) := H
          have A33 := zA A330
          clear A330
          by_cases c34 : a0_1.size + t218.size ≤ 9223372036854775807
          · rw [if_pos c34] at H
            have c34b0 := eq_true c34
            have c34b1 : decide (a0_1.size + t218.size ≤ 9223372036854775807) = true := qE c34
            try have c34b2 : (9223372036854775807 < a0_1.size + t218.size) = False := eq_false (Nat.not_lt.2 c34)
            simp only [Option.some.injEq, Prod.mk.injEq] at H
            obtain ⟨rfl, rfl, rfl, rfl⟩ := H
            have hnb35 := NB213_214.out
            have hnc35 := NB214_213.out
            have hnb36 := NB213_215.out
            have hnc36 := NB215_213.out
            have hcz37_0 : wc.cell? ⟨gb213, 0, none⟩ = some (.string a0_0) := (zJ BK213.out 0).trans rfl
            have hcz37_1 : wc.cell? ⟨gb213, 1, none⟩ = some (.string a0_1) := (zJ BK213.out 1).trans rfl
            have hcz37_2 : wc.cell? ⟨gb213, 2, none⟩ = some (.int .i64 a0_2) := (zJ BK213.out 2).trans rfl
            have hfz37_0 := zI BK213.out 0
            have hfz37_1 := zI BK213.out 1
            have hfz37_2 := zI BK213.out 2
            have hnb38 := NB214_215.out
            have hnc38 := NB215_214.out
            have hcz39_0 : wc.cell? ⟨gb214, 0, none⟩ = some (.string a1_0) := (zJ BK214.out 0).trans rfl
            have hcz39_1 : wc.cell? ⟨gb214, 1, none⟩ = some (.string a1_1) := (zJ BK214.out 1).trans rfl
            have hfz39_0 := zI BK214.out 0
            have hfz39_1 := zI BK214.out 1
            go_wp2_with (first | ((with_reducible refine zS (f := 38) rfl ?_); refine qW (some 27) rfl rfl Tryd.func38 (by kernel_rfl) rfl #[.int .i64 a0_2, .agg #[.string a1_0, .string a1_1]] rfl (by (try simp only [List.map_toArray, List.map_cons, List.map_nil]); first | done | rfl | (simp only [qN, qM]; rfl)) ?_; (with_reducible refine (impl_EncodeRecord.calls kj2 a0_2 a1_0 a1_1 t218 t219 _ ?side1 A33.out).mono ?_); (case side1 => exact Glob.below hG (by repeat (first | (with_reducible first | exact HB.out | apply zD | apply zB | apply zC | refine zE ?_ GE213.out | refine zE ?_ GE214.out | refine zE ?_ GE215.out) | exact HB.out))); rintro e w40 ⟨rfl, hb⟩; refine ⟨_, rfl, ?_⟩; have n0_ := zA (zR (g := gb213) (o := .cells #[.string a0_0, .string a0_1, .int .i64 a0_2] 25 (0, 0)) (by (with_reducible repeat (first | refine zF ?_ _ | refine zH ?_ | refine zG ?_ _)); exact BK213.out) hb); have n1_ := zA (zR (g := gb214) (o := .cells #[.string a1_0, .string a1_1] 36 (0, 0)) (by (with_reducible repeat (first | refine zF ?_ _ | refine zH ?_ | refine zG ?_ _)); exact BK214.out) hb); have n2_ := zA (zR (g := gb215) (o := .cells #[.string (⟨#[]⟩ : ByteArray), .string (⟨#[]⟩ : ByteArray), .int .i64 0] 25 (0, 0)) (by (with_reducible repeat (first | refine zF ?_ _ | refine zH ?_ | refine zG ?_ _)); exact BK215.out) hb); have n3_ := zA (zL (by repeat (first | (with_reducible first | exact HB.out | apply zD | apply zB | apply zC | refine zE ?_ GE213.out | refine zE ?_ GE214.out | refine zE ?_ GE215.out) | exact HB.out)) hb); clear BK213; clear BK214; clear BK215; clear HB; have BK213 := n0_; have BK214 := n1_; have BK215 := n2_; have HB := n3_; clear n0_ n1_ n2_ n3_; (try clear hb); (try clear hb2); (try clear hk); (try clear hi); have hcz41_0 : w40.cell? ⟨gb213, 0, none⟩ = some (.string a0_0) := (zJ BK213.out 0).trans rfl; have hcz41_1 : w40.cell? ⟨gb213, 1, none⟩ = some (.string a0_1) := (zJ BK213.out 1).trans rfl; have hcz41_2 : w40.cell? ⟨gb213, 2, none⟩ = some (.int .i64 a0_2) := (zJ BK213.out 2).trans rfl; have hfz41_0 := zI BK213.out 0; have hfz41_1 := zI BK213.out 1; have hfz41_2 := zI BK213.out 2; have hcz42_0 : w40.cell? ⟨gb215, 0, none⟩ = some (.string (⟨#[]⟩ : ByteArray)) := (zJ BK215.out 0).trans rfl; have hcz42_1 : w40.cell? ⟨gb215, 1, none⟩ = some (.string (⟨#[]⟩ : ByteArray)) := (zJ BK215.out 1).trans rfl; have hcz42_2 : w40.cell? ⟨gb215, 2, none⟩ = some (.int .i64 0) := (zJ BK215.out 2).trans rfl; have hfz42_0 := zI BK215.out 0; have hfz42_1 := zI BK215.out 1; have hfz42_2 := zI BK215.out 2))
            refine bodyPost_ret (results_ct rfl _ _ gb215 25 #[.string a0_0, .string (a0_1 ++ t218), .int .i64 (wrap64 (a0_2 + 1))] (0, 0) _ rfl (by (with_reducible repeat (first | refine zF ?_ _ | refine zH ?_ | refine zG ?_ _)); refine zX (cs := #[.string a0_0, .string (a0_1 ++ t218), .int .i64 0]) ?_ 2 _ rfl; (with_reducible repeat (first | refine zF ?_ _ | refine zH ?_ | refine zG ?_ _)); refine zX (cs := #[.string a0_0, .string (⟨#[]⟩ : ByteArray), .int .i64 0]) ?_ 1 _ rfl; (with_reducible repeat (first | refine zF ?_ _ | refine zH ?_ | refine zG ?_ _)); refine zX (cs := #[.string (⟨#[]⟩ : ByteArray), .string (⟨#[]⟩ : ByteArray), .int .i64 0]) ?_ 0 _ rfl; (with_reducible repeat (first | refine zF ?_ _ | refine zH ?_ | refine zG ?_ _)); refine blk_far ?_ NB215_213.out _; (with_reducible repeat (first | refine zF ?_ _ | refine zH ?_ | refine zG ?_ _)); refine blk_far ?_ NB215_213.out _; (with_reducible repeat (first | refine zF ?_ _ | refine zH ?_ | refine zG ?_ _)); exact BK215.out) Tryd.underlying25 rfl (by kernel_rfl)) rfl ?_
            exact ⟨by first | rfl | (simp [qH, qI] <;> rfl) | (simp [*, qH, qI] <;> rfl), by repeat (first | (with_reducible first | exact HB.out | apply zD | apply zB | apply zC | refine zE ?_ GE213.out | refine zE ?_ GE214.out | refine zE ?_ GE215.out) | exact HB.out)⟩
          · rw [if_neg c34] at H
            exact absurd H (by simp)
end Go.Proofs.YtnbhbnndfpfikaaDoor.X
