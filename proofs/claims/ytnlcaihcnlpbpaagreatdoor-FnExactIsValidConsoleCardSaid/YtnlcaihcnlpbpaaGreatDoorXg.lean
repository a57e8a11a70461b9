/- Functions on dice (arrays of six whole numbers): copied, compared, looked at. -/
import Derived.Test.YtnlcaihcnlpbpaaGreatDoorProg
import Derived.Test.YtnlcaihcnlpbpaaGreatDoorShelf
import Derived.Test.YtnlcaihcnlpbpaaGreatDoorWWords
import Derived.Test.YtnlcaihcnlpbpaaGreatDoorWMore
import Derived.WalkKit
import Derived.LoopTactic
import Derived.WalkSmall
import Derived.Below
namespace Go.Proofs.YtnlcaihcnlpbpaaGreatDoor.X
open Go.RowKit Go.Proofs.YtnlcaihcnlpbpaaGreatDoorW.PrintWords Go.Proofs.YtnlcaihcnlpbpaaGreatDoorW.PrintLast Go.Proofs.YtnlcaihcnlpbpaaGreatDoorW.PrintMore
set_option linter.unusedVariables false
set_option linter.unusedSimpArgs false

def laws_toIntA6.f (a0 a1 a2 a3 a4 a5 : Int) : Option (Int × Int × Int × Int × Int × Int) := some (a0, a1, a2, a3, a4, a5)
set_option maxRecDepth 100000 in
set_option maxHeartbeats 2000000 in
theorem laws_toIntA6.calls (a0 a1 a2 a3 a4 a5 r1 r2 r3 r4 r5 r6 : Int) (w : World) (h : laws_toIntA6.f a0 a1 a2 a3 a4 a5 = some (r1, r2, r3, r4, r5, r6)) :
    Calls Tryz.prog 37 #[.agg #[.int .i64 a0, .int .i64 a1, .int .i64 a2, .int .i64 a3, .int .i64 a4, .int .i64 a5]] w fun e w' => e = .returned (.agg #[.int .i64 r1, .int .i64 r2, .int .i64 r3, .int .i64 r4, .int .i64 r5, .int .i64 r6]) ∧ Below w.heap.size w w' := by
  simp only [laws_toIntA6.f, Option.some.injEq, Prod.mk.injEq] at h
  obtain ⟨rfl, rfl, rfl, rfl, rfl, rfl⟩ := h
  have hu := Tryz.underlying63
  go_enter Tryz.func37, Tryz.ntmps37
  go_wp2
  go_loopw [4] (fun v4 wr => ∃ i : Nat, i ≤ 6 ∧ v4 = .int .i64 i ∧ wr.heap[w.heap.size]? = some (.cells #[.int .i64 a0, .int .i64 a1, .int .i64 a2, .int .i64 a3, .int .i64 a4, .int .i64 a5] 63 (0, 0)) ∧ wr.heap[w.heap.size + 1]? = some (.cells #[.int .i64 0, .int .i64 0, .int .i64 0, .int .i64 0, .int .i64 0, .int .i64 0] 63 (0, 0)) ∧
      wr.heap[w.heap.size + 1 + 1]? = some (.cells (match i with | 0 => #[.int .i64 0, .int .i64 0, .int .i64 0, .int .i64 0, .int .i64 0, .int .i64 0] | 1 => #[.int .i64 a0, .int .i64 0, .int .i64 0, .int .i64 0, .int .i64 0, .int .i64 0] | 2 => #[.int .i64 a0, .int .i64 a1, .int .i64 0, .int .i64 0, .int .i64 0, .int .i64 0] | 3 => #[.int .i64 a0, .int .i64 a1, .int .i64 a2, .int .i64 0, .int .i64 0, .int .i64 0] | 4 => #[.int .i64 a0, .int .i64 a1, .int .i64 a2, .int .i64 a3, .int .i64 0, .int .i64 0] | 5 => #[.int .i64 a0, .int .i64 a1, .int .i64 a2, .int .i64 a3, .int .i64 a4, .int .i64 0] | _ => #[.int .i64 a0, .int .i64 a1, .int .i64 a2, .int .i64 a3, .int .i64 a4, .int .i64 a5]) 63 (0, 0)) ∧ Below w.heap.size w wr)
    (fun v4 wr => match v4 with | .int _ i => (6 - i).toNat | _ => 0)
  case atStart =>
    refine ⟨0, by omega, rfl, ?_, ?_, ?_, (((Below.refl _ w).alloc (Nat.le_refl _) _).alloc (by simp) _).alloc (by simp; omega) _⟩
    · exact blk_alloc (blk_alloc (blk_new _ _) _) _
    · exact blk_alloc (by have := blk_new (w.alloc (.cells #[.int .i64 a0, .int .i64 a1, .int .i64 a2, .int .i64 a3, .int .i64 a4, .int .i64 a5] 63)) (.cells #[.int .i64 0, .int .i64 0, .int .i64 0, .int .i64 0, .int .i64 0, .int .i64 0] 63); rwa [World.size_alloc] at this) _
    · have := blk_new ((w.alloc (.cells #[.int .i64 a0, .int .i64 a1, .int .i64 a2, .int .i64 a3, .int .i64 a4, .int .i64 a5] 63)).alloc (.cells #[.int .i64 0, .int .i64 0, .int .i64 0, .int .i64 0, .int .i64 0, .int .i64 0] 63)) (.cells #[.int .i64 0, .int .i64 0, .int .i64 0, .int .i64 0, .int .i64 0, .int .i64 0] 63)
      rwa [World.size_alloc, World.size_alloc] at this
  case round =>
    obtain ⟨i, hi, rfl, hA, hR, hO, hB⟩ := hrel
    have hcase : i = 0 ∨ i = 1 ∨ i = 2 ∨ i = 3 ∨ i = 4 ∨ i = 5 ∨ i = 6 := by omega
    rcases hcase with rfl | rfl | rfl | rfl | rfl | rfl | rfl
    · have c1 : wr.cell? ⟨w.heap.size, 0, none⟩ = some (.int .i64 a0) := (blk_cell hA 0).trans rfl
      have c2 : wr.cell? ⟨w.heap.size + 1 + 1, 0, none⟩ = some (.int .i64 0) := (blk_cell hO 0).trans rfl
      have f2 := blk_frozen hO 0
      have hO2 := blk_put (cs' := #[.int .i64 a0, .int .i64 0, .int .i64 0, .int .i64 0, .int .i64 0, .int .i64 0]) hO 0 (.int .i64 a0) rfl
      have hA2 := blk_far (p := ⟨w.heap.size + 1 + 1, 0, none⟩) hA (by show w.heap.size ≠ w.heap.size + 1 + 1; omega) (.int .i64 a0)
      have hR2 := blk_far (p := ⟨w.heap.size + 1 + 1, 0, none⟩) hR (by show w.heap.size + 1 ≠ w.heap.size + 1 + 1; omega) (.int .i64 a0)
      have HA := Aside0.mk (And.intro hA2 (And.intro hR2 (And.intro hO2 (below_set (j := 0) (v := .int .i64 a0) hB (by omega : w.heap.size ≤ w.heap.size + 1 + 1)))))
      clear hA hO hR hB hA2 hR2 hO2
      go_wp2
      go_roundw
      case rel => exact ⟨1, by omega, rfl, HA.out.1, HA.out.2.1, HA.out.2.2.1, HA.out.2.2.2⟩
      case measure => simp
    · have c1 : wr.cell? ⟨w.heap.size, 1, none⟩ = some (.int .i64 a1) := (blk_cell hA 1).trans rfl
      have c2 : wr.cell? ⟨w.heap.size + 1 + 1, 1, none⟩ = some (.int .i64 0) := (blk_cell hO 1).trans rfl
      have f2 := blk_frozen hO 1
      have hO2 := blk_put (cs' := #[.int .i64 a0, .int .i64 a1, .int .i64 0, .int .i64 0, .int .i64 0, .int .i64 0]) hO 1 (.int .i64 a1) rfl
      have hA2 := blk_far (p := ⟨w.heap.size + 1 + 1, 1, none⟩) hA (by show w.heap.size ≠ w.heap.size + 1 + 1; omega) (.int .i64 a1)
      have hR2 := blk_far (p := ⟨w.heap.size + 1 + 1, 1, none⟩) hR (by show w.heap.size + 1 ≠ w.heap.size + 1 + 1; omega) (.int .i64 a1)
      have HA := Aside0.mk (And.intro hA2 (And.intro hR2 (And.intro hO2 (below_set (j := 1) (v := .int .i64 a1) hB (by omega : w.heap.size ≤ w.heap.size + 1 + 1)))))
      clear hA hO hR hB hA2 hR2 hO2
      go_wp2
      go_roundw
      case rel => exact ⟨2, by omega, rfl, HA.out.1, HA.out.2.1, HA.out.2.2.1, HA.out.2.2.2⟩
      case measure => simp
    · have c1 : wr.cell? ⟨w.heap.size, 2, none⟩ = some (.int .i64 a2) := (blk_cell hA 2).trans rfl
      have c2 : wr.cell? ⟨w.heap.size + 1 + 1, 2, none⟩ = some (.int .i64 0) := (blk_cell hO 2).trans rfl
      have f2 := blk_frozen hO 2
      have hO2 := blk_put (cs' := #[.int .i64 a0, .int .i64 a1, .int .i64 a2, .int .i64 0, .int .i64 0, .int .i64 0]) hO 2 (.int .i64 a2) rfl
      have hA2 := blk_far (p := ⟨w.heap.size + 1 + 1, 2, none⟩) hA (by show w.heap.size ≠ w.heap.size + 1 + 1; omega) (.int .i64 a2)
      have hR2 := blk_far (p := ⟨w.heap.size + 1 + 1, 2, none⟩) hR (by show w.heap.size + 1 ≠ w.heap.size + 1 + 1; omega) (.int .i64 a2)
      have HA := Aside0.mk (And.intro hA2 (And.intro hR2 (And.intro hO2 (below_set (j := 2) (v := .int .i64 a2) hB (by omega : w.heap.size ≤ w.heap.size + 1 + 1)))))
      clear hA hO hR hB hA2 hR2 hO2
      go_wp2
      go_roundw
      case rel => exact ⟨3, by omega, rfl, HA.out.1, HA.out.2.1, HA.out.2.2.1, HA.out.2.2.2⟩
      case measure => simp
    · have c1 : wr.cell? ⟨w.heap.size, 3, none⟩ = some (.int .i64 a3) := (blk_cell hA 3).trans rfl
      have c2 : wr.cell? ⟨w.heap.size + 1 + 1, 3, none⟩ = some (.int .i64 0) := (blk_cell hO 3).trans rfl
      have f2 := blk_frozen hO 3
      have hO2 := blk_put (cs' := #[.int .i64 a0, .int .i64 a1, .int .i64 a2, .int .i64 a3, .int .i64 0, .int .i64 0]) hO 3 (.int .i64 a3) rfl
      have hA2 := blk_far (p := ⟨w.heap.size + 1 + 1, 3, none⟩) hA (by show w.heap.size ≠ w.heap.size + 1 + 1; omega) (.int .i64 a3)
      have hR2 := blk_far (p := ⟨w.heap.size + 1 + 1, 3, none⟩) hR (by show w.heap.size + 1 ≠ w.heap.size + 1 + 1; omega) (.int .i64 a3)
      have HA := Aside0.mk (And.intro hA2 (And.intro hR2 (And.intro hO2 (below_set (j := 3) (v := .int .i64 a3) hB (by omega : w.heap.size ≤ w.heap.size + 1 + 1)))))
      clear hA hO hR hB hA2 hR2 hO2
      go_wp2
      go_roundw
      case rel => exact ⟨4, by omega, rfl, HA.out.1, HA.out.2.1, HA.out.2.2.1, HA.out.2.2.2⟩
      case measure => simp
    · have c1 : wr.cell? ⟨w.heap.size, 4, none⟩ = some (.int .i64 a4) := (blk_cell hA 4).trans rfl
      have c2 : wr.cell? ⟨w.heap.size + 1 + 1, 4, none⟩ = some (.int .i64 0) := (blk_cell hO 4).trans rfl
      have f2 := blk_frozen hO 4
      have hO2 := blk_put (cs' := #[.int .i64 a0, .int .i64 a1, .int .i64 a2, .int .i64 a3, .int .i64 a4, .int .i64 0]) hO 4 (.int .i64 a4) rfl
      have hA2 := blk_far (p := ⟨w.heap.size + 1 + 1, 4, none⟩) hA (by show w.heap.size ≠ w.heap.size + 1 + 1; omega) (.int .i64 a4)
      have hR2 := blk_far (p := ⟨w.heap.size + 1 + 1, 4, none⟩) hR (by show w.heap.size + 1 ≠ w.heap.size + 1 + 1; omega) (.int .i64 a4)
      have HA := Aside0.mk (And.intro hA2 (And.intro hR2 (And.intro hO2 (below_set (j := 4) (v := .int .i64 a4) hB (by omega : w.heap.size ≤ w.heap.size + 1 + 1)))))
      clear hA hO hR hB hA2 hR2 hO2
      go_wp2
      go_roundw
      case rel => exact ⟨5, by omega, rfl, HA.out.1, HA.out.2.1, HA.out.2.2.1, HA.out.2.2.2⟩
      case measure => simp
    · have c1 : wr.cell? ⟨w.heap.size, 5, none⟩ = some (.int .i64 a5) := (blk_cell hA 5).trans rfl
      have c2 : wr.cell? ⟨w.heap.size + 1 + 1, 5, none⟩ = some (.int .i64 0) := (blk_cell hO 5).trans rfl
      have f2 := blk_frozen hO 5
      have hO2 := blk_put (cs' := #[.int .i64 a0, .int .i64 a1, .int .i64 a2, .int .i64 a3, .int .i64 a4, .int .i64 a5]) hO 5 (.int .i64 a5) rfl
      have hA2 := blk_far (p := ⟨w.heap.size + 1 + 1, 5, none⟩) hA (by show w.heap.size ≠ w.heap.size + 1 + 1; omega) (.int .i64 a5)
      have hR2 := blk_far (p := ⟨w.heap.size + 1 + 1, 5, none⟩) hR (by show w.heap.size + 1 ≠ w.heap.size + 1 + 1; omega) (.int .i64 a5)
      have HA := Aside0.mk (And.intro hA2 (And.intro hR2 (And.intro hO2 (below_set (j := 5) (v := .int .i64 a5) hB (by omega : w.heap.size ≤ w.heap.size + 1 + 1)))))
      clear hA hO hR hB hA2 hR2 hO2
      go_wp2
      go_roundw
      case rel => exact ⟨6, by omega, rfl, HA.out.1, HA.out.2.1, HA.out.2.2.1, HA.out.2.2.2⟩
      case measure => simp
    · have HA := Aside0.mk (And.intro hR hB)
      have c0 : wr.cell? ⟨w.heap.size + 1 + 1, 0, none⟩ = some (.int .i64 a0) := (blk_cell hO 0).trans rfl
      have d0 : wr.cell? ⟨w.heap.size + 1, 0, none⟩ = some (.int .i64 0) := (blk_cell hR 0).trans rfl
      have f0 := blk_frozen hR 0
      have c1 : wr.cell? ⟨w.heap.size + 1 + 1, 1, none⟩ = some (.int .i64 a1) := (blk_cell hO 1).trans rfl
      have d1 : wr.cell? ⟨w.heap.size + 1, 1, none⟩ = some (.int .i64 0) := (blk_cell hR 1).trans rfl
      have f1 := blk_frozen hR 1
      have c2 : wr.cell? ⟨w.heap.size + 1 + 1, 2, none⟩ = some (.int .i64 a2) := (blk_cell hO 2).trans rfl
      have d2 : wr.cell? ⟨w.heap.size + 1, 2, none⟩ = some (.int .i64 0) := (blk_cell hR 2).trans rfl
      have f2 := blk_frozen hR 2
      have c3 : wr.cell? ⟨w.heap.size + 1 + 1, 3, none⟩ = some (.int .i64 a3) := (blk_cell hO 3).trans rfl
      have d3 : wr.cell? ⟨w.heap.size + 1, 3, none⟩ = some (.int .i64 0) := (blk_cell hR 3).trans rfl
      have f3 := blk_frozen hR 3
      have c4 : wr.cell? ⟨w.heap.size + 1 + 1, 4, none⟩ = some (.int .i64 a4) := (blk_cell hO 4).trans rfl
      have d4 : wr.cell? ⟨w.heap.size + 1, 4, none⟩ = some (.int .i64 0) := (blk_cell hR 4).trans rfl
      have f4 := blk_frozen hR 4
      have c5 : wr.cell? ⟨w.heap.size + 1 + 1, 5, none⟩ = some (.int .i64 a5) := (blk_cell hO 5).trans rfl
      have d5 : wr.cell? ⟨w.heap.size + 1, 5, none⟩ = some (.int .i64 0) := (blk_cell hR 5).trans rfl
      have f5 := blk_frozen hR 5
      clear hA hR hO hB
      go_wp2
      refine bodyPost_ret (results_cell_row rfl _ _ (w.heap.size + 1) 63 #[.int .i64 a0, .int .i64 a1, .int .i64 a2, .int .i64 a3, .int .i64 a4, .int .i64 a5] (0, 0) _ rfl (blk_put (cs' := #[.int .i64 a0, .int .i64 a1, .int .i64 a2, .int .i64 a3, .int .i64 a4, .int .i64 a5]) (blk_put (cs' := #[.int .i64 a0, .int .i64 a1, .int .i64 a2, .int .i64 a3, .int .i64 a4, .int .i64 0]) (blk_put (cs' := #[.int .i64 a0, .int .i64 a1, .int .i64 a2, .int .i64 a3, .int .i64 0, .int .i64 0]) (blk_put (cs' := #[.int .i64 a0, .int .i64 a1, .int .i64 a2, .int .i64 0, .int .i64 0, .int .i64 0]) (blk_put (cs' := #[.int .i64 a0, .int .i64 a1, .int .i64 0, .int .i64 0, .int .i64 0, .int .i64 0]) (blk_put (cs' := #[.int .i64 a0, .int .i64 0, .int .i64 0, .int .i64 0, .int .i64 0, .int .i64 0]) (HA.out.1) 0 (.int .i64 a0) rfl) 1 (.int .i64 a1) rfl) 2 (.int .i64 a2) rfl) 3 (.int .i64 a3) rfl) 4 (.int .i64 a4) rfl) 5 (.int .i64 a5) rfl) Tryz.underlying63 rfl (by kernel_rfl)) rfl ?_
      exact ⟨rfl, below_set (below_set (below_set (below_set (below_set (below_set (HA.out.2) (Nat.le_succ _)) (Nat.le_succ _)) (Nat.le_succ _)) (Nat.le_succ _)) (Nat.le_succ _)) (Nat.le_succ _)⟩

def laws_eqIntA6.f (a0 a1 a2 a3 a4 a5 b0 b1 b2 b3 b4 b5 : Int) : Option Bool := some (decide (a0 = b0 ∧ a1 = b1 ∧ a2 = b2 ∧ a3 = b3 ∧ a4 = b4 ∧ a5 = b5))
set_option maxRecDepth 100000 in
set_option maxHeartbeats 2000000 in
theorem laws_eqIntA6.calls (a0 a1 a2 a3 a4 a5 b0 b1 b2 b3 b4 b5 : Int) (r : Bool) (w : World) (h : laws_eqIntA6.f a0 a1 a2 a3 a4 a5 b0 b1 b2 b3 b4 b5 = some r) :
    Calls Tryz.prog 43 #[.agg #[.int .i64 a0, .int .i64 a1, .int .i64 a2, .int .i64 a3, .int .i64 a4, .int .i64 a5], .agg #[.int .i64 b0, .int .i64 b1, .int .i64 b2, .int .i64 b3, .int .i64 b4, .int .i64 b5]] w fun e w' => e = .returned (.bool r) ∧ Below w.heap.size w w' := by
  simp only [laws_eqIntA6.f, Option.some.injEq] at h
  subst h
  have hu := Tryz.underlying63
  go_enter Tryz.func43, Tryz.ntmps43
  go_wp2
  go_loopw [5] (fun v4 wr => ∃ i : Nat, i ≤ 6 ∧ v4 = .int .i64 i ∧ wr.heap[w.heap.size]? = some (.cells #[.int .i64 a0, .int .i64 a1, .int .i64 a2, .int .i64 a3, .int .i64 a4, .int .i64 a5] 63 (0, 0)) ∧ wr.heap[w.heap.size + 1]? = some (.cells #[.int .i64 b0, .int .i64 b1, .int .i64 b2, .int .i64 b3, .int .i64 b4, .int .i64 b5] 63 (0, 0)) ∧ (match i with | 0 => True | 1 => a0 = b0 | 2 => a0 = b0 ∧ a1 = b1 | 3 => a0 = b0 ∧ a1 = b1 ∧ a2 = b2 | 4 => a0 = b0 ∧ a1 = b1 ∧ a2 = b2 ∧ a3 = b3 | 5 => a0 = b0 ∧ a1 = b1 ∧ a2 = b2 ∧ a3 = b3 ∧ a4 = b4 | _ => a0 = b0 ∧ a1 = b1 ∧ a2 = b2 ∧ a3 = b3 ∧ a4 = b4 ∧ a5 = b5) ∧ Below w.heap.size w wr)
    (fun v4 wr => match v4 with | .int _ i => (6 - i).toNat | _ => 0)
  case atStart =>
    refine ⟨0, by omega, rfl, ?_, ?_, trivial, ((Below.refl _ w).alloc (Nat.le_refl _) _).alloc (by simp) _⟩
    · exact blk_alloc (blk_new _ _) _
    · have := blk_new (w.alloc (.cells #[.int .i64 a0, .int .i64 a1, .int .i64 a2, .int .i64 a3, .int .i64 a4, .int .i64 a5] 63)) (.cells #[.int .i64 b0, .int .i64 b1, .int .i64 b2, .int .i64 b3, .int .i64 b4, .int .i64 b5] 63)
      rwa [World.size_alloc] at this
  case round =>
    obtain ⟨i, hi, rfl, hA, hR, hE, hB⟩ := hrel
    have hcase : i = 0 ∨ i = 1 ∨ i = 2 ∨ i = 3 ∨ i = 4 ∨ i = 5 ∨ i = 6 := by omega
    rcases hcase with rfl | rfl | rfl | rfl | rfl | rfl | rfl
    · have c1 : wr.cell? ⟨w.heap.size, 0, none⟩ = some (.int .i64 a0) := (blk_cell hA 0).trans rfl
      have c2 : wr.cell? ⟨w.heap.size + 1, 0, none⟩ = some (.int .i64 b0) := (blk_cell hR 0).trans rfl
      have HA := Aside0.mk (And.intro hA (And.intro hR (And.intro hE hB)))
      clear hA hR hE hB
      by_cases hk : a0 = b0
      · have e1 : (a0 != b0) = false := by simp [hk]
        have Hk := Aside0.mk hk
        clear hk
        go_wp2
        go_region
        all_goals go_wp2
        go_roundw
        case rel => exact ⟨1, by omega, rfl, HA.out.1, HA.out.2.1, Hk.out, pw_below_drewN HA.out.2.2.2 1⟩
        case measure => simp
      · have e1 : (a0 != b0) = true := by simp [hk]
        have Hk := Aside0.mk hk
        clear hk
        go_wp2
        go_region
        all_goals go_wp2
        refine bodyPost_ret (results_tmp rfl _ _ _) rfl ?_
        exact ⟨by simp [Hk.out], pw_below_drewN HA.out.2.2.2 1⟩
    · have c1 : wr.cell? ⟨w.heap.size, 1, none⟩ = some (.int .i64 a1) := (blk_cell hA 1).trans rfl
      have c2 : wr.cell? ⟨w.heap.size + 1, 1, none⟩ = some (.int .i64 b1) := (blk_cell hR 1).trans rfl
      have HA := Aside0.mk (And.intro hA (And.intro hR (And.intro hE hB)))
      clear hA hR hE hB
      by_cases hk : a1 = b1
      · have e1 : (a1 != b1) = false := by simp [hk]
        have Hk := Aside0.mk hk
        clear hk
        go_wp2
        go_region
        all_goals go_wp2
        go_roundw
        case rel => exact ⟨2, by omega, rfl, HA.out.1, HA.out.2.1, by have h1 : a0 = b0 := HA.out.2.2.1; have h2 := Hk.out; show a0 = b0 ∧ a1 = b1; simp [h1, h2], pw_below_drewN HA.out.2.2.2 1⟩
        case measure => simp
      · have e1 : (a1 != b1) = true := by simp [hk]
        have Hk := Aside0.mk hk
        clear hk
        go_wp2
        go_region
        all_goals go_wp2
        refine bodyPost_ret (results_tmp rfl _ _ _) rfl ?_
        exact ⟨by simp [Hk.out], pw_below_drewN HA.out.2.2.2 1⟩
    · have c1 : wr.cell? ⟨w.heap.size, 2, none⟩ = some (.int .i64 a2) := (blk_cell hA 2).trans rfl
      have c2 : wr.cell? ⟨w.heap.size + 1, 2, none⟩ = some (.int .i64 b2) := (blk_cell hR 2).trans rfl
      have HA := Aside0.mk (And.intro hA (And.intro hR (And.intro hE hB)))
      clear hA hR hE hB
      by_cases hk : a2 = b2
      · have e1 : (a2 != b2) = false := by simp [hk]
        have Hk := Aside0.mk hk
        clear hk
        go_wp2
        go_region
        all_goals go_wp2
        go_roundw
        case rel => exact ⟨3, by omega, rfl, HA.out.1, HA.out.2.1, by have h1 : a0 = b0 ∧ a1 = b1 := HA.out.2.2.1; have h2 := Hk.out; show a0 = b0 ∧ a1 = b1 ∧ a2 = b2; simp [h1, h2], pw_below_drewN HA.out.2.2.2 1⟩
        case measure => simp
      · have e1 : (a2 != b2) = true := by simp [hk]
        have Hk := Aside0.mk hk
        clear hk
        go_wp2
        go_region
        all_goals go_wp2
        refine bodyPost_ret (results_tmp rfl _ _ _) rfl ?_
        exact ⟨by simp [Hk.out], pw_below_drewN HA.out.2.2.2 1⟩
    · have c1 : wr.cell? ⟨w.heap.size, 3, none⟩ = some (.int .i64 a3) := (blk_cell hA 3).trans rfl
      have c2 : wr.cell? ⟨w.heap.size + 1, 3, none⟩ = some (.int .i64 b3) := (blk_cell hR 3).trans rfl
      have HA := Aside0.mk (And.intro hA (And.intro hR (And.intro hE hB)))
      clear hA hR hE hB
      by_cases hk : a3 = b3
      · have e1 : (a3 != b3) = false := by simp [hk]
        have Hk := Aside0.mk hk
        clear hk
        go_wp2
        go_region
        all_goals go_wp2
        go_roundw
        case rel => exact ⟨4, by omega, rfl, HA.out.1, HA.out.2.1, by have h1 : a0 = b0 ∧ a1 = b1 ∧ a2 = b2 := HA.out.2.2.1; have h2 := Hk.out; show a0 = b0 ∧ a1 = b1 ∧ a2 = b2 ∧ a3 = b3; simp [h1, h2], pw_below_drewN HA.out.2.2.2 1⟩
        case measure => simp
      · have e1 : (a3 != b3) = true := by simp [hk]
        have Hk := Aside0.mk hk
        clear hk
        go_wp2
        go_region
        all_goals go_wp2
        refine bodyPost_ret (results_tmp rfl _ _ _) rfl ?_
        exact ⟨by simp [Hk.out], pw_below_drewN HA.out.2.2.2 1⟩
    · have c1 : wr.cell? ⟨w.heap.size, 4, none⟩ = some (.int .i64 a4) := (blk_cell hA 4).trans rfl
      have c2 : wr.cell? ⟨w.heap.size + 1, 4, none⟩ = some (.int .i64 b4) := (blk_cell hR 4).trans rfl
      have HA := Aside0.mk (And.intro hA (And.intro hR (And.intro hE hB)))
      clear hA hR hE hB
      by_cases hk : a4 = b4
      · have e1 : (a4 != b4) = false := by simp [hk]
        have Hk := Aside0.mk hk
        clear hk
        go_wp2
        go_region
        all_goals go_wp2
        go_roundw
        case rel => exact ⟨5, by omega, rfl, HA.out.1, HA.out.2.1, by have h1 : a0 = b0 ∧ a1 = b1 ∧ a2 = b2 ∧ a3 = b3 := HA.out.2.2.1; have h2 := Hk.out; show a0 = b0 ∧ a1 = b1 ∧ a2 = b2 ∧ a3 = b3 ∧ a4 = b4; simp [h1, h2], pw_below_drewN HA.out.2.2.2 1⟩
        case measure => simp
      · have e1 : (a4 != b4) = true := by simp [hk]
        have Hk := Aside0.mk hk
        clear hk
        go_wp2
        go_region
        all_goals go_wp2
        refine bodyPost_ret (results_tmp rfl _ _ _) rfl ?_
        exact ⟨by simp [Hk.out], pw_below_drewN HA.out.2.2.2 1⟩
    · have c1 : wr.cell? ⟨w.heap.size, 5, none⟩ = some (.int .i64 a5) := (blk_cell hA 5).trans rfl
      have c2 : wr.cell? ⟨w.heap.size + 1, 5, none⟩ = some (.int .i64 b5) := (blk_cell hR 5).trans rfl
      have HA := Aside0.mk (And.intro hA (And.intro hR (And.intro hE hB)))
      clear hA hR hE hB
      by_cases hk : a5 = b5
      · have e1 : (a5 != b5) = false := by simp [hk]
        have Hk := Aside0.mk hk
        clear hk
        go_wp2
        go_region
        all_goals go_wp2
        go_roundw
        case rel => exact ⟨6, by omega, rfl, HA.out.1, HA.out.2.1, by have h1 : a0 = b0 ∧ a1 = b1 ∧ a2 = b2 ∧ a3 = b3 ∧ a4 = b4 := HA.out.2.2.1; have h2 := Hk.out; show a0 = b0 ∧ a1 = b1 ∧ a2 = b2 ∧ a3 = b3 ∧ a4 = b4 ∧ a5 = b5; simp [h1, h2], pw_below_drewN HA.out.2.2.2 1⟩
        case measure => simp
      · have e1 : (a5 != b5) = true := by simp [hk]
        have Hk := Aside0.mk hk
        clear hk
        go_wp2
        go_region
        all_goals go_wp2
        refine bodyPost_ret (results_tmp rfl _ _ _) rfl ?_
        exact ⟨by simp [Hk.out], pw_below_drewN HA.out.2.2.2 1⟩
    · have HA := Aside0.mk (And.intro hE hB)
      clear hA hR hE hB
      go_wp2
      refine bodyPost_ret (results_tmp rfl _ _ _) rfl ?_
      exact ⟨by have h1 : a0 = b0 ∧ a1 = b1 ∧ a2 = b2 ∧ a3 = b3 ∧ a4 = b4 ∧ a5 = b5 := HA.out.1; simp [h1], HA.out.2⟩

theorem in_own (a b c : Int) (w : World) : Calls Tryz.prog 22 #[.int .i64 a, .int .i64 b, .int .i64 c] w fun e w' => e = .returned (.bool (decide (b ≤ a ∧ a ≤ c))) ∧ ∃ k, w' = w.drewN k := by
  by_cases h1 : b ≤ a
  · by_cases h2 : a ≤ c
    · go_enter Tryz.func22, Tryz.ntmps22
      go_wp2
      all_goals (try go_region)
      all_goals (try go_wp2)
      all_goals go_ret
      all_goals exact ⟨by simp [h1, h2], by first | exact ⟨0, rfl⟩ | exact ⟨1, rfl⟩⟩
    · go_enter Tryz.func22, Tryz.ntmps22
      go_wp2
      all_goals (try go_region)
      all_goals (try go_wp2)
      all_goals go_ret
      all_goals exact ⟨by simp [h1, h2], by first | exact ⟨0, rfl⟩ | exact ⟨1, rfl⟩⟩
  · go_enter Tryz.func22, Tryz.ntmps22
    go_wp2
    all_goals (try go_region)
    all_goals (try go_wp2)
    all_goals go_ret
    all_goals exact ⟨by first | (simp [h1]; done) | (simp; omega), by first | exact ⟨0, rfl⟩ | exact ⟨1, rfl⟩⟩

def impl_has.f (a0 a1 a2 a3 a4 a5 n : Int) : Option Bool := some ([a0, a1, a2, a3, a4, a5].contains n)
set_option maxRecDepth 100000 in
set_option maxHeartbeats 1000000 in
theorem impl_has.calls (a0 a1 a2 a3 a4 a5 n : Int) (r : Bool) (w : World) (h : impl_has.f a0 a1 a2 a3 a4 a5 n = some r) :
    Calls Tryz.prog 40 #[.agg #[.int .i64 a0, .int .i64 a1, .int .i64 a2, .int .i64 a3, .int .i64 a4, .int .i64 a5], .int .i64 n] w fun e w' => e = .returned (.bool r) ∧ Below w.heap.size w w' := by
  have hr : [a0, a1, a2, a3, a4, a5].contains n = r := by simpa [impl_has.f] using h
  clear h
  have hu := Tryz.underlying63
  have hcon := Tryz.slices_Contains_int w.heap.size 0 6 6 [a0, a1, a2, a3, a4, a5] n (w.alloc (.cells #[.int .i64 a0, .int .i64 a1, .int .i64 a2, .int .i64 a3, .int .i64 a4, .int .i64 a5] 63)) (Nat.le_refl 6) (by decide) (fun j hj => by
    have hc := blk_cell (blk_new w (.cells #[.int .i64 a0, .int .i64 a1, .int .i64 a2, .int .i64 a3, .int .i64 a4, .int .i64 a5] 63)) (0 + j)
    rw [hc, Nat.zero_add]
    have hj' : j = 0 ∨ j = 1 ∨ j = 2 ∨ j = 3 ∨ j = 4 ∨ j = 5 := by simp at hj; omega
    rcases hj' with rfl | rfl | rfl | rfl | rfl | rfl <;> rfl)
  have hcon2 := hcon.mono fun e w' ⟨he, hw⟩ => (⟨he.trans (by rw [← hr]; rfl), hw⟩ : e = Ending.returned (Value.bool r) ∧ w' = w.alloc (.cells #[.int .i64 a0, .int .i64 a1, .int .i64 a2, .int .i64 a3, .int .i64 a4, .int .i64 a5] 63))
  have Hc := Aside0.mk hcon2
  clear hcon hcon2
  go_enter Tryz.func40, Tryz.ntmps40
  go_wp2_with (go_at_call 42; refine Hc.out.mono ?_; rintro e w' ⟨rfl, rfl⟩)
  go_ret
  exact ⟨rfl, (Below.refl _ w).alloc (Nat.le_refl _) _⟩
theorem drewN_two (w : World) (a b : Nat) : (w.drewN a).drewN b = w.drewN (a + b) := by simp [World.drewN, Nat.add_assoc]
def spec_l2Die.f (a0 a1 a2 a3 a4 a5 : Int) : Option Bool := some (decide ((0 ≤ a0 ∧ a0 ≤ 30) ∧ (0 ≤ a1 ∧ a1 ≤ 30 ∧ a0 ≤ a1) ∧ (0 ≤ a2 ∧ a2 ≤ 30 ∧ a1 ≤ a2) ∧ (0 ≤ a3 ∧ a3 ≤ 30 ∧ a2 ≤ a3) ∧ (0 ≤ a4 ∧ a4 ≤ 30 ∧ a3 ≤ a4) ∧ (0 ≤ a5 ∧ a5 ≤ 30 ∧ a4 ≤ a5)))
set_option maxRecDepth 100000 in
set_option maxHeartbeats 4000000 in
theorem spec_l2Die.calls (a0 a1 a2 a3 a4 a5 : Int) (r : Bool) (w : World) (h : spec_l2Die.f a0 a1 a2 a3 a4 a5 = some r) :
    Calls Tryz.prog 33 #[.agg #[.int .i64 a0, .int .i64 a1, .int .i64 a2, .int .i64 a3, .int .i64 a4, .int .i64 a5]] w fun e w' => e = .returned (.bool r) ∧ Below w.heap.size w w' := by
  simp only [spec_l2Die.f, Option.some.injEq] at h
  subst h
  have hu := Tryz.underlying63
  go_enter Tryz.func33, Tryz.ntmps33
  go_wp2
  go_loopw [3] (fun v4 wr => ∃ i : Nat, i ≤ 6 ∧ v4 = .int .i64 i ∧ wr.heap[w.heap.size]? = some (.cells #[.int .i64 a0, .int .i64 a1, .int .i64 a2, .int .i64 a3, .int .i64 a4, .int .i64 a5] 63 (0, 0)) ∧ (match i with | 0 => True | 1 => (0 ≤ a0 ∧ a0 ≤ 30) | 2 => (0 ≤ a0 ∧ a0 ≤ 30) ∧ (0 ≤ a1 ∧ a1 ≤ 30 ∧ a0 ≤ a1) | 3 => (0 ≤ a0 ∧ a0 ≤ 30) ∧ (0 ≤ a1 ∧ a1 ≤ 30 ∧ a0 ≤ a1) ∧ (0 ≤ a2 ∧ a2 ≤ 30 ∧ a1 ≤ a2) | 4 => (0 ≤ a0 ∧ a0 ≤ 30) ∧ (0 ≤ a1 ∧ a1 ≤ 30 ∧ a0 ≤ a1) ∧ (0 ≤ a2 ∧ a2 ≤ 30 ∧ a1 ≤ a2) ∧ (0 ≤ a3 ∧ a3 ≤ 30 ∧ a2 ≤ a3) | 5 => (0 ≤ a0 ∧ a0 ≤ 30) ∧ (0 ≤ a1 ∧ a1 ≤ 30 ∧ a0 ≤ a1) ∧ (0 ≤ a2 ∧ a2 ≤ 30 ∧ a1 ≤ a2) ∧ (0 ≤ a3 ∧ a3 ≤ 30 ∧ a2 ≤ a3) ∧ (0 ≤ a4 ∧ a4 ≤ 30 ∧ a3 ≤ a4) | _ => (0 ≤ a0 ∧ a0 ≤ 30) ∧ (0 ≤ a1 ∧ a1 ≤ 30 ∧ a0 ≤ a1) ∧ (0 ≤ a2 ∧ a2 ≤ 30 ∧ a1 ≤ a2) ∧ (0 ≤ a3 ∧ a3 ≤ 30 ∧ a2 ≤ a3) ∧ (0 ≤ a4 ∧ a4 ≤ 30 ∧ a3 ≤ a4) ∧ (0 ≤ a5 ∧ a5 ≤ 30 ∧ a4 ≤ a5)) ∧ Below w.heap.size w wr)
    (fun v4 wr => match v4 with | .int _ i => (6 - i).toNat | _ => 0)
  case atStart => exact ⟨0, by omega, rfl, blk_new _ _, trivial, (Below.refl _ w).alloc (Nat.le_refl _) _⟩
  case round =>
    obtain ⟨i, hi, rfl, hA, hE, hB⟩ := hrel
    have hcase : i = 0 ∨ i = 1 ∨ i = 2 ∨ i = 3 ∨ i = 4 ∨ i = 5 ∨ i = 6 := by omega
    rcases hcase with rfl | rfl | rfl | rfl | rfl | rfl | rfl
    · have c1 : wr.cell? ⟨w.heap.size, 0, none⟩ = some (.int .i64 a0) := (blk_cell hA 0).trans rfl
      have HA := Aside0.mk (And.intro hA (And.intro hE hB))
      clear hA hE hB
      by_cases h1 : 0 ≤ a0
      · have e1 : decide (0 ≤ a0) = true := decide_eq_true h1
        by_cases h2 : a0 ≤ 30
        · have e2 : decide (a0 ≤ 30) = true := decide_eq_true h2
          have HP := Aside0.mk (And.intro h1 h2)
          clear h1 h2
          go_wp2
          go_quiet (first | (go_at_call 22; exact (in_own _ _ _ _).mono fun e w2 hh => ⟨hh.1, hh.2.elim fun k_ hw => ⟨_, hw.trans (drewN_two _ _ _)⟩⟩))
          all_goals go_wp2
          go_roundw
          case rel => exact ⟨1, by omega, rfl, HA.out.1, (by have q_ : True := HA.out.2.1; have p_ := HP.out; show (0 ≤ a0 ∧ a0 ≤ 30); simp only [q_, p_, and_self]), pw_below_drewN HA.out.2.2 _⟩
          case measure => simp
        · have e2 : decide (a0 ≤ 30) = false := decide_eq_false h2
          have HP := Aside0.mk h2
          clear h1 h2
          go_wp2
          go_quiet (first | (go_at_call 22; exact (in_own _ _ _ _).mono fun e w2 hh => ⟨hh.1, hh.2.elim fun k_ hw => ⟨_, hw.trans (drewN_two _ _ _)⟩⟩))
          all_goals go_wp2
          refine bodyPost_ret (results_tmp rfl _ _ _) rfl ?_
          exact ⟨by have p_ := HP.out; simp; intros; omega, pw_below_drewN HA.out.2.2 _⟩
      · have e1 : decide (0 ≤ a0) = false := decide_eq_false h1
        have HP := Aside0.mk h1
        clear h1
        go_wp2
        go_quiet (first | (go_at_call 22; exact (in_own _ _ _ _).mono fun e w2 hh => ⟨hh.1, hh.2.elim fun k_ hw => ⟨_, hw.trans (drewN_two _ _ _)⟩⟩))
        all_goals go_wp2
        refine bodyPost_ret (results_tmp rfl _ _ _) rfl ?_
        exact ⟨by have p_ := HP.out; simp; intros; omega, pw_below_drewN HA.out.2.2 _⟩
    · have c1 : wr.cell? ⟨w.heap.size, 1, none⟩ = some (.int .i64 a1) := (blk_cell hA 1).trans rfl
      have c2 : wr.cell? ⟨w.heap.size, 0, none⟩ = some (.int .i64 a0) := (blk_cell hA 0).trans rfl
      have HA := Aside0.mk (And.intro hA (And.intro hE hB))
      clear hA hE hB
      by_cases h1 : 0 ≤ a1
      · have e1 : decide (0 ≤ a1) = true := decide_eq_true h1
        by_cases h2 : a1 ≤ 30
        · have e2 : decide (a1 ≤ 30) = true := decide_eq_true h2
          by_cases h3 : a0 ≤ a1
          · have e3 : decide (a1 < a0) = false := decide_eq_false (by omega)
            have HP := Aside0.mk (And.intro h1 (And.intro h2 h3))
            clear h1 h2 h3
            go_wp2
            go_quiet (first | (go_at_call 22; exact (in_own _ _ _ _).mono fun e w2 hh => ⟨hh.1, hh.2.elim fun k_ hw => ⟨_, hw.trans (drewN_two _ _ _)⟩⟩))
            all_goals go_wp2
            go_roundw
            case rel => exact ⟨2, by omega, rfl, HA.out.1, (by have q_ : (0 ≤ a0 ∧ a0 ≤ 30) := HA.out.2.1; have p_ := HP.out; show (0 ≤ a0 ∧ a0 ≤ 30) ∧ (0 ≤ a1 ∧ a1 ≤ 30 ∧ a0 ≤ a1); simp only [q_, p_, and_self]), pw_below_drewN HA.out.2.2 _⟩
            case measure => simp
          · have e3 : decide (a1 < a0) = true := decide_eq_true (by omega)
            have HP := Aside0.mk h3
            clear h1 h2 h3
            go_wp2
            go_quiet (first | (go_at_call 22; exact (in_own _ _ _ _).mono fun e w2 hh => ⟨hh.1, hh.2.elim fun k_ hw => ⟨_, hw.trans (drewN_two _ _ _)⟩⟩))
            all_goals go_wp2
            refine bodyPost_ret (results_tmp rfl _ _ _) rfl ?_
            exact ⟨by have p_ := HP.out; simp; intros; omega, pw_below_drewN HA.out.2.2 _⟩
        · have e2 : decide (a1 ≤ 30) = false := decide_eq_false h2
          have HP := Aside0.mk h2
          clear h1 h2
          go_wp2
          go_quiet (first | (go_at_call 22; exact (in_own _ _ _ _).mono fun e w2 hh => ⟨hh.1, hh.2.elim fun k_ hw => ⟨_, hw.trans (drewN_two _ _ _)⟩⟩))
          all_goals go_wp2
          refine bodyPost_ret (results_tmp rfl _ _ _) rfl ?_
          exact ⟨by have p_ := HP.out; simp; intros; omega, pw_below_drewN HA.out.2.2 _⟩
      · have e1 : decide (0 ≤ a1) = false := decide_eq_false h1
        have HP := Aside0.mk h1
        clear h1
        go_wp2
        go_quiet (first | (go_at_call 22; exact (in_own _ _ _ _).mono fun e w2 hh => ⟨hh.1, hh.2.elim fun k_ hw => ⟨_, hw.trans (drewN_two _ _ _)⟩⟩))
        all_goals go_wp2
        refine bodyPost_ret (results_tmp rfl _ _ _) rfl ?_
        exact ⟨by have p_ := HP.out; simp; intros; omega, pw_below_drewN HA.out.2.2 _⟩
    · have c1 : wr.cell? ⟨w.heap.size, 2, none⟩ = some (.int .i64 a2) := (blk_cell hA 2).trans rfl
      have c2 : wr.cell? ⟨w.heap.size, 1, none⟩ = some (.int .i64 a1) := (blk_cell hA 1).trans rfl
      have HA := Aside0.mk (And.intro hA (And.intro hE hB))
      clear hA hE hB
      by_cases h1 : 0 ≤ a2
      · have e1 : decide (0 ≤ a2) = true := decide_eq_true h1
        by_cases h2 : a2 ≤ 30
        · have e2 : decide (a2 ≤ 30) = true := decide_eq_true h2
          by_cases h3 : a1 ≤ a2
          · have e3 : decide (a2 < a1) = false := decide_eq_false (by omega)
            have HP := Aside0.mk (And.intro h1 (And.intro h2 h3))
            clear h1 h2 h3
            go_wp2
            go_quiet (first | (go_at_call 22; exact (in_own _ _ _ _).mono fun e w2 hh => ⟨hh.1, hh.2.elim fun k_ hw => ⟨_, hw.trans (drewN_two _ _ _)⟩⟩))
            all_goals go_wp2
            go_roundw
            case rel => exact ⟨3, by omega, rfl, HA.out.1, (by have q_ : (0 ≤ a0 ∧ a0 ≤ 30) ∧ (0 ≤ a1 ∧ a1 ≤ 30 ∧ a0 ≤ a1) := HA.out.2.1; have p_ := HP.out; show (0 ≤ a0 ∧ a0 ≤ 30) ∧ (0 ≤ a1 ∧ a1 ≤ 30 ∧ a0 ≤ a1) ∧ (0 ≤ a2 ∧ a2 ≤ 30 ∧ a1 ≤ a2); simp only [q_, p_, and_self]), pw_below_drewN HA.out.2.2 _⟩
            case measure => simp
          · have e3 : decide (a2 < a1) = true := decide_eq_true (by omega)
            have HP := Aside0.mk h3
            clear h1 h2 h3
            go_wp2
            go_quiet (first | (go_at_call 22; exact (in_own _ _ _ _).mono fun e w2 hh => ⟨hh.1, hh.2.elim fun k_ hw => ⟨_, hw.trans (drewN_two _ _ _)⟩⟩))
            all_goals go_wp2
            refine bodyPost_ret (results_tmp rfl _ _ _) rfl ?_
            exact ⟨by have p_ := HP.out; simp; intros; omega, pw_below_drewN HA.out.2.2 _⟩
        · have e2 : decide (a2 ≤ 30) = false := decide_eq_false h2
          have HP := Aside0.mk h2
          clear h1 h2
          go_wp2
          go_quiet (first | (go_at_call 22; exact (in_own _ _ _ _).mono fun e w2 hh => ⟨hh.1, hh.2.elim fun k_ hw => ⟨_, hw.trans (drewN_two _ _ _)⟩⟩))
          all_goals go_wp2
          refine bodyPost_ret (results_tmp rfl _ _ _) rfl ?_
          exact ⟨by have p_ := HP.out; simp; intros; omega, pw_below_drewN HA.out.2.2 _⟩
      · have e1 : decide (0 ≤ a2) = false := decide_eq_false h1
        have HP := Aside0.mk h1
        clear h1
        go_wp2
        go_quiet (first | (go_at_call 22; exact (in_own _ _ _ _).mono fun e w2 hh => ⟨hh.1, hh.2.elim fun k_ hw => ⟨_, hw.trans (drewN_two _ _ _)⟩⟩))
        all_goals go_wp2
        refine bodyPost_ret (results_tmp rfl _ _ _) rfl ?_
        exact ⟨by have p_ := HP.out; simp; intros; omega, pw_below_drewN HA.out.2.2 _⟩
    · have c1 : wr.cell? ⟨w.heap.size, 3, none⟩ = some (.int .i64 a3) := (blk_cell hA 3).trans rfl
      have c2 : wr.cell? ⟨w.heap.size, 2, none⟩ = some (.int .i64 a2) := (blk_cell hA 2).trans rfl
      have HA := Aside0.mk (And.intro hA (And.intro hE hB))
      clear hA hE hB
      by_cases h1 : 0 ≤ a3
      · have e1 : decide (0 ≤ a3) = true := decide_eq_true h1
        by_cases h2 : a3 ≤ 30
        · have e2 : decide (a3 ≤ 30) = true := decide_eq_true h2
          by_cases h3 : a2 ≤ a3
          · have e3 : decide (a3 < a2) = false := decide_eq_false (by omega)
            have HP := Aside0.mk (And.intro h1 (And.intro h2 h3))
            clear h1 h2 h3
            go_wp2
            go_quiet (first | (go_at_call 22; exact (in_own _ _ _ _).mono fun e w2 hh => ⟨hh.1, hh.2.elim fun k_ hw => ⟨_, hw.trans (drewN_two _ _ _)⟩⟩))
            all_goals go_wp2
            go_roundw
            case rel => exact ⟨4, by omega, rfl, HA.out.1, (by have q_ : (0 ≤ a0 ∧ a0 ≤ 30) ∧ (0 ≤ a1 ∧ a1 ≤ 30 ∧ a0 ≤ a1) ∧ (0 ≤ a2 ∧ a2 ≤ 30 ∧ a1 ≤ a2) := HA.out.2.1; have p_ := HP.out; show (0 ≤ a0 ∧ a0 ≤ 30) ∧ (0 ≤ a1 ∧ a1 ≤ 30 ∧ a0 ≤ a1) ∧ (0 ≤ a2 ∧ a2 ≤ 30 ∧ a1 ≤ a2) ∧ (0 ≤ a3 ∧ a3 ≤ 30 ∧ a2 ≤ a3); simp only [q_, p_, and_self]), pw_below_drewN HA.out.2.2 _⟩
            case measure => simp
          · have e3 : decide (a3 < a2) = true := decide_eq_true (by omega)
            have HP := Aside0.mk h3
            clear h1 h2 h3
            go_wp2
            go_quiet (first | (go_at_call 22; exact (in_own _ _ _ _).mono fun e w2 hh => ⟨hh.1, hh.2.elim fun k_ hw => ⟨_, hw.trans (drewN_two _ _ _)⟩⟩))
            all_goals go_wp2
            refine bodyPost_ret (results_tmp rfl _ _ _) rfl ?_
            exact ⟨by have p_ := HP.out; simp; intros; omega, pw_below_drewN HA.out.2.2 _⟩
        · have e2 : decide (a3 ≤ 30) = false := decide_eq_false h2
          have HP := Aside0.mk h2
          clear h1 h2
          go_wp2
          go_quiet (first | (go_at_call 22; exact (in_own _ _ _ _).mono fun e w2 hh => ⟨hh.1, hh.2.elim fun k_ hw => ⟨_, hw.trans (drewN_two _ _ _)⟩⟩))
          all_goals go_wp2
          refine bodyPost_ret (results_tmp rfl _ _ _) rfl ?_
          exact ⟨by have p_ := HP.out; simp; intros; omega, pw_below_drewN HA.out.2.2 _⟩
      · have e1 : decide (0 ≤ a3) = false := decide_eq_false h1
        have HP := Aside0.mk h1
        clear h1
        go_wp2
        go_quiet (first | (go_at_call 22; exact (in_own _ _ _ _).mono fun e w2 hh => ⟨hh.1, hh.2.elim fun k_ hw => ⟨_, hw.trans (drewN_two _ _ _)⟩⟩))
        all_goals go_wp2
        refine bodyPost_ret (results_tmp rfl _ _ _) rfl ?_
        exact ⟨by have p_ := HP.out; simp; intros; omega, pw_below_drewN HA.out.2.2 _⟩
    · have c1 : wr.cell? ⟨w.heap.size, 4, none⟩ = some (.int .i64 a4) := (blk_cell hA 4).trans rfl
      have c2 : wr.cell? ⟨w.heap.size, 3, none⟩ = some (.int .i64 a3) := (blk_cell hA 3).trans rfl
      have HA := Aside0.mk (And.intro hA (And.intro hE hB))
      clear hA hE hB
      by_cases h1 : 0 ≤ a4
      · have e1 : decide (0 ≤ a4) = true := decide_eq_true h1
        by_cases h2 : a4 ≤ 30
        · have e2 : decide (a4 ≤ 30) = true := decide_eq_true h2
          by_cases h3 : a3 ≤ a4
          · have e3 : decide (a4 < a3) = false := decide_eq_false (by omega)
            have HP := Aside0.mk (And.intro h1 (And.intro h2 h3))
            clear h1 h2 h3
            go_wp2
            go_quiet (first | (go_at_call 22; exact (in_own _ _ _ _).mono fun e w2 hh => ⟨hh.1, hh.2.elim fun k_ hw => ⟨_, hw.trans (drewN_two _ _ _)⟩⟩))
            all_goals go_wp2
            go_roundw
            case rel => exact ⟨5, by omega, rfl, HA.out.1, (by have q_ : (0 ≤ a0 ∧ a0 ≤ 30) ∧ (0 ≤ a1 ∧ a1 ≤ 30 ∧ a0 ≤ a1) ∧ (0 ≤ a2 ∧ a2 ≤ 30 ∧ a1 ≤ a2) ∧ (0 ≤ a3 ∧ a3 ≤ 30 ∧ a2 ≤ a3) := HA.out.2.1; have p_ := HP.out; show (0 ≤ a0 ∧ a0 ≤ 30) ∧ (0 ≤ a1 ∧ a1 ≤ 30 ∧ a0 ≤ a1) ∧ (0 ≤ a2 ∧ a2 ≤ 30 ∧ a1 ≤ a2) ∧ (0 ≤ a3 ∧ a3 ≤ 30 ∧ a2 ≤ a3) ∧ (0 ≤ a4 ∧ a4 ≤ 30 ∧ a3 ≤ a4); simp only [q_, p_, and_self]), pw_below_drewN HA.out.2.2 _⟩
            case measure => simp
          · have e3 : decide (a4 < a3) = true := decide_eq_true (by omega)
            have HP := Aside0.mk h3
            clear h1 h2 h3
            go_wp2
            go_quiet (first | (go_at_call 22; exact (in_own _ _ _ _).mono fun e w2 hh => ⟨hh.1, hh.2.elim fun k_ hw => ⟨_, hw.trans (drewN_two _ _ _)⟩⟩))
            all_goals go_wp2
            refine bodyPost_ret (results_tmp rfl _ _ _) rfl ?_
            exact ⟨by have p_ := HP.out; simp; intros; omega, pw_below_drewN HA.out.2.2 _⟩
        · have e2 : decide (a4 ≤ 30) = false := decide_eq_false h2
          have HP := Aside0.mk h2
          clear h1 h2
          go_wp2
          go_quiet (first | (go_at_call 22; exact (in_own _ _ _ _).mono fun e w2 hh => ⟨hh.1, hh.2.elim fun k_ hw => ⟨_, hw.trans (drewN_two _ _ _)⟩⟩))
          all_goals go_wp2
          refine bodyPost_ret (results_tmp rfl _ _ _) rfl ?_
          exact ⟨by have p_ := HP.out; simp; intros; omega, pw_below_drewN HA.out.2.2 _⟩
      · have e1 : decide (0 ≤ a4) = false := decide_eq_false h1
        have HP := Aside0.mk h1
        clear h1
        go_wp2
        go_quiet (first | (go_at_call 22; exact (in_own _ _ _ _).mono fun e w2 hh => ⟨hh.1, hh.2.elim fun k_ hw => ⟨_, hw.trans (drewN_two _ _ _)⟩⟩))
        all_goals go_wp2
        refine bodyPost_ret (results_tmp rfl _ _ _) rfl ?_
        exact ⟨by have p_ := HP.out; simp; intros; omega, pw_below_drewN HA.out.2.2 _⟩
    · have c1 : wr.cell? ⟨w.heap.size, 5, none⟩ = some (.int .i64 a5) := (blk_cell hA 5).trans rfl
      have c2 : wr.cell? ⟨w.heap.size, 4, none⟩ = some (.int .i64 a4) := (blk_cell hA 4).trans rfl
      have HA := Aside0.mk (And.intro hA (And.intro hE hB))
      clear hA hE hB
      by_cases h1 : 0 ≤ a5
      · have e1 : decide (0 ≤ a5) = true := decide_eq_true h1
        by_cases h2 : a5 ≤ 30
        · have e2 : decide (a5 ≤ 30) = true := decide_eq_true h2
          by_cases h3 : a4 ≤ a5
          · have e3 : decide (a5 < a4) = false := decide_eq_false (by omega)
            have HP := Aside0.mk (And.intro h1 (And.intro h2 h3))
            clear h1 h2 h3
            go_wp2
            go_quiet (first | (go_at_call 22; exact (in_own _ _ _ _).mono fun e w2 hh => ⟨hh.1, hh.2.elim fun k_ hw => ⟨_, hw.trans (drewN_two _ _ _)⟩⟩))
            all_goals go_wp2
            go_roundw
            case rel => exact ⟨6, by omega, rfl, HA.out.1, (by have q_ : (0 ≤ a0 ∧ a0 ≤ 30) ∧ (0 ≤ a1 ∧ a1 ≤ 30 ∧ a0 ≤ a1) ∧ (0 ≤ a2 ∧ a2 ≤ 30 ∧ a1 ≤ a2) ∧ (0 ≤ a3 ∧ a3 ≤ 30 ∧ a2 ≤ a3) ∧ (0 ≤ a4 ∧ a4 ≤ 30 ∧ a3 ≤ a4) := HA.out.2.1; have p_ := HP.out; show (0 ≤ a0 ∧ a0 ≤ 30) ∧ (0 ≤ a1 ∧ a1 ≤ 30 ∧ a0 ≤ a1) ∧ (0 ≤ a2 ∧ a2 ≤ 30 ∧ a1 ≤ a2) ∧ (0 ≤ a3 ∧ a3 ≤ 30 ∧ a2 ≤ a3) ∧ (0 ≤ a4 ∧ a4 ≤ 30 ∧ a3 ≤ a4) ∧ (0 ≤ a5 ∧ a5 ≤ 30 ∧ a4 ≤ a5); simp only [q_, p_, and_self]), pw_below_drewN HA.out.2.2 _⟩
            case measure => simp
          · have e3 : decide (a5 < a4) = true := decide_eq_true (by omega)
            have HP := Aside0.mk h3
            clear h1 h2 h3
            go_wp2
            go_quiet (first | (go_at_call 22; exact (in_own _ _ _ _).mono fun e w2 hh => ⟨hh.1, hh.2.elim fun k_ hw => ⟨_, hw.trans (drewN_two _ _ _)⟩⟩))
            all_goals go_wp2
            refine bodyPost_ret (results_tmp rfl _ _ _) rfl ?_
            exact ⟨by have p_ := HP.out; simp; intros; omega, pw_below_drewN HA.out.2.2 _⟩
        · have e2 : decide (a5 ≤ 30) = false := decide_eq_false h2
          have HP := Aside0.mk h2
          clear h1 h2
          go_wp2
          go_quiet (first | (go_at_call 22; exact (in_own _ _ _ _).mono fun e w2 hh => ⟨hh.1, hh.2.elim fun k_ hw => ⟨_, hw.trans (drewN_two _ _ _)⟩⟩))
          all_goals go_wp2
          refine bodyPost_ret (results_tmp rfl _ _ _) rfl ?_
          exact ⟨by have p_ := HP.out; simp; intros; omega, pw_below_drewN HA.out.2.2 _⟩
      · have e1 : decide (0 ≤ a5) = false := decide_eq_false h1
        have HP := Aside0.mk h1
        clear h1
        go_wp2
        go_quiet (first | (go_at_call 22; exact (in_own _ _ _ _).mono fun e w2 hh => ⟨hh.1, hh.2.elim fun k_ hw => ⟨_, hw.trans (drewN_two _ _ _)⟩⟩))
        all_goals go_wp2
        refine bodyPost_ret (results_tmp rfl _ _ _) rfl ?_
        exact ⟨by have p_ := HP.out; simp; intros; omega, pw_below_drewN HA.out.2.2 _⟩
    · have HA := Aside0.mk (And.intro hE hB)
      clear hA hE hB
      go_wp2
      refine bodyPost_ret (results_tmp rfl _ _ _) rfl ?_
      exact ⟨by have h1 : (0 ≤ a0 ∧ a0 ≤ 30) ∧ (0 ≤ a1 ∧ a1 ≤ 30 ∧ a0 ≤ a1) ∧ (0 ≤ a2 ∧ a2 ≤ 30 ∧ a1 ≤ a2) ∧ (0 ≤ a3 ∧ a3 ≤ 30 ∧ a2 ≤ a3) ∧ (0 ≤ a4 ∧ a4 ≤ 30 ∧ a3 ≤ a4) ∧ (0 ≤ a5 ∧ a5 ≤ 30 ∧ a4 ≤ a5) := HA.out.1; simp [h1], HA.out.2⟩
end Go.Proofs.YtnlcaihcnlpbpaaGreatDoor.X
