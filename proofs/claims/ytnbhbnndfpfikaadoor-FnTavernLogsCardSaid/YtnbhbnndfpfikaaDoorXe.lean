/- CrashLog of the program and of the reference: what both return, from the contracts of what they call. -/
import Derived.Test.YtnbhbnndfpfikaaDoorXs
namespace Go.Proofs.YtnbhbnndfpfikaaDoor.X
open Go.RowKit Go.Proofs.YtnbhbnndfpfikaaDoorW.PrintWords Go.Proofs.YtnbhbnndfpfikaaDoorW.PrintLast Go.Proofs.YtnbhbnndfpfikaaDoorW.PrintMore
set_option linter.unusedVariables false
set_option linter.unusedSimpArgs false
def flipNums (l : List Int) : List Int := l.set (l.length - 1) (255 - l.getD (l.length - 1) 0)
def flipB (s : ByteArray) : ByteArray := strOfNums (flipNums (bytesOf s))
def torn_ (torn : Bool) (keep : Int) : Bool := torn && decide (0 < keep)
def impl_CrashLog.f (k : Nat) (D P : ByteArray) (c keep : Int) (torn : Bool) : Option (ByteArray × Bool) :=
  if D.size + P.size ≤ 1000000000 then (impl_IsValidLog.f k D P c).bind fun v => if v = true then (if 0 ≤ keep ∧ keep ≤ (P.size : Int) then
    (if torn_ torn keep = true then some (flipB (D ++ P.extract 0 keep.toNat), true) else some (D ++ P.extract 0 keep.toNat, true)) else some ((⟨#[]⟩ : ByteArray), false)) else some ((⟨#[]⟩ : ByteArray), false) else none
theorem new_cells {W : World} {cs : List Value} {t : TypeId} (j : Nat) (v : Value) (h : cs[j]? = some v) : (W.alloc (.cells cs.toArray t)).cell? ⟨W.heap.size, j, none⟩ = some v := by
  show (match (W.alloc (.cells cs.toArray t)).heap[W.heap.size]? with | some (.cells c _ _) => c[j]? | _ => none) = _
  rw [World.alloc_heap_new]
  simpa using h
theorem box_cells {W w' : World} {cs : List Value} {t : TypeId} (hb : Below (W.alloc (.cells cs.toArray t)).heap.size (W.alloc (.cells cs.toArray t)) w') (j : Nat) (v : Value) (h : cs[j]? = some v) : w'.cell? ⟨W.heap.size, j, none⟩ = some v :=
  (hb.cell (p := ⟨W.heap.size, j, none⟩) (by simp)).trans (new_cells j v h)
theorem strOf_row (A : Option Addr) (n c : Nat) (xs : List Int) (W : World) (h : ReadsInt W .u8 A n xs) : (convert 44 9 (.slice A n c)).run Tryd.prog W = .ok (.string (strOfNums xs)) W :=
  string_of_reads Tryd.underlying44 Tryd.underlying5 Tryd.underlying9 h
theorem strOf_bytes (s : ByteArray) : strOfNums (bytesOf s) = s := by
  apply bytesOf_inj
  simp [strOfNums, bytesOf, Function.comp_def]
theorem bytes_frozen (W : World) (e : TypeId) (s : ByteArray) (j : Nat) (hj : j < s.size) : (Lib.bytesWorld W e s).frozen? ⟨W.heap.size, j, none⟩ = false := by
  have h := Lib.bytesWorld_at_new W e s
  have hc : s.size ≤ (Lib.bytesCells W e s).size := by
    have h2 := Lib.bytesWorld_cell W e s (s.size - 1) (by omega)
    unfold World.cell? at h2
    rw [h] at h2
    have := (Array.getElem?_eq_some_iff.1 (show (Lib.bytesCells W e s)[s.size - 1]? = _ from h2)).1
    omega
  unfold World.frozen?
  rw [h]
  simp
  omega
theorem bytes_set (W : World) (e : TypeId) (s : ByteArray) (j : Nat) (hj : j < s.size) (hs : s.size ≤ 9223372036854775807) (x : Int) :
    ReadsInt ((Lib.bytesWorld W e s).setCell ⟨W.heap.size, j, none⟩ (.int .u8 x)) .u8 (some ⟨W.heap.size, 0, none⟩) s.size ((bytesOf s).set j x) := by
  refine ⟨by rw [List.length_set, bytesOf_length], hs, fun _ => ⟨_, rfl, fun i hi => ?_⟩⟩
  rw [add_plain]
  by_cases hij : i = j
  · subst hij
    have h2 := Lib.bytesWorld_cell W e s i hi
    rw [World.cell?_setCell_same' _ _ _ (by rw [h2]; rfl)]
    simp [bytesOf_length, hi, List.getD_eq_getElem?_getD]
  · have h2 := Lib.bytesWorld_cell W e s i hi
    rw [World.cell?_setCell_other _ _ _ _ (by simp [hij]), h2]
    have h' : i < s.data.toList.length := by rw [data_length]; exact hi
    simp [bytesOf, List.getD_eq_getElem?_getD, List.getElem?_set_ne (Ne.symm hij), List.getElem?_eq_getElem h']
set_option maxRecDepth 100000 in
set_option maxHeartbeats 2000000 in
theorem impl_CrashLog.calls (k : Nat) (D P : ByteArray) (c keep : Int) (torn : Bool) (r1 : ByteArray) (r2 : Bool) (w : World) (hG : Glob w) (h : impl_CrashLog.f k D P c keep torn = some (r1, r2)) :
    Calls Tryd.prog 46 #[.agg #[.string D, .string P, .int .i64 c], .int .i64 keep, .bool torn] w fun e w' => e = .returned (.tuple #[.string r1, .bool r2]) ∧ Below w.heap.size w w' := by
  unfold impl_CrashLog.f at h
  by_cases hs : D.size + P.size ≤ 1000000000
  case neg => rw [if_neg hs] at h; cases h
  rw [if_pos hs] at h
  obtain ⟨v, hv, h'⟩ := Option.bind_eq_some_iff.mp h
  clear h
  have hu25 := Tryd.underlying25
  have hcon := fun W (hb : Glob W) => impl_IsValidLog.calls k D P c v W hb hv
  have Hcon := Lib.hid hcon
  have HG := Lib.hid hG
  have HA := Lib.hid ((qO w.heap.size w).alloc (Nat.le_refl _) (.cells #[.string D, .string P, .int .i64 c] 25))
  clear hcon hG hv
  cases v with
  | false =>
    simp at h'
    obtain ⟨rfl, rfl⟩ := h'
    go_enter Tryd.func46, Tryd.ntmps46
    go_wp2_with (go_at_call 43; refine (Hcon.out _ (HG.out.below HA.out)).mono ?_; rintro e w' ⟨rfl, hb⟩)
    go_ret2
    exact ⟨rfl, HA.out.trans (hb.mono (by simp))⟩
  | true =>
    rw [if_pos rfl] at h'
    by_cases hk : 0 ≤ keep ∧ keep ≤ (P.size : Int)
    case neg =>
      rw [if_neg hk] at h'
      simp at h'
      obtain ⟨rfl, rfl⟩ := h'
      have hw := fun W => impl_within.calls keep 0 (P.size : Int) false W (by rw [within_eq]; simp; omega)
      have Hw := Lib.hid hw
      clear hw
      go_enter Tryd.func46, Tryd.ntmps46
      go_wp2_with (first
        | (go_at_call 43; refine (Hcon.out _ (HG.out.below HA.out)).mono ?_; rintro e w1 ⟨rfl, hb⟩; have hc1 : w1.cell? ⟨w.heap.size, 1, none⟩ = some (.string P) := box_cells hb 1 _ rfl)
        | (go_at_call 75; refine (Hw.out _).mono ?_; rintro e w2 ⟨rfl, ⟨nd, rfl⟩⟩))
      go_ret2
      exact ⟨rfl, zB (HA.out.trans (hb.mono (by simp))) _⟩
    obtain ⟨n, rfl⟩ := Int.eq_ofNat_of_zero_le hk.1
    have hn : n ≤ P.size := by omega
    rw [if_pos hk, Int.toNat_natCast] at h'
    have hw := fun W => impl_within.calls (n : Int) 0 (P.size : Int) true W (by rw [within_eq]; simp; omega)
    have Hw := Lib.hid hw
    have q0 : (D.size + min n P.size ≤ 9223372036854775807) = True := eq_true (by omega)
    have q1 : ((n : Int) ≤ (P.size : Int)) = True := eq_true (by omega)
    have kb := fun W => print_bytes (P := Tryd.prog) 9 44 5 Tryd.underlying9 Tryd.underlying44 Tryd.underlying5 (D ++ P.extract 0 n) W
    have hsz : (D ++ P.extract 0 n).size = D.size + n := by rw [ByteArray.size_append, ByteArray.size_extract]; omega
    generalize hS : D ++ P.extract 0 n = s at *
    have Hh := Lib.hid h'
    have Hk := Lib.hid hk
    clear hw h' hk
    have ks : ∀ (W : World) (m c : Nat), (convert 44 9 (.slice (some ⟨W.heap.size, 0, none⟩) (D.size + n) c)).run Tryd.prog (Lib.bytesWorld (W.drewN m) 5 s) = .ok (.string s) (Lib.bytesWorld (W.drewN m) 5 s) := fun W m c => by
      have := strOf_row (some ⟨W.heap.size, 0, none⟩) s.size c (bytesOf s) (Lib.bytesWorld (W.drewN m) 5 s) (bytes_reads (W.drewN m) 5 s (by omega))
      rwa [strOf_bytes, hsz] at this
    by_cases ht : torn_ torn (n : Int) = true
    · have ht1 : torn = true ∧ 0 < n := by simpa [torn_] using ht
      obtain ⟨rfl, h0⟩ := ht1
      rw [if_pos ht] at Hh
      obtain ⟨rfl, rfl⟩ : flipB s = r1 ∧ true = r2 := by simpa using Hh.out
      clear Hh
      have hl : (bytesOf s).length = D.size + n := by rw [bytesOf_length, hsz]
      obtain ⟨x, hx⟩ : ∃ x, (bytesOf s).getD (D.size + n - 1) 0 = x := ⟨_, rfl⟩
      have hxr : 0 ≤ x ∧ x ≤ 255 := by
        rw [← hx]
        have := bt_range s ((D.size + n - 1 : Nat) : Int)
        rw [← rd_bytesOf] at this
        simpa [rd] using this
      have hflip : flipB s = strOfNums ((bytesOf s).set (D.size + n - 1) (255 - x)) := by unfold flipB flipNums; rw [hl, hx]
      have kc : ∀ (W : World) (m : Nat), (Lib.bytesWorld (W.drewN m) 5 s).cell? ⟨W.heap.size, D.size + n - 1, none⟩ = some (.int .u8 x) := fun W m => by
        have h2 := Lib.bytesWorld_cell (W.drewN m) 5 s (D.size + n - 1) (by omega)
        have h' : D.size + n - 1 < s.data.toList.length := by rw [data_length]; omega
        refine Eq.trans h2 ?_
        rw [← hx]
        simp [bytesOf, List.getD_eq_getElem?_getD, List.getElem?_eq_getElem h']
      have kf : ∀ (W : World) (m : Nat), (Lib.bytesWorld (W.drewN m) 5 s).frozen? ⟨W.heap.size, D.size + n - 1, none⟩ = false := fun W m => bytes_frozen (W.drewN m) 5 s (D.size + n - 1) (by omega)
      have kt : ∀ (W : World) (m c : Nat), (convert 44 9 (.slice (some ⟨W.heap.size, 0, none⟩) (D.size + n) c)).run Tryd.prog ((Lib.bytesWorld (W.drewN m) 5 s).setCell ⟨W.heap.size, D.size + n - 1, none⟩ (.int .u8 (255 - x))) = .ok (.string (flipB s)) ((Lib.bytesWorld (W.drewN m) 5 s).setCell ⟨W.heap.size, D.size + n - 1, none⟩ (.int .u8 (255 - x))) := fun W m c => by
        have := strOf_row (some ⟨W.heap.size, 0, none⟩) s.size c _ _ (bytes_set (W.drewN m) 5 s (D.size + n - 1) (by omega) (by omega) (255 - x))
        rw [hsz] at this
        rw [hflip]
        exact this
      have qx : IntKind.u8.wrap (255 - x) = 255 - x := by unfold IntKind.wrap; simp [IntKind.bits, IntKind.signed]; omega
      have qx2 : (255 - x) % 256 = 255 - x := by omega
      have q2 : IntKind.i64.wrap (((D.size + n : Nat) : Int) - 1) = ((D.size + n - 1 : Nat) : Int) := by rw [IntWalk.i64_in _ (by omega)]; omega
      have q3 : wrap64 ((D.size : Int) + (n : Int) - 1) = ((D.size + n - 1 : Nat) : Int) := by rw [w64 _ (by omega) (by omega)]; omega
      have q4 : IntKind.i64.wrap ((D.size : Int) + (n : Int) - 1) = ((D.size + n - 1 : Nat) : Int) := by rw [IntWalk.i64_in _ (by omega)]; omega
      have q5 : (((D.size + n - 1 : Nat) : Int) < (D.size : Int) + (n : Int)) = True := eq_true (by omega)
      have q6 : (0 < n) = True := eq_true h0
      clear hx hflip ht
      go_enter Tryd.func46, Tryd.ntmps46
      go_wp2_with (first
        | (go_at_call 43; refine (Hcon.out _ (HG.out.below HA.out)).mono ?_; rintro e w1 ⟨rfl, hb⟩; have hc0 : w1.cell? ⟨w.heap.size, 0, none⟩ = some (.string D) := box_cells hb 0 _ rfl; have hc1 : w1.cell? ⟨w.heap.size, 1, none⟩ = some (.string P) := box_cells hb 1 _ rfl)
        | (go_at_call 75; refine (Hw.out _).mono ?_; rintro e w2 ⟨rfl, ⟨nd, rfl⟩⟩))
      go_region
      all_goals go_wp2
      all_goals go_ret2
      all_goals exact ⟨rfl, (bytes_below (zB (HA.out.trans (hb.mono (by simp))) _) (by have := hb.size; simp at this ⊢; omega) _ _).setCell (p := ⟨w1.heap.size, _, none⟩) (by have := hb.size; simp at this ⊢; omega) _⟩
    · rw [if_neg ht] at Hh
      obtain ⟨rfl, rfl⟩ : s = r1 ∧ true = r2 := by simpa using Hh.out
      clear Hh
      cases torn with
      | false =>
        go_enter Tryd.func46, Tryd.ntmps46
        go_wp2_with (first
          | (go_at_call 43; refine (Hcon.out _ (HG.out.below HA.out)).mono ?_; rintro e w1 ⟨rfl, hb⟩; have hc0 : w1.cell? ⟨w.heap.size, 0, none⟩ = some (.string D) := box_cells hb 0 _ rfl; have hc1 : w1.cell? ⟨w.heap.size, 1, none⟩ = some (.string P) := box_cells hb 1 _ rfl)
          | (go_at_call 75; refine (Hw.out _).mono ?_; rintro e w2 ⟨rfl, ⟨nd, rfl⟩⟩))
        go_region
        all_goals go_wp2
        all_goals go_ret2
        all_goals exact ⟨rfl, bytes_below (zB (HA.out.trans (hb.mono (by simp))) _) (by have := hb.size; simp at this ⊢; omega) _ _⟩
      | true =>
        have h0 : n = 0 := by
          apply Decidable.byContradiction
          intro hne
          exact ht (by simp [torn_]; omega)
        have q6 : (0 < n) = False := eq_false (by omega)
        clear h0
        go_enter Tryd.func46, Tryd.ntmps46
        go_wp2_with (first
          | (go_at_call 43; refine (Hcon.out _ (HG.out.below HA.out)).mono ?_; rintro e w1 ⟨rfl, hb⟩; have hc0 : w1.cell? ⟨w.heap.size, 0, none⟩ = some (.string D) := box_cells hb 0 _ rfl; have hc1 : w1.cell? ⟨w.heap.size, 1, none⟩ = some (.string P) := box_cells hb 1 _ rfl)
          | (go_at_call 75; refine (Hw.out _).mono ?_; rintro e w2 ⟨rfl, ⟨nd, rfl⟩⟩))
        go_region
        all_goals go_wp2
        all_goals go_ret2
        all_goals exact ⟨rfl, bytes_below (zB (HA.out.trans (hb.mono (by simp))) _) (by have := hb.size; simp at this ⊢; omega) _ _⟩
theorem set_far {W : World} {b j : Nat} {v : Value} {a : Addr} (h : a.block ≠ b) : (W.setCell ⟨b, j, none⟩ v).cell? a = W.cell? a := World.cell?_of_block (Below.heap_setCell W ⟨b, j, none⟩ v a.block h)
theorem flipB_size (s : ByteArray) : (flipB s).size = s.size := by
  rw [← bytesOf_length (flipB s), ← bytesOf_length s]
  unfold flipB
  simp [bytesOf, strOfNums, flipNums]
theorem in_eq (a b c : Int) : spec_l1In.f a b c = some (decide (b ≤ a ∧ a ≤ c)) := by
  unfold spec_l1In.f
  split
  · rename_i h; simp [show b ≤ a from h]
  · rename_i h; simp [show ¬ b ≤ a from h]
def spec_CrashLog.f (k : Nat) (D P : ByteArray) (c keep : Int) (torn : Bool) : Option (ByteArray × Bool) :=
  if D.size + P.size ≤ 1000000000 then (spec_l12Valid.f k D P c).bind fun v => if v = true then (if 0 ≤ keep ∧ keep ≤ (P.size : Int) then
    (if torn_ torn keep = true then some (D ++ flipB (P.extract 0 keep.toNat), true) else some (D ++ P.extract 0 keep.toNat, true)) else some ((⟨#[]⟩ : ByteArray), false)) else some ((⟨#[]⟩ : ByteArray), false) else none
set_option maxRecDepth 100000 in
set_option maxHeartbeats 2000000 in
theorem spec_CrashLog.calls (k : Nat) (D P : ByteArray) (c keep : Int) (torn : Bool) (r1 : ByteArray) (r2 : Bool) (w : World) (h : spec_CrashLog.f k D P c keep torn = some (r1, r2)) :
    Calls Tryd.prog 47 #[.agg #[.string D, .string P, .int .i64 c], .int .i64 keep, .bool torn] w fun e w' => e = .returned (.tuple #[.string r1, .bool r2]) ∧ Below w.heap.size w w' := by
  unfold spec_CrashLog.f at h
  by_cases hs : D.size + P.size ≤ 1000000000
  case neg => rw [if_neg hs] at h; cases h
  rw [if_pos hs] at h
  obtain ⟨v, hv, h'⟩ := Option.bind_eq_some_iff.mp h
  clear h
  have hu25 := Tryd.underlying25
  have hcon := fun W => spec_l12Valid.calls k D P c v W hv
  have Hcon := Lib.hid hcon
  have HA := Lib.hid ((qO w.heap.size w).alloc (Nat.le_refl _) (.cells #[.string D, .string P, .int .i64 c] 25))
  clear hcon hv
  cases v with
  | false =>
    simp at h'
    obtain ⟨rfl, rfl⟩ := h'
    go_enter Tryd.func47, Tryd.ntmps47
    go_wp2_with (go_at_call 51; refine (Hcon.out _).mono ?_; rintro e w' ⟨rfl, hb⟩)
    go_ret2
    exact ⟨rfl, HA.out.trans (hb.mono (by simp))⟩
  | true =>
    rw [if_pos rfl] at h'
    by_cases hk : 0 ≤ keep ∧ keep ≤ (P.size : Int)
    case neg =>
      rw [if_neg hk] at h'
      simp at h'
      obtain ⟨rfl, rfl⟩ := h'
      have hw := fun W => spec_l1In.calls keep 0 (P.size : Int) false W (by rw [in_eq]; simp; omega)
      have Hw := Lib.hid hw
      clear hw
      go_enter Tryd.func47, Tryd.ntmps47
      go_wp2_with (first
        | (go_at_call 51; refine (Hcon.out _).mono ?_; rintro e w1 ⟨rfl, hb⟩; have hc1 : w1.cell? ⟨w.heap.size, 1, none⟩ = some (.string P) := box_cells hb 1 _ rfl)
        | (go_at_call 62; refine (Hw.out _).mono ?_; rintro e w2 ⟨rfl, ⟨nd, rfl⟩⟩))
      go_ret2
      exact ⟨rfl, zB (HA.out.trans (hb.mono (by simp))) _⟩
    obtain ⟨n, rfl⟩ := Int.eq_ofNat_of_zero_le hk.1
    have hn : n ≤ P.size := by omega
    rw [if_pos hk, Int.toNat_natCast] at h'
    have hw := fun W => spec_l1In.calls (n : Int) 0 (P.size : Int) true W (by rw [in_eq]; simp; omega)
    have Hw := Lib.hid hw
    have q1 : ((n : Int) ≤ (P.size : Int)) = True := eq_true (by omega)
    have q8 : (D.size + n ≤ 9223372036854775807) = True := eq_true (by omega)
    have kb := fun W => print_bytes (P := Tryd.prog) 9 44 5 Tryd.underlying9 Tryd.underlying44 Tryd.underlying5 (P.extract 0 n) W
    have hsz : (P.extract 0 n).size = n := by rw [ByteArray.size_extract]; omega
    generalize hS : P.extract 0 n = s at *
    have Hh := Lib.hid h'
    have Hk := Lib.hid hk
    clear hw h' hk
    have ks : ∀ (W : World) (m c : Nat), (convert 44 9 (.slice (some ⟨W.heap.size, 0, none⟩) n c)).run Tryd.prog (Lib.bytesWorld (W.drewN m) 5 s) = .ok (.string s) (Lib.bytesWorld (W.drewN m) 5 s) := fun W m c => by
      have := strOf_row (some ⟨W.heap.size, 0, none⟩) s.size c (bytesOf s) (Lib.bytesWorld (W.drewN m) 5 s) (bytes_reads (W.drewN m) 5 s (by omega))
      rwa [strOf_bytes, hsz] at this
    by_cases ht : torn_ torn (n : Int) = true
    · have ht1 : torn = true ∧ 0 < n := by simpa [torn_] using ht
      obtain ⟨rfl, h0⟩ := ht1
      rw [if_pos ht] at Hh
      obtain ⟨rfl, rfl⟩ : D ++ flipB s = r1 ∧ true = r2 := by simpa using Hh.out
      clear Hh
      have hl : (bytesOf s).length = n := by rw [bytesOf_length, hsz]
      obtain ⟨x, hx⟩ : ∃ x, (bytesOf s).getD (n - 1) 0 = x := ⟨_, rfl⟩
      have hxr : 0 ≤ x ∧ x ≤ 255 := by
        rw [← hx]
        have := bt_range s ((n - 1 : Nat) : Int)
        rw [← rd_bytesOf] at this
        simpa [rd] using this
      have hflip : flipB s = strOfNums ((bytesOf s).set (n - 1) (255 - x)) := by unfold flipB flipNums; rw [hl, hx]
      have kc : ∀ (W : World) (m : Nat), (Lib.bytesWorld (W.drewN m) 5 s).cell? ⟨W.heap.size, n - 1, none⟩ = some (.int .u8 x) := fun W m => by
        have h2 := Lib.bytesWorld_cell (W.drewN m) 5 s (n - 1) (by omega)
        have h' : n - 1 < s.data.toList.length := by rw [data_length]; omega
        refine Eq.trans h2 ?_
        rw [← hx]
        simp [bytesOf, List.getD_eq_getElem?_getD, List.getElem?_eq_getElem h']
      have kf : ∀ (W : World) (m : Nat), (Lib.bytesWorld (W.drewN m) 5 s).frozen? ⟨W.heap.size, n - 1, none⟩ = false := fun W m => bytes_frozen (W.drewN m) 5 s (n - 1) (by omega)
      have kt : ∀ (W : World) (m c : Nat), (convert 44 9 (.slice (some ⟨W.heap.size, 0, none⟩) n c)).run Tryd.prog ((Lib.bytesWorld (W.drewN m) 5 s).setCell ⟨W.heap.size, n - 1, none⟩ (.int .u8 (255 - x))) = .ok (.string (flipB s)) ((Lib.bytesWorld (W.drewN m) 5 s).setCell ⟨W.heap.size, n - 1, none⟩ (.int .u8 (255 - x))) := fun W m c => by
        have := strOf_row (some ⟨W.heap.size, 0, none⟩) s.size c _ _ (bytes_set (W.drewN m) 5 s (n - 1) (by omega) (by omega) (255 - x))
        rw [hsz] at this
        rw [hflip]
        exact this
      have q9 : (9223372036854775807 < D.size + (flipB s).size) = False := eq_false (by rw [flipB_size, hsz]; omega)
      have qx : IntKind.u8.wrap (255 - x) = 255 - x := by unfold IntKind.wrap; simp [IntKind.bits, IntKind.signed]; omega
      have qx2 : (255 - x) % 256 = 255 - x := by omega
      have q2 : IntKind.i64.wrap ((n : Int) - 1) = ((n - 1 : Nat) : Int) := by rw [IntWalk.i64_in _ (by omega)]; omega
      have q3 : wrap64 ((n : Int) - 1) = ((n - 1 : Nat) : Int) := by rw [w64 _ (by omega) (by omega)]; omega
      have q4 : IntKind.i64.wrap ((n : Int) - 1) = ((n - 1 : Nat) : Int) := by rw [IntWalk.i64_in _ (by omega)]; omega
      have q5 : (((n - 1 : Nat) : Int) < (n : Int)) = True := eq_true (by omega)
      have q6 : (0 < n) = True := eq_true h0
      clear hx hflip ht
      go_enter Tryd.func47, Tryd.ntmps47
      go_wp2_with (first
        | (go_at_call 51; refine (Hcon.out _).mono ?_; rintro e w1 ⟨rfl, hb⟩; have hc0 : w1.cell? ⟨w.heap.size, 0, none⟩ = some (.string D) := box_cells hb 0 _ rfl; have hc1 : w1.cell? ⟨w.heap.size, 1, none⟩ = some (.string P) := box_cells hb 1 _ rfl; have hlt : w.heap.size < w1.heap.size := (by have := hb.size; simp at this; omega); have hcd : ∀ m, (Lib.bytesWorld (w1.drewN m) 5 s).cell? ⟨w.heap.size, 0, none⟩ = some (.string D) := (fun m => (Lib.bytesWorld_old (w1.drewN m) 5 s ⟨w.heap.size, 0, none⟩ hlt).trans hc0); have hcd2 : ∀ m j v, ((Lib.bytesWorld (w1.drewN m) 5 s).setCell ⟨w1.heap.size, j, none⟩ v).cell? ⟨w.heap.size, 0, none⟩ = some (.string D) := (fun m j v => (set_far (Nat.ne_of_lt hlt)).trans (hcd m)))
        | (go_at_call 62; refine (Hw.out _).mono ?_; rintro e w2 ⟨rfl, ⟨nd, rfl⟩⟩))
      try (go_region; all_goals go_wp2)
      all_goals go_ret2
      all_goals exact ⟨rfl, (bytes_below (zB (HA.out.trans (hb.mono (by simp))) _) (by have := hb.size; simp at this ⊢; omega) _ _).setCell (p := ⟨w1.heap.size, _, none⟩) (by have := hb.size; simp at this ⊢; omega) _⟩
    · rw [if_neg ht] at Hh
      obtain ⟨rfl, rfl⟩ : D ++ s = r1 ∧ true = r2 := by simpa using Hh.out
      clear Hh
      cases torn with
      | false =>
        go_enter Tryd.func47, Tryd.ntmps47
        go_wp2_with (first
          | (go_at_call 51; refine (Hcon.out _).mono ?_; rintro e w1 ⟨rfl, hb⟩; have hc0 : w1.cell? ⟨w.heap.size, 0, none⟩ = some (.string D) := box_cells hb 0 _ rfl; have hc1 : w1.cell? ⟨w.heap.size, 1, none⟩ = some (.string P) := box_cells hb 1 _ rfl; have hlt : w.heap.size < w1.heap.size := (by have := hb.size; simp at this; omega); have hcd : ∀ m, (Lib.bytesWorld (w1.drewN m) 5 s).cell? ⟨w.heap.size, 0, none⟩ = some (.string D) := (fun m => (Lib.bytesWorld_old (w1.drewN m) 5 s ⟨w.heap.size, 0, none⟩ hlt).trans hc0); have hcd2 : ∀ m j v, ((Lib.bytesWorld (w1.drewN m) 5 s).setCell ⟨w1.heap.size, j, none⟩ v).cell? ⟨w.heap.size, 0, none⟩ = some (.string D) := (fun m j v => (set_far (Nat.ne_of_lt hlt)).trans (hcd m)))
          | (go_at_call 62; refine (Hw.out _).mono ?_; rintro e w2 ⟨rfl, ⟨nd, rfl⟩⟩))
        try (go_region; all_goals go_wp2)
        all_goals go_ret2
        all_goals exact ⟨rfl, bytes_below (zB (HA.out.trans (hb.mono (by simp))) _) (by have := hb.size; simp at this ⊢; omega) _ _⟩
      | true =>
        have h0 : n = 0 := by
          apply Decidable.byContradiction
          intro hne
          exact ht (by simp [torn_]; omega)
        have q6 : (0 < n) = False := eq_false (by omega)
        clear h0
        go_enter Tryd.func47, Tryd.ntmps47
        go_wp2_with (first
          | (go_at_call 51; refine (Hcon.out _).mono ?_; rintro e w1 ⟨rfl, hb⟩; have hc0 : w1.cell? ⟨w.heap.size, 0, none⟩ = some (.string D) := box_cells hb 0 _ rfl; have hc1 : w1.cell? ⟨w.heap.size, 1, none⟩ = some (.string P) := box_cells hb 1 _ rfl; have hlt : w.heap.size < w1.heap.size := (by have := hb.size; simp at this; omega); have hcd : ∀ m, (Lib.bytesWorld (w1.drewN m) 5 s).cell? ⟨w.heap.size, 0, none⟩ = some (.string D) := (fun m => (Lib.bytesWorld_old (w1.drewN m) 5 s ⟨w.heap.size, 0, none⟩ hlt).trans hc0); have hcd2 : ∀ m j v, ((Lib.bytesWorld (w1.drewN m) 5 s).setCell ⟨w1.heap.size, j, none⟩ v).cell? ⟨w.heap.size, 0, none⟩ = some (.string D) := (fun m j v => (set_far (Nat.ne_of_lt hlt)).trans (hcd m)))
          | (go_at_call 62; refine (Hw.out _).mono ?_; rintro e w2 ⟨rfl, ⟨nd, rfl⟩⟩))
        try (go_region; all_goals go_wp2)
        all_goals go_ret2
        all_goals exact ⟨rfl, bytes_below (zB (HA.out.trans (hb.mono (by simp))) _) (by have := hb.size; simp at this ⊢; omega) _ _⟩
end Go.Proofs.YtnbhbnndfpfikaaDoor.X
