/- The log's plain laws, 4: a valid log is the same on both sides. -/
import Derived.Test.YtnbhbnndfpfikaaDoorXr
import Derived.Test.YtnbhbnndfpfikaaDoorY9
namespace Go.Proofs.YtnbhbnndfpfikaaDoor.X
open Go.RowKit Go.Proofs.YtnbhbnndfpfikaaDoorW.PrintWords Go.Proofs.YtnbhbnndfpfikaaDoorW.PrintLast Go.Proofs.YtnbhbnndfpfikaaDoorW.PrintMore
set_option linter.unusedVariables false
set_option linter.unusedSimpArgs false
theorem contains_ev (l : List Int) (a : Int) (hl : l.length ≤ 1000000000) : Ev (fun k => slices_Contains_int_int.f k l a) (decide (a ∈ l)) := by
  have h : ∀ (n i : Nat), i + n = l.length → ∃ r, Ev (fun k => slices_Index_int_int.l0 k l a (l.length : Int) (i : Int)) r ∧ (r ≥ 0 ↔ a ∈ l.drop i) := by
    intro n
    induction n with
    | zero =>
      intro i hi
      refine ⟨-1, ?_, by rw [List.drop_eq_nil_of_le (by omega)]; simp⟩
      refine Ev.shift ?_
      unfold slices_Index_int_int.l0
      exact Ev.neg (by omega) (Ev.const _)
    | succ n ih =>
      intro i hi
      have hd : l.drop i = rd l (i : Int) :: l.drop (i + 1) := by
        rw [List.drop_eq_getElem_cons (by omega)]
        congr 1
        have : i < l.length := by omega
        simp [rd, List.getD_eq_getElem?_getD, this]
      by_cases hb : a = rd l (i : Int)
      · refine ⟨(i : Int), ?_, by rw [hd, ← hb]; simp⟩
        refine Ev.shift ?_
        unfold slices_Index_int_int.l0
        exact Ev.pos (by omega) (Ev.pos (by omega) (Ev.pos (by omega) (Ev.pos hb (Ev.const _))))
      · obtain ⟨r, h1, h2⟩ := ih (i + 1) (by omega)
        refine ⟨r, ?_, by rw [h2, hd, List.mem_cons]; exact ⟨.inr, fun h => h.resolve_left hb⟩⟩
        refine Ev.shift ?_
        unfold slices_Index_int_int.l0
        refine Ev.pos (by omega) (Ev.pos (by omega) (Ev.pos (by omega) (Ev.neg hb ?_)))
        rw [w64 ((i : Int) + 1) (by omega) (by omega)]
        exact h1
  obtain ⟨r, h1, h2⟩ := h l.length 0 (by omega)
  unfold slices_Contains_int_int.f slices_Index_int_int.f
  refine Ev.bind h1 ?_
  have e : decide (a ∈ l) = decide (r ≥ 0) := by rw [decide_eq_decide, h2]; rfl
  rw [e]; exact Ev.const _
def recs (s : ByteArray) : List S := scan (lines s) 0
def endOf (s : ByteArray) : Nat := tot ((lines s).take (recs s).length)
def ends (s : ByteArray) : List Int := posL 0 ((lines s).take (recs s).length)
theorem recs_le (s : ByteArray) : (recs s).length ≤ (lines s).length ∧ (recs s).length ≤ 60 := ⟨(scan_le _ _).1, by have := (scan_le (lines s) 0).2; exact this⟩
theorem ends_length (s : ByteArray) : (ends s).length = (recs s).length + 1 := by
  unfold ends
  rw [posL_length, List.length_take]
  have := recs_le s
  omega
theorem ends_last (s : ByteArray) : rd (ends s) ((recs s).length : Int) = (endOf s : Int) := by
  have h := posL_last ((lines s).take (recs s).length) 0
  have h2 : ((lines s).take (recs s).length).length = (recs s).length := by rw [List.length_take]; have := recs_le s; omega
  rw [h2, Nat.zero_add] at h
  exact h
theorem tot_zero (l : List ByteArray) (h : ∀ x ∈ l, x.size ≠ 0) (h0 : tot l = 0) : l = [] := by
  cases l with
  | nil => rfl
  | cons x l =>
    exfalso
    have := h x List.mem_cons_self
    simp [tot] at h0
    exact this (by rw [h0.1]; rfl)
theorem all_of_end (s : ByteArray) (h : endOf s = s.size) : (recs s).length = (lines s).length ∧ ∀ x ∈ lines s, full x := by
  have hp := lines_parts s
  have h1 : tot (lines s) = s.size := by rw [← flat_size, flat_lines]
  have h2 := tot_app ((lines s).take (recs s).length) ((lines s).drop (recs s).length)
  rw [List.take_append_drop, h1] at h2
  have h3 : (lines s).drop (recs s).length = [] := tot_zero _ (fun x hx => (hp x (List.mem_of_mem_drop hx)).1) (by unfold endOf at h; omega)
  have h4 : (recs s).length = (lines s).length := by
    have := congrArg List.length h3
    rw [List.length_drop, List.length_nil] at this
    have := (recs_le s).1
    omega
  refine ⟨h4, fun x hx => ?_⟩
  obtain ⟨i, e, hr⟩ := scan_all (lines s) 0 h4 x hx
  exact recOf_full hr (hp x hx).2.2
theorem app_size_cancel {a b c d : ByteArray} (h : a ++ b = c ++ d) (hs : a.size = c.size) : a = c := by
  have := congrArg bytesOf h
  rw [bytesOf_append, bytesOf_append] at this
  exact bytesOf_inj (List.append_inj_left this (by rw [bytesOf_length, bytesOf_length, hs]))
theorem kept_iff (D P : ByteArray) (h : endOf (D ++ P) = (D ++ P).size) : (D.size : Int) ∈ ends (D ++ P) ↔ endOf D = D.size := by
  obtain ⟨h1, h2⟩ := all_of_end _ h
  have he : ends (D ++ P) = posL 0 (lines (D ++ P)) := by unfold ends; rw [h1, List.take_length]
  rw [he, posL_mem]
  constructor
  · rintro ⟨j, hj, e⟩
    rw [Nat.zero_add] at e
    have e' : D.size = tot ((lines (D ++ P)).take j) := by omega
    have hD : D = flat ((lines (D ++ P)).take j) := by
      apply app_size_cancel (b := P) (d := flat ((lines (D ++ P)).drop j))
      · rw [← flat_app, List.take_append_drop, flat_lines]
      · rw [flat_size]; exact e'
    have hfl : ∀ x ∈ (lines (D ++ P)).take j, full x := fun x hx => h2 x (List.mem_of_mem_take hx)
    have hl : lines D = (lines (D ++ P)).take j := by
      have := lines_flat _ (⟨#[]⟩ : ByteArray) hfl
      rw [app_nil, lines_nil ⟨#[]⟩ rfl, List.append_nil, ← hD] at this
      exact this
    have hr : (recs D).length = (lines D).length := by
      unfold recs
      rw [hl, scan_take, List.length_take, List.length_take]
      unfold recs at h1
      omega
    unfold endOf
    rw [hr, List.take_length, ← flat_size, flat_lines]
  · intro hk
    obtain ⟨h3, h4⟩ := all_of_end _ hk
    have hl := lines_flat (lines D) P h4
    rw [flat_lines] at hl
    refine ⟨(lines D).length, by rw [hl]; simp, ?_⟩
    rw [hl, List.take_left, Nat.zero_add, ← flat_size, flat_lines]
def validL (D P : ByteArray) (c : Int) : Bool := decide (D.size + P.size ≤ 30000 ∧ endOf (D ++ P) = D.size + P.size ∧ endOf D = D.size ∧ ((recs (D ++ P)).length : Int) = c)
theorem spec_l12Valid_ev (D P : ByteArray) (c : Int) (hs : D.size + P.size ≤ 2000000) : Ev (fun k => spec_l12Valid.f k D P c) (validL D P c) := by
  unfold spec_l12Valid.f
  refine Ev.pos (by omega) ?_
  by_cases h0 : D.size + P.size ≤ 30000
  · refine Ev.neg (by omega) ?_
    refine Ev.bind (spec_l12Open_ev (D ++ P) (by rw [ByteArray.size_append]; omega)) (Ev.bind (spec_l12Open_ev D (by omega)) ?_)
    show Ev (fun k => if ((endOf (D ++ P) : Nat) : Int) = ((D.size : Int) + (P.size : Int)) then (if ((endOf D : Nat) : Int) = (D.size : Int) then (some (((recs (D ++ P)).length : Int) == c)) else (some false)) else (some false)) _
    by_cases h1 : endOf (D ++ P) = D.size + P.size
    · refine Ev.pos (by omega) ?_
      by_cases h2 : endOf D = D.size
      · refine Ev.pos (by omega) ?_
        have e : validL D P c = (((recs (D ++ P)).length : Int) == c) := by
          unfold validL
          rw [Bool.eq_iff_iff, decide_eq_true_eq, beq_iff_eq]
          exact ⟨fun h => h.2.2.2, fun h => ⟨h0, h1, h2, h⟩⟩
        rw [e]; exact Ev.const _
      · refine Ev.neg (by omega) ?_
        rw [show validL D P c = false from qG (fun h => h2 h.2.2.1)]; exact Ev.const _
    · refine Ev.neg (by omega) ?_
      rw [show validL D P c = false from qG (fun h => h1 h.2.1)]; exact Ev.const _
  · refine Ev.pos (by omega) ?_
    rw [show validL D P c = false from qG (fun h => h0 h.1)]; exact Ev.const _
theorem impl_readLog_ev (D P : ByteArray) (c : Int) (hs : D.size + P.size ≤ 2000000) : ∃ l, Ev (fun k => impl_readLog.f k D P c) (l, validL D P c) ∧ (validL D P c = true → l = recs (D ++ P)) := by
  unfold impl_readLog.f
  by_cases h0 : D.size + P.size ≤ 30000
  · refine ⟨recs (D ++ P), Ev.pos (by omega) (Ev.neg (by omega) (Ev.bind (impl_decodeAll_ev (D ++ P) (by rw [ByteArray.size_append]; omega)) ?_)), fun _ => rfl⟩
    show Ev (fun k => if 0 ≤ ((recs (D ++ P)).length : Int) then (if ((recs (D ++ P)).length : Int) < ((ends (D ++ P)).length : Int) then (if (rd (ends (D ++ P)) ((recs (D ++ P)).length : Int)) = ((D.size : Int) + (P.size : Int)) then ((slices_Contains_int_int.f k (ends (D ++ P)) (D.size : Int)).bind fun t202 => (if t202 = true then (some (recs (D ++ P), (c == ((recs (D ++ P)).length : Int)))) else (some (recs (D ++ P), false)))) else (some (recs (D ++ P), false))) else (none)) else (none)) _
    have hel := ends_length (D ++ P)
    have hrl := recs_le (D ++ P)
    refine Ev.pos (by omega) (Ev.pos (by omega) ?_)
    rw [ends_last]
    by_cases h1 : endOf (D ++ P) = D.size + P.size
    · refine Ev.pos (by omega) (Ev.bind (contains_ev _ _ (by omega)) ?_)
      have hk := kept_iff D P (by rw [h1, ByteArray.size_append])
      by_cases h2 : endOf D = D.size
      · refine Ev.pos (qE (hk.2 h2)) ?_
        have e : validL D P c = (c == ((recs (D ++ P)).length : Int)) := by
          unfold validL
          rw [Bool.eq_iff_iff, decide_eq_true_eq, beq_iff_eq]
          exact ⟨fun h => h.2.2.2.symm, fun h => ⟨h0, h1, h2, h.symm⟩⟩
        rw [e]; exact Ev.const _
      · refine Ev.neg (by rw [qG (fun h => h2 (hk.1 h))]; decide) ?_
        rw [show validL D P c = false from qG (fun h => h2 h.2.2.1)]; exact Ev.const _
    · refine Ev.neg (by omega) ?_
      rw [show validL D P c = false from qG (fun h => h1 h.2.1)]; exact Ev.const _
  · refine ⟨[], Ev.pos (by omega) (Ev.pos (by omega) ?_), fun h => absurd (qF h).1 h0⟩
    rw [show validL D P c = false from qG (fun h => h0 h.1)]; exact Ev.const _
theorem impl_IsValidLog_ev (D P : ByteArray) (c : Int) (hs : D.size + P.size ≤ 2000000) : Ev (fun k => impl_IsValidLog.f k D P c) (validL D P c) := by
  obtain ⟨l, h, _⟩ := impl_readLog_ev D P c hs
  unfold impl_IsValidLog.f
  exact Ev.bind h (Ev.const _)
theorem Ev.some {α : Type} {f : Nat → Option α} {r : α} (h : Ev f r) : ∃ k, f k = Option.some r := h.elim fun K hK => ⟨K, hK K (Nat.le_refl _)⟩
end Go.Proofs.YtnbhbnndfpfikaaDoor.X
