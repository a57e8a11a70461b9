/- The plain law of LogRecords. -/
import Derived.Test.YtnbhbnndfpfikaaDoorXs
import Derived.Test.YtnbhbnndfpfikaaDoorY11
namespace Go.Proofs.YtnbhbnndfpfikaaDoor.X
open Go.RowKit Go.Proofs.YtnbhbnndfpfikaaDoorW.PrintWords Go.Proofs.YtnbhbnndfpfikaaDoorW.PrintLast Go.Proofs.YtnbhbnndfpfikaaDoorW.PrintMore
set_option linter.unusedVariables false
set_option linter.unusedSimpArgs false

/-! ### marks -/
theorem Ev.same {α : Type} {f : Nat → Option α} {a b : α} (h : Ev f a) (h2 : Ev f b) : a = b := by
  obtain ⟨K, hK⟩ := h
  obtain ⟨L, hL⟩ := h2
  exact Option.some.inj ((hK (max K L) (by omega)).symm.trans (hL (max K L) (by omega)))
theorem mark_loop : ∀ (m : Nat) (n : Int) (x : ByteArray), n.toNat ≤ m → n ≤ 1000000 → x.size + m ≤ 1000000000 → ∃ v, Ev (fun k => laws_markText.l0 k n x) v := by
  intro m
  induction m with
  | zero =>
    intro n x hn h1 hx
    refine ⟨(⟨#[109]⟩ : ByteArray) ++ x, Ev.shift ?_⟩
    unfold laws_markText.l0
    exact Ev.neg (by omega) (Ev.pos (by omega) (Ev.const _))
  | succ m ih =>
    intro n x hn h1 hx
    by_cases h0 : n > 0
    · have hd : Int.tdiv n 10 = n / 10 := Int.tdiv_eq_ediv_of_nonneg (by omega)
      have hsz : (strOfNums [(wrap64 (48 + (Int.tmod n 10))) % 256]).size = 1 := by simp [strOfNums, ByteArray.size]
      obtain ⟨v, hv⟩ := ih (Int.tdiv n 10) ((strOfNums [(wrap64 (48 + (Int.tmod n 10))) % 256]) ++ x) (by rw [hd]; omega) (by rw [hd]; omega) (by rw [ByteArray.size_append, hsz]; omega)
      refine ⟨v, Ev.shift ?_⟩
      unfold laws_markText.l0
      refine Ev.pos h0 (Ev.bind (Ev.const _) (Ev.pos (by rw [hsz]; omega) ?_))
      rw [w64 (Int.tdiv n 10) (by rw [hd]; omega) (by rw [hd]; omega)]
      exact hv
    · refine ⟨(⟨#[109]⟩ : ByteArray) ++ x, Ev.shift ?_⟩
      unfold laws_markText.l0
      exact Ev.neg (by omega) (Ev.pos (by omega) (Ev.const _))
theorem mark_some (n : Int) (h1 : n ≤ 1000000) : ∃ v, Ev (fun k => laws_markText.f k n) v := by
  unfold laws_markText.f
  by_cases h0 : n ≤ 0
  · exact ⟨_, Ev.pos h0 (Ev.const _)⟩
  · obtain ⟨v, hv⟩ := mark_loop n.toNat n ⟨#[]⟩ (Nat.le_refl _) h1 (by show 0 + _ ≤ _; omega)
    exact ⟨v, Ev.neg h0 hv⟩
open Classical in
noncomputable def mt (n : Int) : ByteArray := if h : ∃ v, Ev (fun k => laws_markText.f k n) v then h.choose else ⟨#[]⟩
theorem mt_ev (n : Int) (h1 : n ≤ 1000000) : Ev (fun k => laws_markText.f k n) (mt n) := by
  unfold mt
  rw [dif_pos (mark_some n h1)]
  exact (mark_some n h1).choose_spec
noncomputable def marks : Nat → List S → List S
  | _, [] => []
  | i, _ :: xs => ⟨mt (1 + 2 * (i : Int)), mt (1 + 2 * (i : Int) + 1)⟩ :: marks (i + 1) xs
theorem marks_length : ∀ (xs : List S) (i : Nat), (marks i xs).length = xs.length := by
  intro xs
  induction xs with
  | nil => intro i; rfl
  | cons x xs ih => intro i; simp [marks, ih]
theorem rd_mid (pre rest : List S) (r : S) : rd_T36 (pre ++ r :: rest) (pre.length : Int) = r := by simp [rd_T36]
theorem set_mid (pre rest : List S) (r v : S) : (pre ++ r :: rest).set pre.length v = pre ++ v :: rest := by simp
theorem mark_ev (l : List S) (hl : l.length ≤ 1000) : Ev (fun k => laws_markLogRecordS.f k l 1) (1 + 2 * (l.length : Int), marks 0 l) := by
  have main : ∀ (rest pre : List S), (pre ++ rest).length ≤ 1000 → Ev (fun k => laws_markLogRecordS.l0 k (pre ++ rest) (1 + 2 * (pre.length : Int)) (pre.length : Int)) (1 + 2 * ((pre ++ rest).length : Int), pre ++ marks pre.length rest) := by
    intro rest
    induction rest with
    | nil =>
      intro pre h
      refine Ev.shift ?_
      unfold laws_markLogRecordS.l0
      refine Ev.neg (by simp) ?_
      simp only [List.append_nil, marks]
      exact Ev.const _
    | cons r rest ih =>
      intro pre h
      have hp : pre.length + (rest.length + 1) ≤ 1000 := by simpa using h
      have := ih (pre ++ [⟨mt (1 + 2 * (pre.length : Int)), mt (1 + 2 * (pre.length : Int) + 1)⟩]) (by simp; omega)
      refine Ev.shift ?_
      unfold laws_markLogRecordS.l0
      refine Ev.pos (by simp; omega) (Ev.bind (mt_ev _ (by omega)) (Ev.pos (by omega) ?_))
      rw [w64 (1 + 2 * (pre.length : Int) + 1) (by omega) (by omega), Int.toNat_natCast, rd_mid, set_mid]
      refine Ev.bind (Ev.const _) (Ev.bind (mt_ev _ (by omega)) ?_)
      rw [rd_mid, set_mid, w64 (1 + 2 * (pre.length : Int) + 1 + 1) (by omega) (by omega), w64 ((pre.length : Int) + 1) (by omega) (by omega)]
      have e1 : ((pre ++ [(⟨mt (1 + 2 * (pre.length : Int)), mt (1 + 2 * (pre.length : Int) + 1)⟩ : S)]).length : Int) = (pre.length : Int) + 1 := by simp
      have e2 : (pre ++ [(⟨mt (1 + 2 * (pre.length : Int)), mt (1 + 2 * (pre.length : Int) + 1)⟩ : S)]).length = pre.length + 1 := by simp
      rw [e1, e2] at this
      simp only [List.append_assoc, List.cons_append, List.nil_append] at this
      have e3 : 1 + 2 * ((pre.length : Int) + 1) = 1 + 2 * (pre.length : Int) + 1 + 1 := by omega
      rw [e3] at this
      have e4 : ((pre ++ r :: rest).length : Int) = ((pre ++ (⟨mt (1 + 2 * (pre.length : Int)), mt (1 + 2 * (pre.length : Int) + 1)⟩ : S) :: rest).length : Int) := by simp
      rw [e4]
      exact this
  have := main l [] (by simpa using hl)
  unfold laws_markLogRecordS.f
  simpa using this
theorem held_ev (l : List S) (hl : l.length ≤ 1000) : Ev (fun k => laws_heldLogRecordS.f k (marks 0 l) 1) (1 + 2 * (l.length : Int)) := by
  have main : ∀ (rest pre : List S), pre.length + rest.length ≤ 1000 → Ev (fun k => laws_heldLogRecordS.l0 k (pre ++ marks pre.length rest) (1 + 2 * (pre.length : Int)) (pre.length : Int)) (1 + 2 * ((pre.length : Int) + (rest.length : Int))) := by
    intro rest
    induction rest with
    | nil =>
      intro pre h
      refine Ev.shift ?_
      unfold laws_heldLogRecordS.l0
      refine Ev.neg (by simp [marks]) ?_
      simp only [List.length_nil]
      have e : 1 + 2 * ((pre.length : Int) + ((0 : Nat) : Int)) = 1 + 2 * (pre.length : Int) := by omega
      rw [e]
      exact Ev.const _
    | cons r rest ih =>
      intro pre h
      rw [List.length_cons] at h
      have := ih (pre ++ [⟨mt (1 + 2 * (pre.length : Int)), mt (1 + 2 * (pre.length : Int) + 1)⟩]) (by simp; omega)
      refine Ev.shift ?_
      unfold laws_heldLogRecordS.l0
      rw [marks]
      refine Ev.pos (by simp; omega) (Ev.pos (by omega) (Ev.bind (mt_ev _ (by omega)) ?_))
      rw [rd_mid]
      refine Ev.pos rfl ?_
      rw [w64 (1 + 2 * (pre.length : Int) + 1) (by omega) (by omega)]
      refine Ev.bind (mt_ev _ (by omega)) (Ev.pos rfl ?_)
      rw [w64 (1 + 2 * (pre.length : Int) + 1 + 1) (by omega) (by omega), w64 ((pre.length : Int) + 1) (by omega) (by omega)]
      have e1 : ((pre ++ [(⟨mt (1 + 2 * (pre.length : Int)), mt (1 + 2 * (pre.length : Int) + 1)⟩ : S)]).length : Int) = (pre.length : Int) + 1 := by simp
      have e2 : (pre ++ [(⟨mt (1 + 2 * (pre.length : Int)), mt (1 + 2 * (pre.length : Int) + 1)⟩ : S)]).length = pre.length + 1 := by simp
      rw [e1, e2] at this
      simp only [List.append_assoc, List.cons_append, List.nil_append] at this
      have e3 : 1 + 2 * ((pre.length : Int) + 1) = 1 + 2 * (pre.length : Int) + 1 + 1 := by omega
      rw [e3] at this
      have e4 : 1 + 2 * ((pre.length : Int) + ((rest.length + 1 : Nat) : Int)) = 1 + 2 * ((pre.length : Int) + 1 + (rest.length : Int)) := by omega
      rw [List.length_cons, e4]
      exact this
  have := main l [] (by simpa using hl)
  unfold laws_heldLogRecordS.f
  simpa using this
theorem eqS_ev (l : List S) (hl : l.length ≤ 1000) : Ev (fun k => laws_eqLogRecordS.f k l l) true := by
  have main : ∀ (n i : Nat), i + n = l.length → Ev (fun k => laws_eqLogRecordS.l0 k l l (i : Int)) true := by
    intro n
    induction n with
    | zero =>
      intro i hi
      refine Ev.shift ?_
      unfold laws_eqLogRecordS.l0
      exact Ev.neg (by omega) (Ev.const _)
    | succ n ih =>
      intro i hi
      refine Ev.shift ?_
      unfold laws_eqLogRecordS.l0
      refine Ev.pos (by omega) (Ev.pos (by omega) (Ev.pos (by omega) ?_))
      have e : laws_eqLogRecord.f ((rd_T36 l (i : Int)).f0) ((rd_T36 l (i : Int)).f1) ((rd_T36 l (i : Int)).f0) ((rd_T36 l (i : Int)).f1) = some true := by unfold laws_eqLogRecord.f; rw [if_pos rfl, if_pos rfl]
      rw [e]
      refine Ev.bind (Ev.const _) (Ev.pos rfl ?_)
      rw [w64 ((i : Int) + 1) (by omega) (by omega)]
      exact ih (i + 1) (by omega)
  unfold laws_eqLogRecordS.f
  exact Ev.pos rfl (main l.length 0 (by omega))

/-- What both hand back. -/
def recorded (D P : ByteArray) (c : Int) : List S × Bool := if validL D P c = true then (recs (D ++ P), true) else ([], false)
theorem recorded_le (D P : ByteArray) (c : Int) : (recorded D P c).1.length ≤ 60 := by
  unfold recorded
  split
  · exact (recs_le _).2
  · exact Nat.zero_le _
theorem spec_LogRecords_ev (D P : ByteArray) (c : Int) (hs : D.size + P.size ≤ 2000000) : Ev (fun k => spec_LogRecords.f k D P c) (recorded D P c) := by
  unfold spec_LogRecords.f
  refine Ev.bind (spec_l12Valid_ev D P c hs) ?_
  unfold recorded
  by_cases h : validL D P c = true
  · rw [show (if validL D P c = true then (recs (D ++ P), true) else ([], false)) = (recs (D ++ P), true) from if_pos h]
    have h0 := (of_decide_eq_true h).1
    exact Ev.pos h (Ev.pos (by omega) (Ev.bind (spec_l12Open_ev (D ++ P) (by rw [ByteArray.size_append]; omega)) (Ev.const _)))
  · rw [show (if validL D P c = true then (recs (D ++ P), true) else ([], false)) = (([] : List S), false) from if_neg h]
    exact Ev.neg h (Ev.const _)
theorem impl_LogRecords_ev (D P : ByteArray) (c : Int) (hs : D.size + P.size ≤ 2000000) : Ev (fun k => impl_LogRecords.f k D P c) (recorded D P c) := by
  unfold impl_LogRecords.f
  obtain ⟨l, hl, he⟩ := impl_readLog_ev D P c hs
  refine Ev.bind hl ?_
  unfold recorded
  by_cases h : validL D P c = true
  · rw [show (if validL D P c = true then (recs (D ++ P), true) else ([], false)) = (recs (D ++ P), true) from if_pos h, ← he h]
    exact Ev.pos h (Ev.const _)
  · rw [show (if validL D P c = true then (recs (D ++ P), true) else ([], false)) = (([] : List S), false) from if_neg h]
    exact Ev.neg h (Ev.const _)
/-- ████ THE PLAIN LAW OF LogRecords ████ -/
theorem logRecords (D P : ByteArray) (c : Int) (h0 : D.size ≤ 9223372036854775807) (h1 : P.size ≤ 9223372036854775807) : ∃ k, laws_FnExactLogRecords.f k D P c = some true := by
  obtain ⟨m, hm, hb⟩ := szLog_eq D P c h0 h1
  unfold laws_FnExactLogRecords.f laws_toLog.f
  simp only [hm, Option.bind_some]
  by_cases hm0 : m < 0
  · exact ⟨0, if_pos hm0⟩
  simp only [if_neg hm0]
  have hs := hb hm0
  have hr := recorded_le D P c
  have hw := spec_LogRecords_ev D P c (by omega)
  have hg := impl_LogRecords_ev D P c (by omega)
  generalize recorded D P c = R at *
  have heq := eqS_ev R.1 (by omega)
  have hheld := held_ev R.1 (by omega)
  apply Ev.some
  refine Ev.bind hw (Ev.bind hg (Ev.bind heq (Ev.pos rfl (Ev.shift ?_))))
  unfold laws_FnExactLogRecords.j0 laws_toLog.f
  refine Ev.neg (by simp) (Ev.bind (mark_ev R.1 (by omega)) (Ev.bind hheld (Ev.neg (by omega) (Ev.pos rfl (Ev.bind (Ev.const _) (Ev.bind hg (Ev.bind heq (Ev.pos rfl (Ev.shift ?_)))))))))
  unfold laws_FnExactLogRecords.j1
  exact Ev.neg (by simp) (Ev.bind hheld (Ev.neg (by omega) (Ev.pos rfl (Ev.const _))))
end Go.Proofs.YtnbhbnndfpfikaaDoor.X
