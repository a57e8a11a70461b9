/- The plain law of AppendRecord. -/
import Derived.Test.YtnbhbnndfpfikaaDoorXs
import Derived.Test.YtnbhbnndfpfikaaDoorY13
namespace Go.Proofs.YtnbhbnndfpfikaaDoor.X
open Go.RowKit Go.Proofs.YtnbhbnndfpfikaaDoorW.PrintWords Go.Proofs.YtnbhbnndfpfikaaDoorW.PrintLast Go.Proofs.YtnbhbnndfpfikaaDoorW.PrintMore
set_option linter.unusedVariables false
set_option linter.unusedSimpArgs false

theorem szLogRecord_eq (c r : ByteArray) (l : Int) (hl0 : 0 ≤ l) (hl1 : l ≤ 1048576) (h0 : c.size ≤ 9223372036854775807) (h1 : r.size ≤ 9223372036854775807) : ∃ m, laws_szLogRecord.f c r l = some m ∧ (¬ m < 0 → c.size + r.size ≤ 1048576) := by
  unfold laws_szLogRecord.f
  rw [w64 (l - (c.size : Int)) (by omega) (by omega)]
  split
  · exact ⟨-1, rfl, by omega⟩
  · rw [w64 _ (by omega) (by omega)]
    split
    · exact ⟨-1, rfl, by omega⟩
    · exact ⟨_, rfl, by omega⟩
/-- What both hand back. -/
def appended (D P : ByteArray) (n : Int) (c r : ByteArray) : ByteArray × ByteArray × Int × Int :=
  if validL D P n = true ∧ good c r = true then (if n = 60 then (D, P, n, 2) else (D, P ++ recLine n c r, wrap64 (n + 1), 0)) else (D, P, n, 1)
theorem valid_count {D P : ByteArray} {n : Int} (h : validL D P n = true) : D.size + P.size ≤ 30000 ∧ 0 ≤ n ∧ n ≤ 60 := by
  have h1 := of_decide_eq_true h
  have h2 := (recs_le (D ++ P)).2
  omega
theorem recLine_size (n : Int) (h0 : -9223372036854775808 ≤ n) (h1 : n ≤ 9223372036854775807) (c r : ByteArray) (hc : c.size ≤ 1100000) (hr : r.size ≤ 1100000) : (recLine n c r).size ≤ 3000000 := by
  have hb := body_size n h0 h1 c r
  have hk := chk_num (body n c r)
  unfold recLine sealB nl
  simp only [ByteArray.size_append, one_size]
  omega
theorem spec_AppendRecord_ev (D P : ByteArray) (n : Int) (c r : ByteArray) (hs : D.size + P.size ≤ 2000000) (hc : c.size ≤ 1100000) (hr : r.size ≤ 1100000) : Ev (fun k => spec_AppendRecord.f k D P n c r) (appended D P n c r) := by
  unfold spec_AppendRecord.f
  refine Ev.bind (spec_l12Valid_ev D P n hs) ?_
  by_cases hv : validL D P n = true
  · refine Ev.pos hv (Ev.bind (spec_l12Record_ev c r hc hr) (Ev.shift ?_))
    unfold spec_AppendRecord.j0
    have hn := valid_count hv
    by_cases hg : good c r = true
    · refine Ev.neg (by simp [hg]) ?_
      unfold appended
      rw [if_pos ⟨hv, hg⟩]
      by_cases h60 : n = 60
      · rw [show (if n = 60 then (D, P, n, (2 : Int)) else (D, P ++ recLine n c r, wrap64 (n + 1), 0)) = (D, P, n, 2) from if_pos h60]
        exact Ev.pos h60 (Ev.const _)
      · rw [show (if n = 60 then (D, P, n, (2 : Int)) else (D, P ++ recLine n c r, wrap64 (n + 1), 0)) = (D, P ++ recLine n c r, wrap64 (n + 1), 0) from if_neg h60]
        have := recLine_size n (by omega) (by omega) c r (by omega) (by omega)
        exact Ev.neg h60 (Ev.bind (spec_l12Line_ev n (by omega) (by omega) c r hc hr) (Ev.pos (by omega) (Ev.const _)))
    · unfold appended
      rw [if_neg (fun h => hg h.2)]
      exact Ev.pos (by simp [hg]) (Ev.const _)
  · refine Ev.neg hv (Ev.shift ?_)
    unfold spec_AppendRecord.j0 appended
    rw [if_neg (fun h => hv h.1)]
    exact Ev.pos rfl (Ev.const _)
theorem impl_AppendRecord_ev (D P : ByteArray) (n : Int) (c r : ByteArray) (hs : D.size + P.size ≤ 2000000) (hc : c.size ≤ 1100000) (hr : r.size ≤ 1100000) : Ev (fun k => impl_AppendRecord.f k D P n c r) (appended D P n c r) := by
  unfold impl_AppendRecord.f
  refine Ev.bind (impl_IsValidLog_ev D P n hs) ?_
  by_cases hv : validL D P n = true
  · refine Ev.pos hv ?_
    rw [impl_IsValidRecord_eq c r hc hr]
    refine Ev.bind (Ev.const _) (Ev.shift ?_)
    unfold impl_AppendRecord.j0
    have hn := valid_count hv
    by_cases hg : good c r = true
    · refine Ev.neg (by simp [hg]) ?_
      unfold appended
      rw [if_pos ⟨hv, hg⟩]
      by_cases h60 : n = 60
      · rw [show (if n = 60 then (D, P, n, (2 : Int)) else (D, P ++ recLine n c r, wrap64 (n + 1), 0)) = (D, P, n, 2) from if_pos h60]
        exact Ev.pos h60 (Ev.const _)
      · rw [show (if n = 60 then (D, P, n, (2 : Int)) else (D, P ++ recLine n c r, wrap64 (n + 1), 0)) = (D, P ++ recLine n c r, wrap64 (n + 1), 0) from if_neg h60]
        have := recLine_size n (by omega) (by omega) c r (by omega) (by omega)
        have he := impl_EncodeRecord_ev n c r hc hr
        rw [if_pos ⟨hn.2.1, by omega, hg⟩] at he
        exact Ev.neg h60 (Ev.bind he (Ev.pos (by show P.size + (recLine n c r).size ≤ _; omega) (Ev.const _)))
    · unfold appended
      rw [if_neg (fun h => hg h.2)]
      exact Ev.pos (by simp [hg]) (Ev.const _)
  · refine Ev.neg hv (Ev.shift ?_)
    unfold impl_AppendRecord.j0 appended
    rw [if_neg (fun h => hv h.1)]
    exact Ev.pos rfl (Ev.const _)
/-- ████ THE PLAIN LAW OF AppendRecord ████ -/
theorem appendRecord (D P : ByteArray) (n : Int) (c r : ByteArray) (h0 : D.size ≤ 9223372036854775807) (h1 : P.size ≤ 9223372036854775807) (h2 : c.size ≤ 9223372036854775807) (h3 : r.size ≤ 9223372036854775807) : ∃ k, laws_FnExactAppendRecord.f k D P n c r = some true := by
  obtain ⟨m, hm, hb⟩ := szLog_eq D P n h0 h1
  unfold laws_FnExactAppendRecord.f laws_toLog.f laws_toLogRecord.f
  simp only [hm, Option.bind_some]
  by_cases hm0 : m < 0
  · exact ⟨0, if_pos hm0⟩
  simp only [if_neg hm0]
  have hs := hb hm0
  obtain ⟨m2, hm2, hb2⟩ := szLogRecord_eq c r m (by omega) (szLog_le D P n h0 h1 m hm) h2 h3
  simp only [hm2, Option.bind_some]
  by_cases hm20 : m2 < 0
  · exact ⟨0, if_pos hm20⟩
  simp only [if_neg hm20]
  have hs2 := hb2 hm20
  apply Ev.some
  refine Ev.bind (spec_AppendRecord_ev D P n c r (by omega) (by omega) (by omega)) (Ev.bind (impl_AppendRecord_ev D P n c r (by omega) (by omega) (by omega)) ?_)
  rw [eqLog_refl]
  exact Ev.bind (Ev.const _) (Ev.pos rfl (Ev.pos rfl (Ev.const _)))
end Go.Proofs.YtnbhbnndfpfikaaDoor.X
