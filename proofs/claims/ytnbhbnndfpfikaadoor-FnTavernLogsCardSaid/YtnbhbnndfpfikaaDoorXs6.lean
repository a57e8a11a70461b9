/- What SyncLog, LogRecords and AppendRecord return, both sides alike. -/
import Derived.Test.YtnbhbnndfpfikaaDoorXs
import Derived.Test.YtnbhbnndfpfikaaDoorY6
import Derived.Test.YtnbhbnndfpfikaaDoorY8
import Derived.Test.YtnbhbnndfpfikaaDoorY9
namespace Go.Proofs.YtnbhbnndfpfikaaDoor.X
open Go.RowKit Go.Proofs.YtnbhbnndfpfikaaDoorW.PrintWords Go.Proofs.YtnbhbnndfpfikaaDoorW.PrintLast Go.Proofs.YtnbhbnndfpfikaaDoorW.PrintMore
set_option linter.unusedVariables false
set_option linter.unusedSimpArgs false
theorem spec_SyncLog_ev (D P : ByteArray) (c : Int) (hs : D.size + P.size ≤ 2000000) : Ev (fun k => spec_SyncLog.f k D P c) (if validL D P c = true then (D ++ P, (⟨#[]⟩ : ByteArray), c, true) else ((⟨#[]⟩ : ByteArray), (⟨#[]⟩ : ByteArray), 0, false)) := by
  unfold spec_SyncLog.f
  refine Ev.bind (spec_l12Valid_ev D P c hs) ?_
  by_cases h : validL D P c = true
  · rw [show (if validL D P c = true then (D ++ P, (⟨#[]⟩ : ByteArray), c, true) else ((⟨#[]⟩ : ByteArray), (⟨#[]⟩ : ByteArray), (0 : Int), false)) = (D ++ P, (⟨#[]⟩ : ByteArray), c, true) from if_pos h]; exact Ev.pos h (Ev.pos (by omega) (Ev.const _))
  · rw [show (if validL D P c = true then (D ++ P, (⟨#[]⟩ : ByteArray), c, true) else ((⟨#[]⟩ : ByteArray), (⟨#[]⟩ : ByteArray), (0 : Int), false)) = ((⟨#[]⟩ : ByteArray), (⟨#[]⟩ : ByteArray), (0 : Int), false) from if_neg h]; exact Ev.neg h (Ev.const _)
theorem impl_SyncLog_ev (D P : ByteArray) (c : Int) (hs : D.size + P.size ≤ 2000000) : Ev (fun k => impl_SyncLog.f k D P c) (if validL D P c = true then (D ++ P, (⟨#[]⟩ : ByteArray), c, true) else ((⟨#[]⟩ : ByteArray), (⟨#[]⟩ : ByteArray), 0, false)) := by
  unfold impl_SyncLog.f
  refine Ev.bind (impl_IsValidLog_ev D P c hs) ?_
  by_cases h : validL D P c = true
  · rw [show (if validL D P c = true then (D ++ P, (⟨#[]⟩ : ByteArray), c, true) else ((⟨#[]⟩ : ByteArray), (⟨#[]⟩ : ByteArray), (0 : Int), false)) = (D ++ P, (⟨#[]⟩ : ByteArray), c, true) from if_pos h]; exact Ev.pos h (Ev.pos (by omega) (Ev.const _))
  · rw [show (if validL D P c = true then (D ++ P, (⟨#[]⟩ : ByteArray), c, true) else ((⟨#[]⟩ : ByteArray), (⟨#[]⟩ : ByteArray), (0 : Int), false)) = ((⟨#[]⟩ : ByteArray), (⟨#[]⟩ : ByteArray), (0 : Int), false) from if_neg h]; exact Ev.neg h (Ev.const _)
def recorded (D P : ByteArray) (c : Int) : List S × Bool := if validL D P c = true then (recs (D ++ P), true) else ([], false)
theorem recorded_le (D P : ByteArray) (c : Int) : (recorded D P c).1.length ≤ 60 := by
  unfold recorded
  split
  · exact (recs_le _).2
  · exact Nat.zero_le _
theorem spec_LogRecords_ev (D P : ByteArray) (c : Int) (hs : D.size + P.size ≤ 2000000) : Ev (fun k => spec_LogRecords.f k D P c) (recorded D P c) := by
  unfold spec_LogRecords.f
  refine Ev.bind (spec_l12Valid_ev D P c hs) ?_
  unfold recorded
  by_cases h : validL D P c = true
  · rw [show (if validL D P c = true then (recs (D ++ P), true) else ([], false)) = (recs (D ++ P), true) from if_pos h]
    have h0 := (qF h).1
    exact Ev.pos h (Ev.pos (by omega) (Ev.bind (spec_l12Open_ev (D ++ P) (by rw [ByteArray.size_append]; omega)) (Ev.const _)))
  · rw [show (if validL D P c = true then (recs (D ++ P), true) else ([], false)) = (([] : List S), false) from if_neg h]
    exact Ev.neg h (Ev.const _)
theorem impl_LogRecords_ev (D P : ByteArray) (c : Int) (hs : D.size + P.size ≤ 2000000) : Ev (fun k => impl_LogRecords.f k D P c) (recorded D P c) := by
  unfold impl_LogRecords.f
  obtain ⟨l, hl, he⟩ := impl_readLog_ev D P c hs
  refine Ev.bind hl ?_
  unfold recorded
  by_cases h : validL D P c = true
  · rw [show (if validL D P c = true then (recs (D ++ P), true) else ([], false)) = (recs (D ++ P), true) from if_pos h, ← he h]
    exact Ev.pos h (Ev.const _)
  · rw [show (if validL D P c = true then (recs (D ++ P), true) else ([], false)) = (([] : List S), false) from if_neg h]
    exact Ev.neg h (Ev.const _)
def appended (D P : ByteArray) (n : Int) (c r : ByteArray) : ByteArray × ByteArray × Int × Int :=
  if validL D P n = true ∧ good c r = true then (if n = 60 then (D, P, n, 2) else (D, P ++ recLine n c r, wrap64 (n + 1), 0)) else (D, P, n, 1)
theorem valid_count {D P : ByteArray} {n : Int} (h : validL D P n = true) : D.size + P.size ≤ 30000 ∧ 0 ≤ n ∧ n ≤ 60 := by
  have h1 := qF h
  have h2 := (recs_le (D ++ P)).2
  omega
theorem recLine_size (n : Int) (h0 : -9223372036854775808 ≤ n) (h1 : n ≤ 9223372036854775807) (c r : ByteArray) (hc : c.size ≤ 1100000) (hr : r.size ≤ 1100000) : (recLine n c r).size ≤ 3000000 := by
  have hb := body_size n h0 h1 c r
  have hk := chk_num (body n c r)
  unfold recLine sealB nl
  simp only [ByteArray.size_append, one_size]
  omega
theorem spec_AppendRecord_ev (D P : ByteArray) (n : Int) (c r : ByteArray) (hs : D.size + P.size ≤ 2000000) (hc : c.size ≤ 1100000) (hr : r.size ≤ 1100000) : Ev (fun k => spec_AppendRecord.f k D P n c r) (appended D P n c r) := by
  unfold spec_AppendRecord.f
  refine Ev.bind (spec_l12Valid_ev D P n hs) ?_
  by_cases hv : validL D P n = true
  · refine Ev.pos hv (Ev.bind (spec_l12Record_ev c r hc hr) (Ev.shift ?_))
    unfold spec_AppendRecord.j0
    have hn := valid_count hv
    by_cases hg : good c r = true
    · refine Ev.neg (by simp [hg]) ?_
      unfold appended
      rw [if_pos ⟨hv, hg⟩]
      by_cases h60 : n = 60
      · rw [show (if n = 60 then (D, P, n, (2 : Int)) else (D, P ++ recLine n c r, wrap64 (n + 1), 0)) = (D, P, n, 2) from if_pos h60]
        exact Ev.pos h60 (Ev.const _)
      · rw [show (if n = 60 then (D, P, n, (2 : Int)) else (D, P ++ recLine n c r, wrap64 (n + 1), 0)) = (D, P ++ recLine n c r, wrap64 (n + 1), 0) from if_neg h60]
        have := recLine_size n (by omega) (by omega) c r (by omega) (by omega)
        exact Ev.neg h60 (Ev.bind (spec_l12Line_ev n (by omega) (by omega) c r hc hr) (Ev.pos (by omega) (Ev.const _)))
    · unfold appended
      rw [if_neg (fun h => hg h.2)]
      exact Ev.pos (by simp [hg]) (Ev.const _)
  · refine Ev.neg hv (Ev.shift ?_)
    unfold spec_AppendRecord.j0 appended
    rw [if_neg (fun h => hv h.1)]
    exact Ev.pos rfl (Ev.const _)
theorem impl_AppendRecord_ev (D P : ByteArray) (n : Int) (c r : ByteArray) (hs : D.size + P.size ≤ 2000000) (hc : c.size ≤ 1100000) (hr : r.size ≤ 1100000) : Ev (fun k => impl_AppendRecord.f k D P n c r) (appended D P n c r) := by
  unfold impl_AppendRecord.f
  refine Ev.bind (impl_IsValidLog_ev D P n hs) ?_
  by_cases hv : validL D P n = true
  · refine Ev.pos hv ?_
    rw [impl_IsValidRecord_eq c r hc hr]
    refine Ev.bind (Ev.const _) (Ev.shift ?_)
    unfold impl_AppendRecord.j0
    have hn := valid_count hv
    by_cases hg : good c r = true
    · refine Ev.neg (by simp [hg]) ?_
      unfold appended
      rw [if_pos ⟨hv, hg⟩]
      by_cases h60 : n = 60
      · rw [show (if n = 60 then (D, P, n, (2 : Int)) else (D, P ++ recLine n c r, wrap64 (n + 1), 0)) = (D, P, n, 2) from if_pos h60]
        exact Ev.pos h60 (Ev.const _)
      · rw [show (if n = 60 then (D, P, n, (2 : Int)) else (D, P ++ recLine n c r, wrap64 (n + 1), 0)) = (D, P ++ recLine n c r, wrap64 (n + 1), 0) from if_neg h60]
        have := recLine_size n (by omega) (by omega) c r (by omega) (by omega)
        have he := impl_EncodeRecord_ev n c r hc hr
        rw [if_pos ⟨hn.2.1, by omega, hg⟩] at he
        exact Ev.neg h60 (Ev.bind he (Ev.pos (by show P.size + (recLine n c r).size ≤ _; omega) (Ev.const _)))
    · unfold appended
      rw [if_neg (fun h => hg h.2)]
      exact Ev.pos (by simp [hg]) (Ev.const _)
  · refine Ev.neg hv (Ev.shift ?_)
    unfold impl_AppendRecord.j0 appended
    rw [if_neg (fun h => hv h.1)]
    exact Ev.pos rfl (Ev.const _)
end Go.Proofs.YtnbhbnndfpfikaaDoor.X
