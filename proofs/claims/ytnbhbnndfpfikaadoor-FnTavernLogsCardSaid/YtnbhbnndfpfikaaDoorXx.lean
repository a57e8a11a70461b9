/- FnTavernLogs' plain law: what its calls return, and what of it the law compares. -/
import Derived.Test.YtnbhbnndfpfikaaDoorXo
import Derived.Test.YtnbhbnndfpfikaaDoorXe
namespace Go.Proofs.YtnbhbnndfpfikaaDoor.X
open Go.RowKit Go.Proofs.YtnbhbnndfpfikaaDoorW.PrintWords Go.Proofs.YtnbhbnndfpfikaaDoorW.PrintLast Go.Proofs.YtnbhbnndfpfikaaDoorW.PrintMore
set_option linter.unusedVariables false
set_option linter.unusedSimpArgs false
theorem flipB_turned (s : ByteArray) : flipB s = turned s := rfl
theorem flip_bytes (s : ByteArray) (h : 0 < s.size) : bytesOf (flipB s) = flipNums (bytesOf s) := by
  unfold flipB
  refine strOf_bytes' _ (fun b hb => ?_)
  unfold flipNums at hb
  rcases List.mem_or_eq_of_mem_set hb with h1 | h1
  · exact byte_range s b h1
  · have hl := bytesOf_length s
    have hlt : (bytesOf s).length - 1 < (bytesOf s).length := by omega
    have hg : (bytesOf s).getD ((bytesOf s).length - 1) 0 = (bytesOf s)[(bytesOf s).length - 1] := by rw [List.getD_eq_getElem?_getD, List.getElem?_eq_getElem hlt]; rfl
    have := byte_range s _ (List.getElem_mem hlt)
    rw [h1, hg]; omega
theorem flip_app (D q : ByteArray) (h : 0 < q.size) : D ++ flipB q = flipB (D ++ q) := by
  have hs : (D ++ q).size = D.size + q.size := ByteArray.size_append
  apply bytesOf_inj
  rw [bytesOf_append, flip_bytes q h, flip_bytes (D ++ q) (by omega), bytesOf_append]
  unfold flipNums
  have hl := bytesOf_length q
  rw [List.length_append, show (bytesOf D).length + (bytesOf q).length - 1 = (bytesOf D).length + ((bytesOf q).length - 1) by omega, List.set_append_right _ _ (by omega), Nat.add_sub_cancel_left]
  congr 2
  rw [List.getD_eq_getElem?_getD, List.getD_eq_getElem?_getD, List.getElem?_append_right (by omega), Nat.add_sub_cancel_left]
def crashV (D P : ByteArray) (n keep : Int) (t : Bool) : ByteArray × Bool := if validL D P n = true ∧ 0 ≤ keep ∧ keep ≤ (P.size : Int) then (cutOf D P keep.toNat t, true) else ((⟨#[]⟩ : ByteArray), false)
theorem torn_eq (t : Bool) (keep : Int) (h : 0 ≤ keep) : torn_ t keep = (t && decide (0 < keep.toNat)) := by
  unfold torn_
  congr 1
  rw [decide_eq_decide]
  omega
theorem impl_CrashLog_ev (D P : ByteArray) (n keep : Int) (t : Bool) (hs : D.size + P.size ≤ 1000000) : Ev (fun k => impl_CrashLog.f k D P n keep t) (crashV D P n keep t) := by
  unfold impl_CrashLog.f
  refine Ev.pos (by omega) (Ev.bind (impl_IsValidLog_ev D P n (by omega)) ?_)
  by_cases hv : validL D P n = true
  · refine Ev.pos hv ?_
    by_cases hk : 0 ≤ keep ∧ keep ≤ (P.size : Int)
    · refine Ev.pos hk ?_
      rw [show crashV D P n keep t = (cutOf D P keep.toNat t, true) from if_pos ⟨hv, hk.1, hk.2⟩, torn_eq t keep hk.1]
      by_cases ht : (t && decide (0 < keep.toNat)) = true
      · refine Ev.pos ht ?_
        rw [show cutOf D P keep.toNat t = turned (D ++ P.extract 0 keep.toNat) from if_pos ht, ← flipB_turned]
        exact Ev.const _
      · refine Ev.neg ht ?_
        rw [show cutOf D P keep.toNat t = D ++ P.extract 0 keep.toNat from if_neg ht]
        exact Ev.const _
    · rw [show crashV D P n keep t = ((⟨#[]⟩ : ByteArray), false) from if_neg (fun h => hk h.2)]
      exact Ev.neg hk (Ev.const _)
  · rw [show crashV D P n keep t = ((⟨#[]⟩ : ByteArray), false) from if_neg (fun h => hv h.1)]
    exact Ev.neg hv (Ev.const _)
theorem spec_CrashLog_ev (D P : ByteArray) (n keep : Int) (t : Bool) (hs : D.size + P.size ≤ 1000000) : Ev (fun k => spec_CrashLog.f k D P n keep t) (crashV D P n keep t) := by
  unfold spec_CrashLog.f
  refine Ev.pos (by omega) (Ev.bind (spec_l12Valid_ev D P n (by omega)) ?_)
  by_cases hv : validL D P n = true
  · refine Ev.pos hv ?_
    by_cases hk : 0 ≤ keep ∧ keep ≤ (P.size : Int)
    · refine Ev.pos hk ?_
      rw [show crashV D P n keep t = (cutOf D P keep.toNat t, true) from if_pos ⟨hv, hk.1, hk.2⟩, torn_eq t keep hk.1]
      by_cases ht : (t && decide (0 < keep.toNat)) = true
      · refine Ev.pos ht ?_
        have h0 : 0 < keep.toNat := by simp at ht; omega
        have hq : 0 < (P.extract 0 keep.toNat).size := by rw [ByteArray.size_extract]; omega
        rw [show cutOf D P keep.toNat t = turned (D ++ P.extract 0 keep.toNat) from if_pos ht, ← flipB_turned, ← flip_app D _ hq]
        exact Ev.const _
      · refine Ev.neg ht ?_
        rw [show cutOf D P keep.toNat t = D ++ P.extract 0 keep.toNat from if_neg ht]
        exact Ev.const _
    · rw [show crashV D P n keep t = ((⟨#[]⟩ : ByteArray), false) from if_neg (fun h => hk h.2)]
      exact Ev.neg hk (Ev.const _)
  · rw [show crashV D P n keep t = ((⟨#[]⟩ : ByteArray), false) from if_neg (fun h => hv h.1)]
    exact Ev.neg hv (Ev.const _)
def encodeV (n : Int) (c r : ByteArray) : ByteArray × Bool := if 0 ≤ n ∧ n ≤ 59 ∧ good c r = true then (recLine n c r, true) else ((⟨#[]⟩ : ByteArray), false)
theorem spec_EncodeRecord_ev (n : Int) (c r : ByteArray) (hc : c.size ≤ 1100000) (hr : r.size ≤ 1100000) : Ev (fun k => spec_EncodeRecord.f k n c r) (encodeV n c r) := by
  unfold spec_EncodeRecord.f
  rw [in_eq]
  refine Ev.bind (Ev.const _) ?_
  by_cases h : 0 ≤ n ∧ n ≤ 59
  · refine Ev.pos (qE h) (Ev.bind (spec_l12Record_ev c r hc hr) ?_)
    by_cases hg : good c r = true
    · rw [show encodeV n c r = (recLine n c r, true) from if_pos ⟨h.1, h.2, hg⟩]
      exact Ev.pos hg (Ev.bind (spec_l12Line_ev n (by omega) (by omega) c r hc hr) (Ev.const _))
    · rw [show encodeV n c r = ((⟨#[]⟩ : ByteArray), false) from if_neg (fun hh => hg hh.2.2)]
      exact Ev.neg hg (Ev.const _)
  · rw [show encodeV n c r = ((⟨#[]⟩ : ByteArray), false) from if_neg (fun hh => h ⟨hh.1, hh.2.1⟩)]
    exact Ev.neg (by simpa using h) (Ev.const _)
theorem impl_EncodeRecord_ev' (n : Int) (c r : ByteArray) (hc : c.size ≤ 1100000) (hr : r.size ≤ 1100000) : Ev (fun k => impl_EncodeRecord.f k n c r) (encodeV n c r) := by
  unfold encodeV
  exact impl_EncodeRecord_ev n c r hc hr
theorem spec_IsValidRecord_ev (c r : ByteArray) (hc : c.size ≤ 1100000) (hr : r.size ≤ 1100000) : Ev (fun k => spec_IsValidRecord.f k c r) (good c r) := by
  unfold spec_IsValidRecord.f
  exact Ev.bind (spec_l12Record_ev c r hc hr) (Ev.const _)
theorem recover_facts {s a b : ByteArray} {n e : Int} (h : recoverV s = (a, b, n, e, true)) : s.size ≤ 30000 ∧ b = ⟨#[]⟩ ∧ validL a b n = true ∧ 0 ≤ e ∧ e ≤ (s.size : Int) ∧ s.extract 0 e.toNat = a ∧ recs (a ++ b) = recs s ∧ a.size = endOf s := by
  unfold recoverV at h
  split at h
  · rename_i hs
    simp only [Prod.mk.injEq] at h
    obtain ⟨rfl, rfl, rfl, rfl, -⟩ := h
    obtain ⟨h1, h2, h3⟩ := recovered s hs
    exact ⟨hs, rfl, h3, by omega, by omega, by rw [Int.toNat_natCast], by rw [app_nil, h2], by rw [ByteArray.size_extract]; omega⟩
  · simp at h
theorem crash_facts {D P z : ByteArray} {n keep : Int} {t : Bool} (h : crashV D P n keep t = (z, true)) :
    validL D P n = true ∧ z.size ≤ 30000 ∧ (∃ j, recs z = (recs (D ++ P)).take j) ∧ D.size ≤ endOf z := by
  unfold crashV at h
  split at h
  · rename_i hc
    have hz := (Prod.mk.inj h).1
    subst hz
    obtain ⟨h1, h2, h3, h4⟩ := valid_iff hc.1
    obtain ⟨j, h5, h6, h7⟩ := cut_end D P h2 h3 keep.toNat (by omega) t
    refine ⟨hc.1, ?_, ⟨j, h5⟩, h6⟩
    have hs : (D ++ P.extract 0 keep.toNat).size ≤ D.size + P.size := by rw [ByteArray.size_append, ByteArray.size_extract]; omega
    unfold cutOf
    split
    · rw [← flipB_turned, flipB_size]; omega
    · omega
  · simp at h
theorem recorded_yes {D P : ByteArray} {n : Int} (h : validL D P n = true) : recorded D P n = (recs (D ++ P), true) := if_pos h
theorem recorded_snd (D P : ByteArray) (n : Int) : (recorded D P n).2 = validL D P n := by
  unfold recorded
  by_cases h : validL D P n = true
  · rw [if_pos h, h]
  · rw [if_neg h]; exact (Bool.eq_false_iff.mpr h).symm
theorem recover_small {s : ByteArray} (h : s.size ≤ 30000) : recoverV s = (s.extract 0 (endOf s), ⟨#[]⟩, ((recs s).length : Int), (endOf s : Int), true) := if_pos h
end Go.Proofs.YtnbhbnndfpfikaaDoor.X
