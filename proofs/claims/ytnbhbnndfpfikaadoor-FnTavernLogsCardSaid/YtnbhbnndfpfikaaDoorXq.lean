/- The log's plain laws, 2: records and their lines; both decoders. -/
import Derived.Test.YtnbhbnndfpfikaaDoorXp
namespace Go.Proofs.YtnbhbnndfpfikaaDoor.X
open Go.RowKit Go.Proofs.YtnbhbnndfpfikaaDoorW.PrintWords Go.Proofs.YtnbhbnndfpfikaaDoorW.PrintLast Go.Proofs.YtnbhbnndfpfikaaDoorW.PrintMore
set_option linter.unusedVariables false
set_option linter.unusedSimpArgs false
def nl : ByteArray := ⟨#[10]⟩
def body (n : Int) (c r : ByteArray) : ByteArray := (((numB n ++ ⟨#[32]⟩) ++ c) ++ ⟨#[64]⟩) ++ r
def sealB (t : ByteArray) : ByteArray := (t ++ ⟨#[35]⟩) ++ numB (chk t)
def recLine (n : Int) (c r : ByteArray) : ByteArray := sealB (body n c r) ++ nl
def good (c r : ByteArray) : Bool := decide (c.size ≠ 0) && decide (c.size ≤ 160) && printed c && !decide ((64 : Int) ∈ bytesOf c) && decide (r.size ≤ 250) && printed r
theorem good_iff (c r : ByteArray) : good c r = true ↔ c.size ≠ 0 ∧ c.size ≤ 160 ∧ printed c = true ∧ (64 : Int) ∉ bytesOf c ∧ r.size ≤ 250 ∧ printed r = true := by
  simp [good, and_assoc]
theorem size_nil (c : ByteArray) : c.toList = ([] : List UInt8) ↔ c.size = 0 := by
  rw [toList_data, ← data_length, List.length_eq_zero_iff]
theorem spec_l12Record_ev (c r : ByteArray) (hc : c.size ≤ 1100000) (hr : r.size ≤ 1100000) : Ev (fun k => spec_l12Record.f k c r) (good c r) := by
  unfold spec_l12Record.f
  by_cases h0 : c.size = 0
  · refine Ev.pos ((size_nil c).2 h0) ?_
    rw [show good c r = false by simp [good, h0]]
    exact Ev.const _
  · refine Ev.neg (fun h => h0 ((size_nil c).1 h)) ?_
    refine Ev.bind (spec_l12Bytes_ev c 160 (by omega)) ?_
    by_cases h1 : (printed c && decide ((c.size : Int) ≤ 160)) = true
    · refine Ev.pos h1 ?_
      refine Ev.bind (spec_l1Stands_ev c 64 (by omega)) ?_
      by_cases h2 : (64 : Int) ∈ bytesOf c
      · refine Ev.pos (qE h2) ?_
        rw [show good c r = false by simp [good, h2]]
        exact Ev.const _
      · refine Ev.neg (by simpa using h2) ?_
        refine Ev.bind (spec_l12Bytes_ev r 250 (by omega)) ?_
        have e : good c r = (printed r && decide ((r.size : Int) ≤ 250)) := by
          simp only [Bool.and_eq_true, decide_eq_true_eq] at h1
          rw [Bool.eq_iff_iff, good_iff]
          simp only [Bool.and_eq_true, decide_eq_true_eq]
          exact ⟨fun h => ⟨h.2.2.2.2.2, by omega⟩, fun h => ⟨h0, by omega, h1.1, h2, by omega, h.1⟩⟩
        rw [e]
        exact Ev.const _
    · refine Ev.neg h1 ?_
      have e : good c r = false := by
        rw [Bool.eq_false_iff]
        intro h
        have := (good_iff c r).1 h
        exact h1 (by simp only [Bool.and_eq_true, decide_eq_true_eq]; exact ⟨this.2.2.1, by omega⟩)
      rw [e]; exact Ev.const _
theorem within_eq (a b c : Int) : impl_within.f a b c = some (decide (b ≤ a ∧ a ≤ c)) := by
  unfold impl_within.f
  split
  · rename_i h; simp [h]
  · rename_i h; simp [h]
theorem impl_IsValidRecord_eq (c r : ByteArray) (hc : c.size ≤ 1100000) (hr : r.size ≤ 1100000) : impl_IsValidRecord.f c r = some (good c r) := by
  unfold impl_IsValidRecord.f impl_isCommand.f impl_isPrinted.f strings_Contains.f
  simp only [within_eq, Option.bind_some, if_pos (show c.size ≤ 9223372036854775807 by omega), if_pos (show r.size ≤ 9223372036854775807 by omega), if_pos (show (⟨#[64]⟩ : ByteArray).size = 1 from rfl)]
  have e64 : hasByte c ((⟨#[64]⟩ : ByteArray).data.toList.headD 0) = decide ((64 : Int) ∈ bytesOf c) := hasByte_mem c 64
  rw [e64]
  by_cases h1 : 1 ≤ (c.size : Int) ∧ (c.size : Int) ≤ 160
  · rw [if_pos (qE h1)]
    by_cases h2 : printed c = true
    · rw [if_pos h2]
      by_cases h3 : (64 : Int) ∈ bytesOf c
      · simp [h3, good]
      · by_cases h4 : (r.size : Int) ≤ 250
        · simp only [h3, Option.bind_some, decide_false, Bool.not_false, if_true, if_pos h4]
          congr 1
          rw [Bool.eq_iff_iff, good_iff]
          exact ⟨fun h => ⟨by omega, by omega, h2, h3, by omega, h⟩, fun h => h.2.2.2.2.2⟩
        · simp only [h3, Option.bind_some, decide_false, Bool.not_false, if_true, if_neg h4]
          congr 1
          symm
          rw [Bool.eq_false_iff]
          intro h
          have := (good_iff c r).1 h
          omega
    · have e : good c r = false := by simp [good, h2]
      rw [e]; simp [h2]
  · have e : good c r = false := by
      rw [Bool.eq_false_iff]
      intro h
      have := (good_iff c r).1 h
      omega
    rw [e]; simp [h1]
theorem printed_iff (s : ByteArray) : printed s = true ↔ ∀ b ∈ bytesOf s, 32 ≤ b ∧ b ≤ 126 ∧ b ≠ 35 := by
  unfold printed
  rw [List.all_eq_true]
  constructor
  · intro h b hb
    have := h b hb
    simp [bprint] at this
    exact ⟨this.1.1, this.1.2, this.2⟩
  · intro h b hb
    have := h b hb
    simp [bprint, this.1, this.2.1, this.2.2]
theorem numB_digits (n : Int) (h0 : 0 ≤ n) (h1 : n < 100) : ∀ b ∈ bytesOf (numB n), 48 ≤ b ∧ b ≤ 57 := by
  have small : ∀ m : Int, 0 ≤ m → m < 10 → ∀ b ∈ (Lib.itoa m).map (fun b => (b.toNat : Int)), 48 ≤ b ∧ b ≤ 57 := by
    intro m m0 m1 b hb
    rw [itoa_small m m0 m1] at hb
    simp at hb
    omega
  intro b hb
  unfold bytesOf at hb
  rw [numB_data] at hb
  by_cases h : n < 10
  · exact small n h0 h b hb
  · rw [itoa_big n (by omega), List.map_append, List.mem_append] at hb
    rcases hb with hb | hb
    · exact small _ (by omega) (by omega) b hb
    · exact small _ (by omega) (by omega) b hb
theorem bytesOf_one (b : UInt8) : bytesOf (⟨#[b]⟩ : ByteArray) = [(b.toNat : Int)] := rfl
theorem body_no35 (n : Int) (h0 : 0 ≤ n) (h1 : n < 100) (c r : ByteArray) (h : good c r = true) : (35 : Int) ∉ bytesOf (body n c r) := by
  have hg := (good_iff c r).1 h
  intro hm
  unfold body at hm
  simp only [bytesOf_append, List.mem_append, bytesOf_one] at hm
  rcases hm with (((hm | hm) | hm) | hm) | hm
  · have := numB_digits n h0 h1 _ hm; omega
  · simp at hm
  · exact ((printed_iff c).1 hg.2.2.1 _ hm).2.2 rfl
  · simp at hm
  · exact ((printed_iff r).1 hg.2.2.2.2.2 _ hm).2.2 rfl
theorem body_size (n : Int) (h0 : -9223372036854775808 ≤ n) (h1 : n ≤ 9223372036854775807) (c r : ByteArray) : (body n c r).size ≤ 22 + c.size + r.size := by
  have := numB_size n h0 h1
  unfold body
  simp only [ByteArray.size_append]
  have e1 : (⟨#[32]⟩ : ByteArray).size = 1 := rfl
  have e2 : (⟨#[64]⟩ : ByteArray).size = 1 := rfl
  omega
theorem one_size (b : UInt8) : (⟨#[b]⟩ : ByteArray).size = 1 := rfl
theorem spec_l1Num_eq (n : Int) (h0 : -9223372036854775808 ≤ n) (h1 : n ≤ 9223372036854775807) : spec_l1Num.f n = some (numB n) := by unfold spec_l1Num.f; rw [if_pos h0, if_pos h1]
theorem strconv_Itoa_eq (n : Int) (h0 : -9223372036854775808 ≤ n) (h1 : n ≤ 9223372036854775807) : strconv_Itoa.f n = some (numB n) := by unfold strconv_Itoa.f; rw [if_pos h0, if_pos h1]
theorem chk_num (t : ByteArray) : (numB (chk t)).size ≤ 20 := numB_size _ (by have := chk_range t; omega) (by have := chk_range t; omega)
theorem spec_l1Seal_ev (t : ByteArray) (ht : t.size ≤ 100000000) : Ev (fun k => spec_l1Seal.f k t) (sealB t) := by
  unfold spec_l1Seal.f
  have hr := chk_range t
  have hn := chk_num t
  refine Ev.pos (by omega) (Ev.bind (spec_l1Sum_ev t (by omega)) ?_)
  rw [spec_l1Num_eq _ (by omega) (by omega)]
  refine Ev.bind (Ev.const _) (Ev.pos (by omega) ?_)
  exact Ev.const _
theorem spec_l12Line_ev (n : Int) (h0 : -9223372036854775808 ≤ n) (h1 : n ≤ 9223372036854775807) (c r : ByteArray) (hc : c.size ≤ 1100000) (hr : r.size ≤ 1100000) : Ev (fun k => spec_l12Line.f k n c r) (recLine n c r) := by
  unfold spec_l12Line.f
  have hn := numB_size n h0 h1
  have hb := body_size n h0 h1 c r
  have hk := chk_num (body n c r)
  rw [spec_l1Num_eq n h0 h1]
  refine Ev.bind (Ev.const _) (Ev.pos (by omega) (Ev.pos (by omega) (Ev.pos (by omega) (Ev.pos (by omega) ?_))))
  refine Ev.bind (spec_l1Seal_ev (body n c r) (by omega)) (Ev.pos ?_ (Ev.const _))
  unfold sealB
  simp only [ByteArray.size_append, one_size]
  omega
theorem impl_AppendChecksum_ev (t : ByteArray) (ht : t.size ≤ 3900) (hno : (35 : Int) ∉ bytesOf t) : Ev (fun k => impl_AppendChecksum.f k t) (sealB t, true) := by
  unfold impl_AppendChecksum.f strings_Contains.f
  have e35 : hasByte t ((⟨#[35]⟩ : ByteArray).data.toList.headD 0) = false := by rw [show hasByte t ((⟨#[35]⟩ : ByteArray).data.toList.headD 0) = decide ((35 : Int) ∈ bytesOf t) from hasByte_mem t 35]; simpa using hno
  refine Ev.neg (by omega) ?_
  rw [if_pos (one_size 35), e35]
  refine Ev.bind (Ev.const _) (Ev.shift ?_)
  unfold impl_AppendChecksum.j0
  have hr := chk_range t
  have hn := chk_num t
  refine Ev.neg (by decide) (Ev.pos (by omega) (Ev.bind (impl_checksum_ev t (by omega)) ?_))
  rw [strconv_Itoa_eq _ (by omega) (by omega)]
  exact Ev.bind (Ev.const _) (Ev.pos (by omega) (Ev.neg (by omega) (Ev.const _)))
theorem impl_EncodeRecord_ev (n : Int) (c r : ByteArray) (hc : c.size ≤ 1100000) (hr : r.size ≤ 1100000) :
    Ev (fun k => impl_EncodeRecord.f k n c r) (if 0 ≤ n ∧ n ≤ 59 ∧ good c r = true then (recLine n c r, true) else ((⟨#[]⟩ : ByteArray), false)) := by
  unfold impl_EncodeRecord.f
  rw [within_eq, impl_IsValidRecord_eq c r hc hr]
  refine Ev.bind (Ev.const _) ?_
  by_cases hn : 0 ≤ n ∧ n ≤ 59
  · refine Ev.pos (qE hn) (Ev.bind (Ev.const _) (Ev.shift ?_))
    unfold impl_EncodeRecord.j0
    by_cases hg : good c r = true
    · rw [if_pos ⟨hn.1, hn.2, hg⟩]
      refine Ev.neg (by simp [hg]) ?_
      have hs := numB_size n (by omega) (by omega)
      have hb := body_size n (by omega) (by omega) c r
      have hk := chk_num (body n c r)
      have hgg := (good_iff c r).1 hg
      rw [strconv_Itoa_eq n (by omega) (by omega)]
      refine Ev.bind (Ev.const _) (Ev.pos (by omega) (Ev.pos (by omega) (Ev.pos (by omega) (Ev.pos (by omega) ?_))))
      refine Ev.bind (impl_AppendChecksum_ev (body n c r) (by omega) (body_no35 n hn.1 (by omega) c r hg)) (Ev.pos rfl (Ev.pos ?_ (Ev.const _)))
      show (sealB (body n c r)).size + 1 ≤ _
      unfold sealB
      simp only [ByteArray.size_append, one_size]
      omega
    · rw [if_neg (fun h => hg h.2.2)]
      exact Ev.pos (by simp [hg]) (Ev.const _)
  · refine Ev.neg (by simpa using hn) (Ev.shift ?_)
    unfold impl_EncodeRecord.j0
    rw [if_neg (fun h => hn ⟨h.1, h.2.1⟩)]
    exact Ev.pos rfl (Ev.const _)
def partC (x : ByteArray) : ByteArray := (cutB (cutB (cutB x 35).1 32).2.1 64).1
def partR (x : ByteArray) : ByteArray := (cutB (cutB (cutB x 35).1 32).2.1 64).2.1
theorem part_sizes (x : ByteArray) : (partC x).size ≤ x.size ∧ (partR x).size ≤ x.size := by
  have h1 := cutB_size x 35
  have h2 := cutB_size (cutB x 35).1 32
  have h3 := cutB_size (cutB (cutB x 35).1 32).2.1 64
  unfold partC partR
  omega
theorem parts_of (n : Int) (h0 : 0 ≤ n) (h1 : n < 100) (c r z : ByteArray) (hg : good c r = true) : partC ((body n c r ++ ⟨#[35]⟩) ++ z) = c ∧ partR ((body n c r ++ ⟨#[35]⟩) ++ z) = r := by
  have e1 : cutB ((body n c r ++ ⟨#[35]⟩) ++ z) 35 = (body n c r, z, true) := cutB_hit rfl (body_no35 n h0 h1 c r hg)
  have e2 : cutB (body n c r) 32 = (numB n, (c ++ ⟨#[64]⟩) ++ r, true) := by
    refine cutB_hit (b := 32) (by unfold body; simp only [app_assoc]) ?_
    intro hm
    have := numB_digits n h0 h1 _ hm
    revert this; decide
  have e3 : cutB ((c ++ ⟨#[64]⟩) ++ r) 64 = (c, r, true) := cutB_hit rfl ((good_iff c r).1 hg).2.2.2.1
  unfold partC partR
  rw [e1]; dsimp only
  rw [e2]; dsimp only
  rw [e3]
  exact ⟨rfl, rfl⟩
theorem recLine_parts (n : Int) (h0 : 0 ≤ n) (h1 : n < 100) (c r x : ByteArray) (hg : good c r = true) (e : recLine n c r = x) : partC x = c ∧ partR x = r := by
  subst e
  unfold recLine sealB
  rw [app_assoc]
  exact parts_of n h0 h1 c r _ hg
theorem cut_eq (s : ByteArray) (b : UInt8) (hs : s.size ≤ 1100000) : strings_Cut.f s ⟨#[b]⟩ = some (cutB s b) := by
  unfold strings_Cut.f
  rw [if_pos (one_size b), if_pos (by omega)]
  rfl
theorem impl_decode_ev (n : Int) (x : ByteArray) (hx : x.size ≤ 1100000) :
    Ev (fun k => impl_decode.f k n x) (partC x, partR x, decide (0 ≤ n ∧ n ≤ 59 ∧ good (partC x) (partR x) = true ∧ recLine n (partC x) (partR x) = x)) := by
  unfold impl_decode.f
  have h1 := cutB_size x 35
  have h2 := cutB_size (cutB x 35).1 32
  have h3 := part_sizes x
  rw [cut_eq x 35 hx]
  refine Ev.bind (Ev.const _) ?_
  try dsimp only
  rw [cut_eq _ 32 (by omega)]
  refine Ev.bind (Ev.const _) ?_
  try dsimp only
  rw [cut_eq _ 64 (by omega)]
  refine Ev.bind (Ev.const _) ?_
  refine Ev.bind (impl_EncodeRecord_ev n (partC x) (partR x) (by omega) (by omega)) ?_
  by_cases hn : 0 ≤ n ∧ n ≤ 59 ∧ good (partC x) (partR x) = true
  · rw [if_pos hn]
    refine Ev.pos rfl ?_
    have e : decide (0 ≤ n ∧ n ≤ 59 ∧ good (partC x) (partR x) = true ∧ recLine n (partC x) (partR x) = x) = ((recLine n (partC x) (partR x)).toList == x.toList) := by
      rw [toList_beq, decide_eq_decide]
      exact ⟨fun h => h.2.2.2, fun h => ⟨hn.1, hn.2.1, hn.2.2, h⟩⟩
    rw [e]
    exact Ev.const _
  · rw [if_neg hn]
    refine Ev.neg (by decide) ?_
    rw [qG (fun h => hn ⟨h.1, h.2.1, h.2.2.1⟩)]
    exact Ev.const _
set_option maxHeartbeats 1000000 in
theorem spec_l12Decode_ev (n : Int) (h0 : 0 ≤ n) (h1 : n ≤ 59) (y : ByteArray) (hy : y.size ≤ 1100000) :
    ∃ c r b, Ev (fun k => spec_l12Decode.f k y n) (c, r, b) ∧ (b = true → good c r = true ∧ recLine n c r = y ++ nl) ∧ (∀ c' r', good c' r' = true → recLine n c' r' = y ++ nl → c = c' ∧ r = r' ∧ b = true) := by
  have hn := numB_size n (by omega) (by omega)
  obtain ⟨t, tl, ht, ht1, ht2⟩ := spec_l1Split_ev y 35 (by omega)
  have hty : t.size ≤ y.size := by
    by_cases hm : (35 : Int) ∈ bytesOf y
    · obtain ⟨_, j, hj, _, _, e⟩ := ht2 hm; rw [e]; simp; omega
    · rw [(ht1 hm).1]; exact Nat.le_refl _
  -- what a line that is right is made of
  have key : ∀ c' r', good c' r' = true → recLine n c' r' = y ++ nl → t = (numB n ++ ⟨#[32]⟩) ++ ((c' ++ ⟨#[64]⟩) ++ r') := by
    intro c' r' hg e
    have e1 : y = (body n c' r' ++ ⟨#[35]⟩) ++ numB (chk (body n c' r')) := by
      unfold recLine at e
      exact (app_left_cancel e).symm
    have hm : (35 : Int) ∈ bytesOf y := by rw [e1]; simp [bytesOf_append, bytesOf_one]
    obtain ⟨_, j, hj, hb, hno, e2⟩ := ht2 hm
    have := split_head (b := 35) e1 (body_no35 n h0 (by omega) c' r' hg) hj hb hno
    rw [e2, this, e1, app_assoc, extract_left]
    unfold body
    simp only [app_assoc]
  have hsz : (numB n ++ ⟨#[32]⟩ : ByteArray).size = (numB n).size + 1 := by rw [ByteArray.size_append]; rfl
  -- the walk
  by_cases hs : (t.size : Int) < ((numB n).size + 1 : Int)
  · refine ⟨⟨#[]⟩, ⟨#[]⟩, false, ?_, (fun h => nomatch h), fun c' r' hg e => ?_⟩
    · unfold spec_l12Decode.f
      rw [spec_l1Num_eq n (by omega) (by omega)]
      exact Ev.bind (Ev.const _) (Ev.pos (by omega) (Ev.bind ht (Ev.pos (by simp) (Ev.pos hs (Ev.const _)))))
    · have := congrArg ByteArray.size (key c' r' hg e)
      rw [ByteArray.size_append, hsz] at this
      omega
  by_cases hp : (t.extract 0 ((numB n).size + 1)) = numB n ++ ⟨#[32]⟩
  case neg =>
    refine ⟨⟨#[]⟩, ⟨#[]⟩, false, ?_, (fun h => nomatch h), fun c' r' hg e => ?_⟩
    · unfold spec_l12Decode.f
      rw [spec_l1Num_eq n (by omega) (by omega)]
      refine Ev.bind (Ev.const _) (Ev.pos (by omega) (Ev.bind ht (Ev.pos (by simp) (Ev.neg hs (Ev.pos (by omega) (Ev.pos (by show _ ≤ (t.size : Int); omega) (Ev.neg ?_ (Ev.const _))))))))
      intro h
      exact hp ((toList_eq_iff _ _).1 h)
    · apply absurd _ hp
      rw [key c' r' hg e, ← hsz]
      exact extract_left _ _
  obtain ⟨q, ql, hq, hq1, hq2⟩ := spec_l1Split_ev (t.extract ((numB n).size + 1) t.size) 64 (by simp; omega)
  have hrs : (t.extract ((numB n).size + 1) t.size).size = t.size - ((numB n).size + 1) := by simp
  have key2 : ∀ c' r', good c' r' = true → recLine n c' r' = y ++ nl → t.extract ((numB n).size + 1) t.size = (c' ++ ⟨#[64]⟩) ++ r' ∧ q = c' := by
    intro c' r' hg e
    have e1 : t.extract ((numB n).size + 1) t.size = (c' ++ ⟨#[64]⟩) ++ r' := by
      rw [key c' r' hg e, ← hsz]
      exact extract_right _ _
    refine ⟨e1, ?_⟩
    have hm : (64 : Int) ∈ bytesOf (t.extract ((numB n).size + 1) t.size) := by rw [e1]; simp [bytesOf_append, bytesOf_one]
    obtain ⟨_, j, hj, hb, hno, e2⟩ := hq2 hm
    have := split_head (b := 64) e1 ((good_iff c' r').1 hg).2.2.2.1 hj hb hno
    rw [e2, this, e1, app_assoc, extract_left]
  have hqs : q.size ≤ (t.extract ((numB n).size + 1) t.size).size := by
    by_cases hm : (64 : Int) ∈ bytesOf (t.extract ((numB n).size + 1) t.size)
    · obtain ⟨_, j, hj, _, _, e⟩ := hq2 hm; rw [e]; simp; omega
    · rw [(hq1 hm).1]; exact Nat.le_refl _
  by_cases hw : q.size = t.size - ((numB n).size + 1)
  · refine ⟨⟨#[]⟩, ⟨#[]⟩, false, ?_, (fun h => nomatch h), fun c' r' hg e => ?_⟩
    · unfold spec_l12Decode.f
      rw [spec_l1Num_eq n (by omega) (by omega)]
      refine Ev.bind (Ev.const _) (Ev.pos (by omega) (Ev.bind ht (Ev.pos (by simp) (Ev.neg hs (Ev.pos (by omega) (Ev.pos (by show _ ≤ (t.size : Int); omega) (Ev.pos ((toList_eq_iff _ _).2 hp) ?_)))))))
      exact Ev.bind hq (Ev.pos (by simp) (Ev.pos (by show (q.size : Int) = _; rw [hw]; rfl) (Ev.const _)))
    · obtain ⟨e1, e2⟩ := key2 c' r' hg e
      have := congrArg ByteArray.size e1
      rw [ByteArray.size_append, ByteArray.size_append, hrs, one_size, ← e2] at this
      omega
  have hq3 : wrap64 ((q.size : Int) + 1) = ((q.size + 1 : Nat) : Int) := by rw [w64 _ (by omega) (by omega)]; omega
  have hR : ∀ c' r', good c' r' = true → recLine n c' r' = y ++ nl → (t.extract ((numB n).size + 1) t.size).extract (q.size + 1) (t.size - ((numB n).size + 1)) = r' := by
    intro c' r' hg e
    obtain ⟨e1, e2⟩ := key2 c' r' hg e
    rw [← hrs, e1, e2]
    have : c'.size + 1 = (c' ++ ⟨#[64]⟩ : ByteArray).size := by rw [ByteArray.size_append]; rfl
    rw [this]
    exact extract_right _ _
  have hRs : ((t.extract ((numB n).size + 1) t.size).extract (q.size + 1) (t.size - ((numB n).size + 1))).size ≤ 1100000 := by simp; omega
  generalize hRR : (t.extract ((numB n).size + 1) t.size).extract (q.size + 1) (t.size - ((numB n).size + 1)) = R at *
  refine ⟨q, R, good q R && decide (recLine n q R = y ++ nl), ?_, fun h => by simpa using h, fun c' r' hg e => ?_⟩
  · unfold spec_l12Decode.f
    rw [spec_l1Num_eq n (by omega) (by omega)]
    refine Ev.bind (Ev.const _) (Ev.pos (by omega) (Ev.bind ht (Ev.pos (by simp) (Ev.neg hs (Ev.pos (by omega) (Ev.pos (by show _ ≤ (t.size : Int); omega) (Ev.pos ((toList_eq_iff _ _).2 hp) ?_)))))))
    refine Ev.bind hq (Ev.pos (by simp) (Ev.neg (by show ¬ (q.size : Int) = ((t.size - ((numB n).size + 1) : Nat) : Int); omega) ?_))
    have eR : (((rdOf ByteArray.empty (t :: tl) 0).extract (((numB n).size + 1 : Int) : Int).toNat ((rdOf ByteArray.empty (t :: tl) 0).size)).extract ((wrap64 (((rdOf ByteArray.empty (q :: ql) 0).size : Int) + 1)) : Int).toNat (((rdOf ByteArray.empty (t :: tl) 0).size) - (((numB n).size + 1 : Int) : Int).toNat)) = R := by
      show (t.extract _ t.size).extract (wrap64 ((q.size : Int) + 1)).toNat (t.size - _) = R
      rw [hq3]
      exact hRR
    rw [eR]
    refine Ev.pos (by show 0 ≤ wrap64 ((q.size : Int) + 1); rw [hq3]; omega) (Ev.pos (by show wrap64 ((q.size : Int) + 1) ≤ ((t.size - ((numB n).size + 1) : Nat) : Int); rw [hq3]; omega) ?_)
    refine Ev.bind (spec_l12Record_ev q R (by omega) hRs) ?_
    by_cases hg : good q R = true
    · refine Ev.pos hg (Ev.bind (spec_l12Line_ev n (by omega) (by omega) q R (by omega) hRs) (Ev.pos (by omega) ?_))
      rw [hg, Bool.true_and]
      have := toList_beq (recLine n q R) (y ++ nl)
      rw [← this]
      exact Ev.const _
    · refine Ev.neg hg ?_
      rw [Bool.eq_false_iff.2 hg, Bool.false_and]
      exact Ev.const _
  · have e2 := (key2 c' r' hg e).2
    have e3 := hR c' r' hg e
    subst e2
    subst e3
    exact ⟨rfl, rfl, by simp [hg, e]⟩
end Go.Proofs.YtnbhbnndfpfikaaDoor.X
