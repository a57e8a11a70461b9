/- The plain laws of FnStrings: draws are total, numbers are read back, sealed texts are opened, one byte changed is found. -/
import Derived.Test.YtnbhbnndfpfikaaDoorXi
import Derived.Laws.BitsLemmas
namespace Go.Proofs.YtnbhbnndfpfikaaDoor.X
open Go.RowKit Go.Proofs.YtnbhbnndfpfikaaDoorW.PrintWords Go.Proofs.YtnbhbnndfpfikaaDoorW.PrintLast Go.Proofs.YtnbhbnndfpfikaaDoorW.PrintMore
set_option linter.unusedVariables false
set_option linter.unusedSimpArgs false

/-! ### one byte changed -/
def stp (h b : Int) : Int := (41 * h + b + 1) % 999979
theorem st_stp (h b : Int) (h0 : 0 ≤ h) (h1 : h < 999979) (b0 : 0 ≤ b) (b1 : b ≤ 255) : st h b = stp h b := by
  have e1 : wrap64 (41 * h) = 41 * h := by unfold wrap64; omega
  have e2 : wrap64 b = b := by unfold wrap64; omega
  have e3 : wrap64 (41 * h + b) = 41 * h + b := by unfold wrap64; omega
  have e4 : wrap64 (41 * h + b + 1) = 41 * h + b + 1 := by unfold wrap64; omega
  unfold st stp
  rw [e1, e2, e3, e4, Int.tmod_eq_emod_of_nonneg (by omega)]
theorem stp_range (h b : Int) : 0 ≤ stp h b ∧ stp h b < 999979 := by unfold stp; omega
theorem stp_state (h h' b : Int) (h0 : 0 ≤ h) (h1 : h < 999979) (h2 : 0 ≤ h') (h3 : h' < 999979) (e : stp h b = stp h' b) : h = h' := by unfold stp at e; omega
theorem stp_byte (h b b' : Int) (b0 : 0 ≤ b) (b1 : b ≤ 255) (b2 : 0 ≤ b') (b3 : b' ≤ 255) (e : stp h b = stp h b') : b = b' := by unfold stp at e; omega
def byte (b : Int) : Prop := 0 ≤ b ∧ b ≤ 255
theorem fold_ok : ∀ (l : List Int) (h : Int), 0 ≤ h → h < 999979 → (∀ b ∈ l, byte b) → 0 ≤ l.foldl st h ∧ l.foldl st h < 999979
  | [], h, h0, h1, _ => ⟨h0, h1⟩
  | b :: l, h, h0, h1, hl => by
    have hb := hl b List.mem_cons_self
    have := stp_range h b
    rw [List.foldl_cons, st_stp h b h0 h1 hb.1 hb.2]
    exact fold_ok l _ this.1 this.2 (fun x hx => hl x (List.mem_cons_of_mem _ hx))
theorem fold_inj : ∀ (l : List Int) (h h' : Int), 0 ≤ h → h < 999979 → 0 ≤ h' → h' < 999979 → (∀ b ∈ l, byte b) → l.foldl st h = l.foldl st h' → h = h'
  | [], h, h', _, _, _, _, _, e => e
  | b :: l, h, h', h0, h1, h2, h3, hl, e => by
    have hb := hl b List.mem_cons_self
    rw [List.foldl_cons, List.foldl_cons, st_stp h b h0 h1 hb.1 hb.2, st_stp h' b h2 h3 hb.1 hb.2] at e
    have r1 := stp_range h b
    have r2 := stp_range h' b
    have := fold_inj l _ _ r1.1 r1.2 r2.1 r2.2 (fun x hx => hl x (List.mem_cons_of_mem _ hx)) e
    exact stp_state h h' b h0 h1 h2 h3 this
theorem fold_change (l1 l2 : List Int) (b b' : Int) (h1 : ∀ x ∈ l1, byte x) (h2 : ∀ x ∈ l2, byte x) (hb : byte b) (hb' : byte b') (e : (l1 ++ b :: l2).foldl st 7 = (l1 ++ b' :: l2).foldl st 7) : b = b' := by
  rw [List.foldl_append, List.foldl_append, List.foldl_cons, List.foldl_cons] at e
  have r := fold_ok l1 7 (by decide) (by decide) h1
  rw [st_stp _ b r.1 r.2 hb.1 hb.2, st_stp _ b' r.1 r.2 hb'.1 hb'.2] at e
  have r1 := stp_range (l1.foldl st 7) b
  have r2 := stp_range (l1.foldl st 7) b'
  have := fold_inj l2 _ _ r1.1 r1.2 r2.1 r2.2 h2 e
  exact stp_byte _ b b' hb.1 hb.2 hb'.1 hb'.2 this
theorem sep_unique : ∀ (a b c d : List Int), (35 : Int) ∉ a → (35 : Int) ∉ c → a ++ 35 :: b = c ++ 35 :: d → a = c ∧ b = d
  | [], b, [], d, _, _, e => ⟨rfl, by simpa using e⟩
  | [], b, y :: c, d, _, hc, e => by
    simp only [List.nil_append, List.cons_append, List.cons.injEq] at e
    exact absurd (by rw [← e.1]; exact List.mem_cons_self) hc
  | x :: a, b, [], d, ha, _, e => by
    simp only [List.nil_append, List.cons_append, List.cons.injEq] at e
    exact absurd (by rw [e.1]; exact List.mem_cons_self) ha
  | x :: a, b, y :: c, d, ha, hc, e => by
    simp only [List.cons_append, List.cons.injEq] at e
    obtain ⟨h1, h2⟩ := sep_unique a b c d (fun h => ha (List.mem_cons_of_mem _ h)) (fun h => hc (List.mem_cons_of_mem _ h)) e.2
    exact ⟨by rw [e.1, h1], h2⟩
/-- A sealed text with one byte changed is no sealed text. num: the text of a sum. -/
theorem no_seal (num : Int → List Int) (num35 : ∀ n, (35 : Int) ∉ num n) (numI : ∀ n m, num n = num m → n = m) (x t : List Int) (hx : ∀ b ∈ x, byte b) (x35 : (35 : Int) ∉ x) (t35 : (35 : Int) ∉ t)
    (k : Nat) (v : Int) (hv : byte v) (hk : k < (x ++ 35 :: num (x.foldl st 7)).length) (hne : (x ++ 35 :: num (x.foldl st 7))[k] ≠ v)
    (e : (x ++ 35 :: num (x.foldl st 7)).set k v = t ++ 35 :: num (t.foldl st 7)) : False := by
  by_cases h1 : k < x.length
  · rw [List.set_append_left k v h1] at e
    have hs : x.set k v = x.take k ++ v :: x.drop (k + 1) := by rw [List.set_eq_take_append_cons_drop, if_pos h1]
    have hx0 : x = x.take k ++ x[k] :: x.drop (k + 1) := by
      rw [← List.drop_eq_getElem_cons h1, List.take_append_drop]
    by_cases h35 : v = 35
    · rw [hs, h35, List.append_assoc, List.cons_append] at e
      obtain ⟨-, h2⟩ := sep_unique _ _ _ _ (fun h => x35 (List.mem_of_mem_take h)) t35 e
      exact num35 _ (by rw [← h2]; simp)
    · have hn : (35 : Int) ∉ x.set k v := by
        rw [hs]
        intro h
        rcases List.mem_append.1 h with h | h
        · exact x35 (List.mem_of_mem_take h)
        · rcases List.mem_cons.1 h with h | h
          · exact h35 h.symm
          · exact x35 (List.mem_of_mem_drop h)
      obtain ⟨h2, h3⟩ := sep_unique _ _ _ _ hn t35 e
      have h4 := numI _ _ h3
      rw [← h2, hs, hx0] at h4
      have e5 : (x.take k ++ x[k] :: x.drop (k + 1)).take k = x.take k := by rw [← hx0]
      have e6 : (x.take k ++ x[k] :: x.drop (k + 1)).drop (k + 1) = x.drop (k + 1) := by rw [← hx0]
      rw [e5, e6] at h4
      have := fold_change (x.take k) (x.drop (k + 1)) x[k] v (fun b hb => hx b (List.mem_of_mem_take hb)) (fun b hb => hx b (List.mem_of_mem_drop hb)) (hx _ (List.getElem_mem h1)) hv h4
      rw [List.getElem_append_left h1] at hne
      exact hne this
  · by_cases h2 : k = x.length
    · rw [List.set_append_right k v (by omega), h2, Nat.sub_self, List.set_cons_zero] at e
      have hv35 : v ≠ 35 := by
        intro h
        rw [List.getElem_append_right (by omega)] at hne
        simp only [h2, Nat.sub_self, List.getElem_cons_zero] at hne
        exact hne h.symm
      have : (35 : Int) ∈ x ++ v :: num (x.foldl st 7) := by rw [e]; simp
      rcases List.mem_append.1 this with h | h
      · exact x35 h
      · rcases List.mem_cons.1 h with h | h
        · exact hv35 h.symm
        · exact num35 _ h
    · obtain ⟨j, rfl⟩ : ∃ j, k = x.length + (j + 1) := ⟨k - x.length - 1, by omega⟩
      rw [List.set_append_right _ v (by omega), Nat.add_sub_cancel_left, List.set_cons_succ] at e
      obtain ⟨h3, h4⟩ := sep_unique _ _ _ _ x35 t35 e
      rw [← h3] at h4
      rw [List.getElem_append_right (by omega)] at hne
      simp only [Nat.add_sub_cancel_left, List.getElem_cons_succ] at hne
      have hj : j < (num (x.foldl st 7)).length := by simp at hk; omega
      have := List.getElem_set_self (l := num (x.foldl st 7)) (i := j) (a := v) (by rw [List.length_set]; exact hj)
      exact hne (by rw [← this]; congr 1; exact h4.symm)

/-! ### draws -/
def Bytes (l : List Int) : Prop := ∀ b ∈ l, byte b
theorem rd_byte (l : List Int) (h : Bytes l) (i : Int) : 0 ≤ rd l i ∧ rd l i ≤ 255 := by
  unfold rd
  rw [List.getD_eq_getElem?_getD]
  cases e : l[i.toNat]? with
  | none => exact ⟨by decide, by decide⟩
  | some b => exact h b (List.mem_of_getElem? e)
theorem and255 (x : Int) (h0 : 0 ≤ x) (h1 : x < 18446744073709551616) : Go.bits .and .u64 x 255 = x % 256 := bits_mask .u64 64 (by decide) (fun n h₀ h₁ => by rw [IntKind.wrap_u64]; omega) 8 (by decide) x h0 h1
theorem high_byte (n : Int) : 0 ≤ wrap64 (Go.bits .and .u64 ((IntKind.u64.wrap n) / 1099511627776) 255) ∧ wrap64 (Go.bits .and .u64 ((IntKind.u64.wrap n) / 1099511627776) 255) ≤ 255 := by
  have h : 0 ≤ IntKind.u64.wrap n ∧ IntKind.u64.wrap n < 18446744073709551616 := by rw [IntKind.wrap_u64]; omega
  rw [and255 _ (by omega) (by omega), w64 _ (by omega) (by omega)]
  omega
theorem next_ok (s : List Int) (hs : Bytes s) (a d : Int) (h0 : 0 ≤ a) (h1 : a ≤ 1000000) : ∃ x d', spec_l1Cur_next.f s a d = some (x, a + 1, d') ∧ 0 ≤ x ∧ x ≤ 255 := by
  unfold spec_l1Cur_next.f
  have hr := rd_byte s hs a
  rw [w64 (a + 1) (by omega) (by omega), w64 (rd s a) (by omega) (by omega)]
  by_cases c1 : a < (s.length : Int)
  · rw [if_pos c1, if_pos h0]
    by_cases c2 : a + 1 ≤ (s.length : Int)
    · rw [if_pos c2]; exact ⟨_, _, rfl, hr.1, hr.2⟩
    · rw [if_neg c2]; exact ⟨_, _, rfl, (high_byte _).1, (high_byte _).2⟩
  · rw [if_neg c1]
    by_cases c2 : a + 1 ≤ (s.length : Int)
    · rw [if_pos c2]; exact ⟨_, _, rfl, by decide, by decide⟩
    · rw [if_neg c2]; exact ⟨_, _, rfl, (high_byte _).1, (high_byte _).2⟩
theorem pick_ok (s : List Int) (hs : Bytes s) (a d n : Int) (h0 : 0 ≤ a) (h1 : a ≤ 900000) (hn : 1 ≤ n) (hn2 : n ≤ 65536) : ∃ x a' d', spec_l1Cur_pick.f s a d n = some (x, a', d') ∧ 0 ≤ x ∧ x < n ∧ a ≤ a' ∧ a' ≤ a + 2 := by
  unfold spec_l1Cur_pick.f
  by_cases c1 : n ≤ 1
  · rw [if_pos c1]; exact ⟨0, a, d, rfl, by omega, by omega, by omega, by omega⟩
  · rw [if_neg c1]
    obtain ⟨x, d1, e1, x0, x1⟩ := next_ok s hs a d h0 (by omega)
    rw [e1]
    simp only [Option.bind_some]
    by_cases c2 : n > 200
    · rw [if_pos c2]
      obtain ⟨y, d2, e2, y0, y1⟩ := next_ok s hs (a + 1) d1 (by omega) (by omega)
      rw [e2]
      simp only [Option.bind_some]
      rw [if_neg (by omega), w64 (x * 256) (by omega) (by omega), w64 (x * 256 + y) (by omega) (by omega), Int.tmod_eq_emod_of_nonneg (by omega)]
      exact ⟨_, _, _, rfl, Int.emod_nonneg _ (by omega), Int.emod_lt_of_pos _ (by omega), by omega, by omega⟩
    · rw [if_neg c2, if_neg (by omega), Int.tmod_eq_emod_of_nonneg (by omega)]
      exact ⟨_, _, _, rfl, Int.emod_nonneg _ (by omega), Int.emod_lt_of_pos _ (by omega), by omega, by omega⟩
theorem among_ok (s : List Int) (hs : Bytes s) (a d : Int) (l : List Int) (h0 : 0 ≤ a) (h1 : a ≤ 900000) (hn : 1 ≤ l.length) (hn2 : l.length ≤ 65536) : ∃ x a' d', spec_l1Cur_among.f s a d l = some (x, a', d') ∧ x ∈ l := by
  unfold spec_l1Cur_among.f
  obtain ⟨i, a', d', e, i0, i1, -, -⟩ := pick_ok s hs a d (l.length : Int) h0 h1 (by omega) (by omega)
  rw [e]
  simp only [Option.bind_some]
  rw [if_pos i0, if_pos i1]
  refine ⟨_, _, _, rfl, ?_⟩
  unfold rd
  rw [List.getD_eq_getElem?_getD, List.getElem?_eq_getElem (by omega)]
  exact List.getElem_mem _
theorem of_ok (s : List Int) (hs : Bytes s) (a d : Int) (l : List ByteArray) (h0 : 0 ≤ a) (h1 : a ≤ 900000) (hn : 1 ≤ l.length) (hn2 : l.length ≤ 65536) : ∃ x a' d', spec_l1Cur_of.f s a d l = some (x, a', d') ∧ x ∈ l := by
  unfold spec_l1Cur_of.f
  obtain ⟨i, a', d', e, i0, i1, -, -⟩ := pick_ok s hs a d (l.length : Int) h0 h1 (by omega) (by omega)
  rw [e]
  simp only [Option.bind_some]
  rw [if_pos i0, if_pos i1]
  refine ⟨_, _, _, rfl, ?_⟩
  unfold rdOf
  rw [List.getD_eq_getElem?_getD, List.getElem?_eq_getElem (by omega)]
  exact List.getElem_mem _
theorem one_ok (s : List Int) (hs : Bytes s) (a d n : Int) (h0 : 0 ≤ a) (h1 : a ≤ 900000) (hn : 1 ≤ n) (hn2 : n ≤ 65536) : ∃ x a' d', spec_l1Cur_one.f s a d n = some (x, a', d') ∧ 0 ≤ a' ∧ a' ≤ a + 2 := by
  unfold spec_l1Cur_one.f
  obtain ⟨i, a', d', e, i0, i1, j0, j1⟩ := pick_ok s hs a d n h0 h1 hn hn2
  rw [e]
  exact ⟨_, _, _, rfl, by show 0 ≤ a'; omega, j1⟩
theorem drawFormat (s : List Int) (hs : Bytes s) : ∃ n, spec_DrawFormatInt.f s = some n ∧ -1000000 ≤ n ∧ n ≤ 1000000 := by
  unfold spec_DrawFormatInt.f
  obtain ⟨i, a', d', e, i0, i1, j0, j1⟩ := pick_ok s hs 0 0 1000 (by decide) (by decide) (by decide) (by decide)
  rw [e]
  simp only [Option.bind_some]
  obtain ⟨x, a2, d2, e2, hx⟩ := among_ok s hs a' d' [0, 1, (-1), 10, 999999, (-999999), 1000000, (-1000000), wrap64 (i - 500)] (by omega) (by omega) (by simp) (by simp)
  rw [e2]
  refine ⟨x, rfl, ?_⟩
  rw [w64 (i - 500) (by omega) (by omega)] at hx
  simp only [List.mem_cons, List.not_mem_nil, or_false] at hx
  omega
theorem small_mem {l : List ByteArray} {m : Nat} (h : l.all (fun s => decide (s.size ≤ m)) = true) {x : ByteArray} (hx : x ∈ l) : x.size ≤ m := of_decide_eq_true (List.all_eq_true.1 h x hx)
theorem drawParse (s : List Int) (hs : Bytes s) : ∃ t, spec_DrawParseInt.f s = some t ∧ t.size ≤ 20 := by
  unfold spec_DrawParseInt.f
  obtain ⟨b, a', d', e, j0, j1⟩ := one_ok s hs 0 0 2 (by decide) (by decide) (by decide) (by decide)
  rw [e]
  simp only [Option.bind_some]
  cases b with
  | true =>
    rw [if_pos rfl]
    obtain ⟨x, a2, d2, e2, hx⟩ := of_ok s hs a' d' [(⟨#[]⟩ : ByteArray), (⟨#[45]⟩ : ByteArray), (⟨#[45, 48]⟩ : ByteArray), (⟨#[48, 48]⟩ : ByteArray), (⟨#[48, 49]⟩ : ByteArray), (⟨#[45, 45, 49]⟩ : ByteArray), (⟨#[49, 120]⟩ : ByteArray), (⟨#[57, 57, 57, 57, 57, 57]⟩ : ByteArray), (⟨#[49, 48, 48, 48, 48, 48, 48]⟩ : ByteArray), (⟨#[45, 57, 57, 57, 57, 57, 57]⟩ : ByteArray), (⟨#[49, 56, 52, 52, 54, 55, 52, 52, 48, 55, 51, 55, 48, 57, 53, 53, 49, 54, 49, 55]⟩ : ByteArray)] (by omega) (by omega) (by simp) (by simp)
    rw [e2]
    exact ⟨x, rfl, small_mem (m := 20) (by rfl) hx⟩
  | false =>
    rw [if_neg (by decide)]
    obtain ⟨i, a2, d2, e2, i0, i1, -, -⟩ := pick_ok s hs a' d' 2000 (by omega) (by omega) (by decide) (by decide)
    rw [e2]
    simp only [Option.bind_some]
    rw [w64 (i - 1000) (by omega) (by omega), spec_l1Num_eq _ (by omega) (by omega)]
    exact ⟨_, rfl, numB_size _ (by omega) (by omega)⟩
theorem strOf_size (l : List Int) : (strOfNums l).size = l.length := by
  rw [← bytesOf_length (strOfNums l)]
  simp [bytesOf, strOfNums]
theorem any1_ok (s : List Int) (hs : Bytes s) (a d : Int) (h0 : 0 ≤ a) (h1 : a ≤ 900000) : ∃ x a' d', spec_l1Cur_any1.f s a d = some (x, a', d') ∧ x.size ≤ 20 := by
  unfold spec_l1Cur_any1.f
  obtain ⟨x, a2, d2, e2, hx⟩ := of_ok s hs a d [(⟨#[]⟩ : ByteArray), (⟨#[97]⟩ : ByteArray), (⟨#[97, 44, 98]⟩ : ByteArray), (⟨#[115, 111, 109, 101, 32, 119, 111, 114, 100, 115]⟩ : ByteArray), (⟨#[120, 35, 121]⟩ : ByteArray), (⟨#[45, 49, 50]⟩ : ByteArray), (⟨#[0, 255]⟩ : ByteArray), (⟨#[44, 44]⟩ : ByteArray), (⟨#[48]⟩ : ByteArray)] h0 h1 (by simp) (by simp)
  rw [e2]
  exact ⟨x, a2, d2, rfl, small_mem (m := 20) (by rfl) hx⟩
theorem drawSum (s : List Int) (hs : Bytes s) : ∃ t, spec_DrawAppendChecksum.f s = some t ∧ t.size ≤ 4000 := by
  unfold spec_DrawAppendChecksum.f
  obtain ⟨b, a', d', e, j0, j1⟩ := one_ok s hs 0 0 20 (by decide) (by decide) (by decide) (by decide)
  rw [e]
  simp only [Option.bind_some]
  cases b with
  | true =>
    rw [if_pos rfl]
    obtain ⟨i, a2, d2, e2, i0, i1, -, -⟩ := pick_ok s hs a' d' 10 (by omega) (by omega) (by decide) (by decide)
    rw [e2]
    simp only [Option.bind_some]
    rw [w64 (3990 + i) (by omega) (by omega), if_pos (by omega), if_pos (by omega)]
    refine ⟨_, rfl, ?_⟩
    rw [strOf_size, List.length_replicate]
    omega
  | false =>
    rw [if_neg (by decide)]
    obtain ⟨x, a2, d2, e2, hx⟩ := any1_ok s hs a' d' (by omega) (by omega)
    rw [e2]
    exact ⟨x, rfl, by omega⟩
theorem vAt_ok (s : List Int) (hs : Bytes s) (i : Int) (h0 : 0 ≤ i) (h1 : i ≤ 100) (hl : s.length ≤ 65536) : ∃ x, laws_vAt.f s i = some x ∧ 0 ≤ x ∧ x ≤ 255 := by
  unfold laws_vAt.f
  have hr := rd_byte s hs i
  by_cases c : i < (s.length : Int)
  · rw [if_pos c, if_pos h0, w64 (rd s i) (by omega) (by omega)]
    exact ⟨_, rfl, hr⟩
  · rw [if_neg c, w64 (i * 7) (by omega) (by omega), w64 (i * 7 + (s.length : Int)) (by omega) (by omega), Int.tmod_eq_emod_of_nonneg (by omega)]
    exact ⟨_, rfl, by omega, by omega⟩
/-! ### numbers -/
def formatV (n : Int) : ByteArray × Bool := if -999999 ≤ n ∧ n ≤ 999999 then (numB n, true) else ((⟨#[]⟩ : ByteArray), false)
theorem l1In_f (a b c : Int) : spec_l1In.f a b c = some (decide (b ≤ a ∧ a ≤ c)) := by
  unfold spec_l1In.f
  by_cases h : b ≤ a
  · rw [if_pos h]; simp [h]
  · rw [if_neg h]; simp [h]
theorem impl_FormatInt_eq (n : Int) : impl_FormatInt.f n = some (formatV n) := by
  unfold impl_FormatInt.f impl_isDecimal.f formatV
  rw [within_eq]
  simp only [Option.bind_some]
  by_cases h : -999999 ≤ n ∧ n ≤ 999999
  · rw [if_pos h, decide_eq_true h, if_pos rfl, strconv_Itoa_eq n (by omega) (by omega)]; rfl
  · rw [if_neg h, decide_eq_false h, if_neg (by decide)]
theorem spec_FormatInt_eq (n : Int) : spec_FormatInt.f n = some (formatV n) := by
  unfold spec_FormatInt.f formatV
  rw [l1In_f]
  simp only [Option.bind_some]
  by_cases h : -999999 ≤ n ∧ n ≤ 999999
  · rw [if_pos h, decide_eq_true h, if_pos rfl, spec_l1Num_eq n (by omega) (by omega)]; rfl
  · rw [if_neg h, decide_eq_false h, if_neg (by decide)]
def valI : List Int → Int → Option Int
  | [], n => some n
  | b :: r, n => if b < 48 then none else if b > 57 then none else valI r (10 * n + (b - 48))
theorem valI_dec : ∀ (l : List UInt8) (acc : Nat), valI (l.map fun b => (b.toNat : Int)) (acc : Int) = (Lib.decFrom acc l).map fun (m : Nat) => (m : Int)
  | [], acc => rfl
  | b :: l, acc => by
    simp only [List.map_cons, valI, Lib.decFrom, Lib.digitVal]
    by_cases h1 : (b.toNat : Int) < 48
    · rw [if_pos h1, if_neg (by omega)]; rfl
    · rw [if_neg h1]
      by_cases h2 : (b.toNat : Int) > 57
      · rw [if_pos h2, if_neg (by omega)]; rfl
      · rw [if_neg h2, if_pos (by omega), ← valI_dec l (acc * 10 + (b.toNat - 48))]
        congr 1
        omega
theorem valI_bound : ∀ (l : List Int) (n v : Int), 0 ≤ n → valI l n = some v → 0 ≤ v ∧ v + 1 ≤ (n + 1) * 10 ^ l.length
  | [], n, v, h0, h => by
    have : n = v := Option.some.inj h
    subst this
    simp
    omega
  | b :: l, n, v, h0, h => by
    unfold valI at h
    split at h
    · cases h
    · split at h
      · cases h
      · obtain ⟨h1, h2⟩ := valI_bound l _ v (by omega) h
        refine ⟨h1, Int.le_trans h2 ?_⟩
        rw [List.length_cons, Int.pow_succ, Int.mul_comm (10 ^ l.length) 10, ← Int.mul_assoc]
        exact Int.mul_le_mul_of_nonneg_right (by omega) (Int.pow_nonneg (by decide))
def fin_ (s t : ByteArray) (v : Int) : Int × Bool := if t.size < s.size then (if numB (-v) = s then (-v, true) else (0, false)) else (if numB v = s then (v, true) else (0, false))
def valR (s t : ByteArray) (l : List Int) (n : Int) : Int × Bool := match valI l n with
  | none => (0, false)
  | some v => fin_ s t v
theorem pow6 (i : Nat) (h : i ≤ 6) : (10 : Int) ^ i ≤ 1000000 := by
  have : i = 0 ∨ i = 1 ∨ i = 2 ∨ i = 3 ∨ i = 4 ∨ i = 5 ∨ i = 6 := by omega
  rcases this with rfl | rfl | rfl | rfl | rfl | rfl | rfl <;> decide
theorem read_loop (s t : ByteArray) (ht : t.size ≤ 6) : ∀ (m i : Nat) (n : Int), i + m = t.size → 0 ≤ n → n < 10 ^ i → Ev (fun k => spec_l1Read.l0 k s t n (i : Int)) (valR s t ((bytesOf t).drop i) n)
  | 0, i, n, hi, h0, h1 => by
    have hp := pow6 i (by omega)
    refine Ev.shift ?_
    unfold spec_l1Read.l0
    refine Ev.neg (by omega) ?_
    rw [drop_end t i (by omega)]
    show Ev _ (fin_ s t n)
    unfold fin_
    rw [w64 (-n) (by omega) (by omega)]
    by_cases hts : t.size < s.size
    · rw [if_pos hts]
      refine Ev.pos (by omega) ?_
      rw [spec_l1Num_eq (-n) (by omega) (by omega)]
      refine Ev.bind (Ev.const _) ?_
      by_cases he : numB (-n) = s
      · rw [if_pos he]; exact Ev.pos ((toList_eq_iff _ _).2 he) (Ev.const _)
      · rw [if_neg he]; exact Ev.neg (fun h => he ((toList_eq_iff _ _).1 h)) (Ev.const _)
    · rw [if_neg hts]
      refine Ev.neg (by omega) ?_
      rw [spec_l1Num_eq n (by omega) (by omega)]
      refine Ev.bind (Ev.const _) ?_
      by_cases he : numB n = s
      · rw [if_pos he]; exact Ev.pos ((toList_eq_iff _ _).2 he) (Ev.const _)
      · rw [if_neg he]; exact Ev.neg (fun h => he ((toList_eq_iff _ _).1 h)) (Ev.const _)
  | m + 1, i, n, hi, h0, h1 => by
    have hp := pow6 (i + 1) (by omega)
    rw [Int.pow_succ] at hp
    have hb := bt_range t (i : Int)
    refine Ev.shift ?_
    unfold spec_l1Read.l0
    refine Ev.pos (by omega) (Ev.pos (by omega) ?_)
    rw [drop_bt t i (by omega)]
    unfold valR valI
    by_cases c1 : bt t (i : Int) < 48
    · rw [if_pos c1]; exact Ev.pos c1 (Ev.const _)
    · rw [if_neg c1]
      refine Ev.neg c1 ?_
      by_cases c2 : bt t (i : Int) > 57
      · rw [if_pos c2]; exact Ev.pos c2 (Ev.const _)
      · rw [if_neg c2]
        refine Ev.neg c2 ?_
        have hm : (bt t (i : Int) - 48) % 256 = bt t (i : Int) - 48 := by omega
        obtain ⟨P, hP⟩ : ∃ P, (10 : Int) ^ i = P := ⟨_, rfl⟩
        rw [hP] at h1 hp
        rw [hm, w64 (10 * n) (by omega) (by omega), w64 (10 * n + (bt t (i : Int) - 48)) (by omega) (by omega), w64 ((i : Int) + 1) (by omega) (by omega)]
        exact read_loop s t ht m (i + 1) (10 * n + (bt t (i : Int) - 48)) (by omega) (by omega) (by rw [Int.pow_succ, hP]; omega)
def tail_ (s : ByteArray) : ByteArray := if 1 < s.size ∧ bt s 0 = 45 then s.extract 1 s.size else s
def readR (s : ByteArray) : Int × Bool := if 1 ≤ (tail_ s).size ∧ (tail_ s).size ≤ 6 then valR s (tail_ s) (bytesOf (tail_ s)) 0 else (0, false)
theorem read_j1 (s t : ByteArray) (hs : t.size ≤ 1000000) : Ev (fun k => spec_l1Read.j1 k s t) (if 1 ≤ t.size ∧ t.size ≤ 6 then valR s t (bytesOf t) 0 else (0, false)) := by
  refine Ev.shift ?_
  show Ev (fun k => (spec_l1In.f (t.size : Int) 1 6).bind fun t107 => if t107 = true then spec_l1Read.l0 k s t 0 0 else Option.some (0, false)) _
  rw [l1In_f]
  refine Ev.bind (Ev.const _) ?_
  by_cases h : 1 ≤ t.size ∧ t.size ≤ 6
  · rw [if_pos h]
    exact Ev.pos (decide_eq_true (by omega)) (read_loop s t h.2 t.size 0 0 (by omega) (by decide) (by decide))
  · rw [if_neg h]
    exact Ev.neg (by rw [decide_eq_true_iff]; omega) (Ev.const _)
theorem spec_l1Read_ev (s : ByteArray) (hs : s.size ≤ 1000000) : Ev (fun k => spec_l1Read.f k s) (readR s) := by
  have key : ∀ t, tail_ s = t → readR s = if 1 ≤ t.size ∧ t.size ≤ 6 then valR s t (bytesOf t) 0 else (0, false) := fun t h => by unfold readR; rw [h]
  unfold spec_l1Read.f
  by_cases h1 : 1 < s.size
  · refine Ev.pos (by omega) (Ev.pos (by omega) (Ev.shift ?_))
    unfold spec_l1Read.j0
    by_cases h2 : bt s 0 = 45
    · rw [key (s.extract 1 s.size) (if_pos ⟨h1, h2⟩)]
      refine Ev.pos (beq_iff_eq.2 h2) (Ev.pos (by omega) (read_j1 s _ ?_))
      rw [ByteArray.size_extract]; omega
    · rw [key s (if_neg (fun h => h2 h.2))]
      exact Ev.neg (fun h => h2 (beq_iff_eq.1 h)) (read_j1 s s hs)
  · rw [key s (if_neg (fun h => h1 h.1))]
    refine Ev.neg (by omega) (Ev.shift ?_)
    unfold spec_l1Read.j0
    exact Ev.neg (by decide) (read_j1 s s hs)
theorem fin_num {s t : ByteArray} {v n : Int} (h : fin_ s t v = (n, true)) : numB n = s ∧ (n = v ∨ n = -v) := by
  unfold fin_ at h
  split at h
  · split at h
    · rename_i hv
      have : -v = n := (Prod.mk.inj h).1
      exact ⟨by rw [← this]; exact hv, .inr this.symm⟩
    · exact absurd (Prod.mk.inj h).2 (by decide)
  · split at h
    · rename_i hv
      have : v = n := (Prod.mk.inj h).1
      exact ⟨by rw [← this]; exact hv, .inl this.symm⟩
    · exact absurd (Prod.mk.inj h).2 (by decide)
theorem bytes_numB (n : Int) : bytesOf (numB n) = (Lib.itoa n).map fun b => (b.toNat : Int) := by simp [bytesOf, numB]
theorem read_back {s : ByteArray} {n : Int} (h : readR s = (n, true)) : parseV s = (n, true) := by
  unfold readR at h
  split at h
  case isFalse => exact absurd (Prod.mk.inj h).2 (by decide)
  rename_i ht
  unfold valR at h
  cases hv : valI (bytesOf (tail_ s)) 0 with
  | none => rw [hv] at h; exact absurd (Prod.mk.inj h).2 (by decide)
  | some v =>
    rw [hv] at h
    obtain ⟨h1, h2⟩ := fin_num h
    obtain ⟨b0, b1⟩ := valI_bound _ _ _ (by decide) hv
    rw [bytesOf_length] at b1
    have hp := pow6 _ ht.2
    have hn : -999999 ≤ n ∧ n ≤ 999999 := by omega
    have hsz : s.size ≤ 7 := by
      have : s.size ≤ (tail_ s).size + 1 := by
        unfold tail_
        split
        · rw [ByteArray.size_extract]; omega
        · omega
      omega
    have hl : (Lib.itoa n).length ≤ 18 := by
      rw [← numB_data, h1, data_length]; omega
    unfold parseV
    rw [← h1, numB_data, atoiAll_itoa n (by omega) (by omega) hl]
    exact if_pos ⟨hn.1, hn.2, rfl⟩
theorem parse_num {s : ByteArray} {n : Int} (h : parseV s = (n, true)) : -999999 ≤ n ∧ n ≤ 999999 ∧ numB n = s := by
  unfold parseV at h
  split at h
  · split at h
    · rename_i hc
      have := (Prod.mk.inj h).1
      subst this
      exact hc
    · exact absurd (Prod.mk.inj h).2 (by decide)
  · exact absurd (Prod.mk.inj h).2 (by decide)
theorem dec_len (u : Nat) (h : u ≤ 999999) : 1 ≤ (Lib.decDigits u).length ∧ (Lib.decDigits u).length ≤ 6 := by
  rw [Lib.decDigits_length]
  have h6 : (10 : Nat) ^ (5 + 1) = 1000000 := by decide
  exact ⟨Lib.nDigits_pos u, nDigits_le 5 u (by rw [h6]; omega)⟩
theorem valI_digits (u : Nat) : valI ((Lib.decDigits u).map fun b => (b.toNat : Int)) 0 = some (u : Int) := by
  have := valI_dec (Lib.decDigits u) 0
  rw [decFrom_dec] at this
  exact this
theorem read_forth {s : ByteArray} {n : Int} (hn : -999999 ≤ n ∧ n ≤ 999999) (hs : numB n = s) : readR s = (n, true) := by
  subst hs
  have hsz : (numB n).size = (Lib.itoa n).length := by rw [← numB_data, data_length]
  by_cases h0 : n < 0
  · have hi : Lib.itoa n = 45 :: Lib.decDigits n.natAbs := by unfold Lib.itoa; rw [if_pos h0]
    obtain ⟨l1, l2⟩ := dec_len n.natAbs (by omega)
    rw [hi, List.length_cons] at hsz
    have hb : bytesOf (numB n) = 45 :: (Lib.decDigits n.natAbs).map fun b => (b.toNat : Int) := by rw [bytes_numB, hi]; rfl
    have hb0 : bt (numB n) 0 = 45 := by rw [← rd_bytesOf, hb]; rfl
    have ht : tail_ (numB n) = (numB n).extract 1 (numB n).size := by unfold tail_; rw [if_pos ⟨by omega, hb0⟩]
    have htb : bytesOf (tail_ (numB n)) = (Lib.decDigits n.natAbs).map fun b => (b.toNat : Int) := by rw [ht, bytesOf_drop, hb]; rfl
    have hts : (tail_ (numB n)).size = (Lib.decDigits n.natAbs).length := by rw [← bytesOf_length, htb, List.length_map]
    unfold readR
    rw [if_pos (by omega), htb]
    unfold valR
    rw [valI_digits]
    show fin_ (numB n) (tail_ (numB n)) ((n.natAbs : Nat) : Int) = _
    have he : -((n.natAbs : Nat) : Int) = n := by omega
    unfold fin_
    rw [if_pos (by omega), he, if_pos rfl]
  · have hi : Lib.itoa n = Lib.decDigits n.toNat := by unfold Lib.itoa; rw [if_neg h0]
    obtain ⟨l1, l2⟩ := dec_len n.toNat (by omega)
    rw [hi] at hsz
    have hb : bytesOf (numB n) = (Lib.decDigits n.toNat).map fun b => (b.toNat : Int) := by rw [bytes_numB, hi]
    have hb0 : bt (numB n) 0 ≠ 45 := by
      obtain ⟨d, r, hd, e⟩ := dec_ne n.toNat
      rw [← rd_bytesOf, hb, e]
      show ((UInt8.ofNat (48 + d)).toNat : Int) ≠ 45
      have : d = 0 ∨ d = 1 ∨ d = 2 ∨ d = 3 ∨ d = 4 ∨ d = 5 ∨ d = 6 ∨ d = 7 ∨ d = 8 ∨ d = 9 := by omega
      rcases this with rfl | rfl | rfl | rfl | rfl | rfl | rfl | rfl | rfl | rfl <;> decide
    have ht : tail_ (numB n) = numB n := by unfold tail_; rw [if_neg (fun h => hb0 h.2)]
    unfold readR
    rw [ht, if_pos (by omega), hb]
    unfold valR
    rw [valI_digits]
    show fin_ (numB n) (numB n) ((n.toNat : Nat) : Int) = _
    have he : ((n.toNat : Nat) : Int) = n := by omega
    unfold fin_
    rw [if_neg (by omega), he, if_pos rfl]
theorem fin_no {s t : ByteArray} {v : Int} (h : (fin_ s t v).2 = false) : fin_ s t v = (0, false) := by
  unfold fin_ at h ⊢
  by_cases h1 : t.size < s.size
  · rw [if_pos h1] at h ⊢
    by_cases h2 : numB (-v) = s
    · rw [if_pos h2] at h; cases h
    · rw [if_neg h2]
  · rw [if_neg h1] at h ⊢
    by_cases h2 : numB v = s
    · rw [if_pos h2] at h; cases h
    · rw [if_neg h2]
theorem readR_no {s : ByteArray} (h : (readR s).2 = false) : readR s = (0, false) := by
  unfold readR at h ⊢
  split at h
  · rename_i hc
    rw [if_pos hc]
    unfold valR at h ⊢
    cases hv : valI (bytesOf (tail_ s)) 0 with
    | none => rfl
    | some v => rw [hv] at h; exact fin_no h
  · rename_i hc
    rw [if_neg hc]
theorem parseV_no {s : ByteArray} (h : (parseV s).2 = false) : parseV s = (0, false) := by
  unfold parseV at h ⊢
  rcases ha : Lib.atoiAll s.data.toList with n | _ | _
  · rw [ha] at h
    show (if -999999 ≤ n ∧ n ≤ 999999 ∧ numB n = s then (n, true) else ((0 : Int), false)) = _
    have h' : (if -999999 ≤ n ∧ n ≤ 999999 ∧ numB n = s then (n, true) else ((0 : Int), false)).2 = false := h
    split at h'
    · cases h'
    · rename_i hc
      rw [if_neg hc]
  · rfl
  · rfl
theorem readR_parseV (s : ByteArray) : readR s = parseV s := by
  cases h1 : (readR s).2 with
  | true =>
    have : readR s = ((readR s).1, true) := by rw [← h1]
    rw [this, read_back this]
  | false =>
    cases h2 : (parseV s).2 with
    | true =>
      have h3 : parseV s = ((parseV s).1, true) := by rw [← h2]
      obtain ⟨h4, h5, h6⟩ := parse_num h3
      have := read_forth ⟨h4, h5⟩ h6
      rw [this] at h1
      cases h1
    | false => rw [readR_no h1, parseV_no h2]
theorem spec_ParseInt_ev (s : ByteArray) (hs : s.size ≤ 1000000) : Ev (fun k => spec_ParseInt.f k s) (parseV s) := by
  unfold spec_ParseInt.f
  rw [← readR_parseV]
  exact Ev.bind (spec_l1Read_ev s hs) (Ev.const _)
theorem parse_format {n : Int} {s : ByteArray} (h : formatV n = (s, true)) : parseV s = (n, true) := by
  unfold formatV at h
  split at h
  · rename_i hn
    have := (Prod.mk.inj h).1
    rw [← readR_parseV]
    exact read_forth hn this
  · exact absurd (Prod.mk.inj h).2 (by decide)
end Go.Proofs.YtnbhbnndfpfikaaDoor.X
