/- What the laws' draws give: some value of moderate size. -/
import Derived.Test.YtnbhbnndfpfikaaDoorXn
import Derived.Test.YtnbhbnndfpfikaaDoorXs6
import Derived.Test.YtnbhbnndfpfikaaDoorY12
import Derived.Test.YtnbhbnndfpfikaaDoorY13
import Derived.Laws.BitsLemmas
namespace Go.Proofs.YtnbhbnndfpfikaaDoor.X
open Go.RowKit Go.Proofs.YtnbhbnndfpfikaaDoorW.PrintWords Go.Proofs.YtnbhbnndfpfikaaDoorW.PrintLast Go.Proofs.YtnbhbnndfpfikaaDoorW.PrintMore
set_option linter.unusedVariables false
set_option linter.unusedSimpArgs false
def byte (b : Int) : Prop := 0 ≤ b ∧ b ≤ 255
def Bytes (l : List Int) : Prop := ∀ b ∈ l, byte b
theorem rd_byte (l : List Int) (h : Bytes l) (i : Int) : 0 ≤ rd l i ∧ rd l i ≤ 255 := by
  unfold rd
  rw [List.getD_eq_getElem?_getD]
  cases e : l[i.toNat]? with
  | none => exact ⟨by decide, by decide⟩
  | some b => exact h b (List.mem_of_getElem? e)
theorem and255 (x : Int) (h0 : 0 ≤ x) (h1 : x < 18446744073709551616) : Go.bits .and .u64 x 255 = x % 256 := bits_mask .u64 64 (by decide) (fun n h₀ h₁ => by rw [IntKind.wrap_u64]; omega) 8 (by decide) x h0 h1
theorem high_byte (n : Int) : 0 ≤ wrap64 (Go.bits .and .u64 ((IntKind.u64.wrap n) / 1099511627776) 255) ∧ wrap64 (Go.bits .and .u64 ((IntKind.u64.wrap n) / 1099511627776) 255) ≤ 255 := by
  have h : 0 ≤ IntKind.u64.wrap n ∧ IntKind.u64.wrap n < 18446744073709551616 := by rw [IntKind.wrap_u64]; omega
  rw [and255 _ (by omega) (by omega), w64 _ (by omega) (by omega)]
  omega
theorem next_ok (s : List Int) (hs : Bytes s) (a d : Int) (h0 : 0 ≤ a) (h1 : a ≤ 1000000) : ∃ x d', spec_l1Cur_next.f s a d = some (x, a + 1, d') ∧ 0 ≤ x ∧ x ≤ 255 := by
  unfold spec_l1Cur_next.f
  have hr := rd_byte s hs a
  rw [w64 (a + 1) (by omega) (by omega), w64 (rd s a) (by omega) (by omega)]
  by_cases c1 : a < (s.length : Int)
  · rw [if_pos c1, if_pos h0]
    by_cases c2 : a + 1 ≤ (s.length : Int)
    · rw [if_pos c2]; exact ⟨_, _, rfl, hr.1, hr.2⟩
    · rw [if_neg c2]; exact ⟨_, _, rfl, (high_byte _).1, (high_byte _).2⟩
  · rw [if_neg c1]
    by_cases c2 : a + 1 ≤ (s.length : Int)
    · rw [if_pos c2]; exact ⟨_, _, rfl, by decide, by decide⟩
    · rw [if_neg c2]; exact ⟨_, _, rfl, (high_byte _).1, (high_byte _).2⟩
theorem pick_ok (s : List Int) (hs : Bytes s) (a d n : Int) (h0 : 0 ≤ a) (h1 : a ≤ 900000) (hn : 1 ≤ n) (hn2 : n ≤ 1000000000) : ∃ x a' d', spec_l1Cur_pick.f s a d n = some (x, a', d') ∧ 0 ≤ x ∧ x < n ∧ a ≤ a' ∧ a' ≤ a + 2 := by
  unfold spec_l1Cur_pick.f
  by_cases c1 : n ≤ 1
  · rw [if_pos c1]; exact ⟨0, a, d, rfl, by omega, by omega, by omega, by omega⟩
  · rw [if_neg c1]
    obtain ⟨x, d1, e1, x0, x1⟩ := next_ok s hs a d h0 (by omega)
    rw [e1]
    simp only [Option.bind_some]
    by_cases c2 : n > 200
    · rw [if_pos c2]
      obtain ⟨y, d2, e2, y0, y1⟩ := next_ok s hs (a + 1) d1 (by omega) (by omega)
      rw [e2]
      simp only [Option.bind_some]
      rw [if_neg (by omega), w64 (x * 256) (by omega) (by omega), w64 (x * 256 + y) (by omega) (by omega), Int.tmod_eq_emod_of_nonneg (by omega)]
      exact ⟨_, _, _, rfl, Int.emod_nonneg _ (by omega), Int.emod_lt_of_pos _ (by omega), by omega, by omega⟩
    · rw [if_neg c2, if_neg (by omega), Int.tmod_eq_emod_of_nonneg (by omega)]
      exact ⟨_, _, _, rfl, Int.emod_nonneg _ (by omega), Int.emod_lt_of_pos _ (by omega), by omega, by omega⟩
theorem among_ok (s : List Int) (hs : Bytes s) (a d : Int) (l : List Int) (h0 : 0 ≤ a) (h1 : a ≤ 900000) (hn : 1 ≤ l.length) (hn2 : l.length ≤ 65536) : ∃ x a' d', spec_l1Cur_among.f s a d l = some (x, a', d') ∧ x ∈ l ∧ 0 ≤ a' ∧ a' ≤ a + 2 := by
  unfold spec_l1Cur_among.f
  obtain ⟨i, a', d', e, i0, i1, j0, j1⟩ := pick_ok s hs a d (l.length : Int) h0 h1 (by omega) (by omega)
  rw [e]
  simp only [Option.bind_some]
  rw [if_pos i0, if_pos i1]
  refine ⟨_, _, _, rfl, ?_, by show 0 ≤ a'; omega, j1⟩
  unfold rd
  rw [List.getD_eq_getElem?_getD, List.getElem?_eq_getElem (by omega)]
  exact List.getElem_mem _
theorem of_ok (s : List Int) (hs : Bytes s) (a d : Int) (l : List ByteArray) (h0 : 0 ≤ a) (h1 : a ≤ 900000) (hn : 1 ≤ l.length) (hn2 : l.length ≤ 65536) : ∃ x a' d', spec_l1Cur_of.f s a d l = some (x, a', d') ∧ x ∈ l ∧ 0 ≤ a' ∧ a' ≤ a + 2 := by
  unfold spec_l1Cur_of.f
  obtain ⟨i, a', d', e, i0, i1, j0, j1⟩ := pick_ok s hs a d (l.length : Int) h0 h1 (by omega) (by omega)
  rw [e]
  simp only [Option.bind_some]
  rw [if_pos i0, if_pos i1]
  refine ⟨_, _, _, rfl, ?_, by show 0 ≤ a'; omega, j1⟩
  unfold rdOf
  rw [List.getD_eq_getElem?_getD, List.getElem?_eq_getElem (by omega)]
  exact List.getElem_mem _
theorem one_ok (s : List Int) (hs : Bytes s) (a d n : Int) (h0 : 0 ≤ a) (h1 : a ≤ 900000) (hn : 1 ≤ n) (hn2 : n ≤ 1000000000) : ∃ x a' d', spec_l1Cur_one.f s a d n = some (x, a', d') ∧ 0 ≤ a' ∧ a' ≤ a + 2 := by
  unfold spec_l1Cur_one.f
  obtain ⟨i, a', d', e, i0, i1, j0, j1⟩ := pick_ok s hs a d n h0 h1 hn hn2
  rw [e]
  exact ⟨_, _, _, rfl, by show 0 ≤ a'; omega, j1⟩
theorem small_mem {l : List ByteArray} {m : Nat} (h : l.all (fun s => decide (s.size ≤ m)) = true) {x : ByteArray} (hx : x ∈ l) : x.size ≤ m := qF (List.all_eq_true.1 h x hx)
theorem strOf_size (l : List Int) : (strOfNums l).size = l.length := by
  rw [← bytesOf_length (strOfNums l)]
  simp [bytesOf, strOfNums]
theorem rec_ok (s : List Int) (hs : Bytes s) (a d : Int) (h0 : 0 ≤ a) (h1 : a ≤ 800000) : ∃ c r a' d', spec_l1Cur_logRecord.f s a d = some (c, r, a', d') ∧ c.size ≤ 20 ∧ r.size ≤ 20 ∧ 0 ≤ a' ∧ a' ≤ a + 8 := by
  unfold spec_l1Cur_logRecord.f
  obtain ⟨x, a1, d1, e1, m1, p1, q1⟩ := of_ok s hs a d [(⟨#[114, 111, 108, 108]⟩ : ByteArray), (⟨#[99, 104, 97, 110, 99, 101, 32, 55]⟩ : ByteArray), (⟨#[120]⟩ : ByteArray), (⟨#[97, 103, 97, 105, 110, 32, 49]⟩ : ByteArray), (⟨#[48, 32, 49]⟩ : ByteArray)] h0 (by omega) (by simp) (by simp)
  rw [e1]
  simp only [Option.bind_some]
  obtain ⟨y, a2, d2, e2, m2, p2, q2⟩ := of_ok s hs a1 d1 [(⟨#[]⟩ : ByteArray), (⟨#[51]⟩ : ByteArray), (⟨#[63]⟩ : ByteArray), (⟨#[97, 64, 98]⟩ : ByteArray), (⟨#[51, 32, 49, 32, 50]⟩ : ByteArray)] (by omega) (by omega) (by simp) (by simp)
  rw [e2]
  simp only [Option.bind_some]
  have sx := small_mem (m := 20) (by rfl) m1
  have sy := small_mem (m := 20) (by rfl) m2
  obtain ⟨i, a3, d3, e3, i0, i1, p3, q3⟩ := pick_ok s hs a2 d2 24 (by omega) (by omega) (by decide) (by decide)
  rw [e3]
  simp only [Option.bind_some]
  by_cases c1 : i = 0
  · rw [if_pos c1, if_pos (by decide)]
    obtain ⟨z, a4, d4, e4, m4, p4, q4⟩ := of_ok s hs a3 d3 [(⟨#[]⟩ : ByteArray), (⟨#[97, 64, 98]⟩ : ByteArray), (⟨#[97, 35]⟩ : ByteArray), (⟨#[10]⟩ : ByteArray), strOfNums (List.replicate 3 0)] (by omega) (by omega) (by simp) (by simp)
    rw [e4]
    have sz := small_mem (m := 20) (by rfl) m4
    exact ⟨_, _, _, _, rfl, sz, sy, p4, by show a4 ≤ a + 8; omega⟩
  · rw [if_neg c1]
    by_cases c2 : i = 1
    · rw [if_pos c2]
      obtain ⟨z, a4, d4, e4, m4, p4, q4⟩ := of_ok s hs a3 d3 [(⟨#[35]⟩ : ByteArray), (⟨#[10]⟩ : ByteArray), (⟨#[127]⟩ : ByteArray)] (by omega) (by omega) (by simp) (by simp)
      rw [e4]
      have sz := small_mem (m := 20) (by rfl) m4
      exact ⟨_, _, _, _, rfl, sx, sz, p4, by show a4 ≤ a + 8; omega⟩
    · rw [if_neg c2]
      exact ⟨_, _, _, _, rfl, sx, sy, by show 0 ≤ a3; omega, by show a3 ≤ a + 8; omega⟩
theorem recLine_little (n : Int) (h0 : -9223372036854775808 ≤ n) (h1 : n ≤ 9223372036854775807) (c r : ByteArray) : (recLine n c r).size ≤ 70 + c.size + r.size := by
  have h2 := body_size n h0 h1 c r
  have h3 := chk_num (body n c r)
  unfold recLine sealB
  rw [ByteArray.size_append, ByteArray.size_append, ByteArray.size_append, one_size]
  have : nl.size = 1 := rfl
  omega
def small (b : Nat) (D P : ByteArray) (n : Int) : Prop := D.size + P.size ≤ b ∧ -100 ≤ n ∧ n ≤ 100
theorem append_small {b : Nat} {D P c r : ByteArray} {n : Int} (h : small b D P n) (hb : b ≤ 1000000) (hc : c.size ≤ 20) (hr : r.size ≤ 20) : ∃ D' P' n' st, (Ev (fun k => spec_AppendRecord.f k D P n c r) (D', P', n', st)) ∧ small (b + 200) D' P' n' := by
  obtain ⟨D', P', n', st, hE⟩ : ∃ D' P' n' st, appended D P n c r = (D', P', n', st) := ⟨_, _, _, _, rfl⟩
  refine ⟨D', P', n', st, by rw [← hE]; exact spec_AppendRecord_ev D P n c r (by have := h.1; omega) (by omega) (by omega), ?_⟩
  have h1 := h.1
  have h2 := h.2
  unfold appended at hE
  split at hE
  · rename_i hv
    have hn := valid_count hv.1
    split at hE
    · simp only [Prod.mk.injEq] at hE
      obtain ⟨rfl, rfl, rfl, -⟩ := hE
      exact ⟨by omega, h2⟩
    · rename_i h60
      have hl := recLine_little n (by omega) (by omega) c r
      have hw : wrap64 (n + 1) = n + 1 := w64 _ (by omega) (by omega)
      simp only [Prod.mk.injEq] at hE
      obtain ⟨rfl, rfl, rfl, -⟩ := hE
      exact ⟨by rw [ByteArray.size_append]; omega, by omega, by omega⟩
  · simp only [Prod.mk.injEq] at hE
    obtain ⟨rfl, rfl, rfl, -⟩ := hE
    exact ⟨by omega, h2⟩
theorem sync_small {b : Nat} {D P : ByteArray} {n : Int} (h : small b D P n) (hb : b ≤ 1000000) : ∃ D' P' n' st, (Ev (fun k => spec_SyncLog.f k D P n) (D', P', n', st)) ∧ small b D' P' n' := by
  have hs := spec_SyncLog_ev D P n (by have := h.1; omega)
  by_cases hv : validL D P n = true
  · rw [if_pos hv] at hs
    refine ⟨_, _, _, _, hs, ?_, h.2.1, h.2.2⟩
    rw [ByteArray.size_append]
    have := h.1
    show D.size + P.size + 0 ≤ b
    omega
  · rw [if_neg hv] at hs
    exact ⟨_, _, _, _, hs, Nat.zero_le _, by decide, by decide⟩
theorem log12_loop (s : List Int) (hs : Bytes s) : ∀ (m : Nat) (a d : Int) (b : Nat) (D P : ByteArray) (n : Int), m ≤ 10 → 0 ≤ a → a + 20 * m ≤ 700000 → small b D P n → b + 200 * m ≤ 900000 →
    ∃ D' P' n' a' d', (Ev (fun k => spec_l1Cur_log12.l0 k (m : Int) s a d D P n) (D', P', n', a', d')) ∧ small (b + 200 * m) D' P' n' ∧ 0 ≤ a' ∧ a' ≤ a + 20 * m
  | 0, a, d, b, D, P, n, hm, h0, h1, hl, hb => by
    refine ⟨D, P, n, a, d, Ev.shift ?_, by simpa using hl, h0, by omega⟩
    unfold spec_l1Cur_log12.l0
    exact Ev.neg (by omega) (Ev.const _)
  | m + 1, a, d, b, D, P, n, hm, h0, h1, hl, hb => by
    obtain ⟨c, r, a1, d1, e1, hc, hr, p1, q1⟩ := rec_ok s hs a d h0 (by omega)
    obtain ⟨D1, P1, n1, st1, E1, hl1⟩ := append_small (c := c) (r := r) hl (by omega) hc hr
    obtain ⟨x, a2, d2, e2, p2, q2⟩ := one_ok s hs a1 d1 4 p1 (by omega) (by decide) (by decide)
    have hw : wrap64 (((m + 1 : Nat) : Int) - 1) = (m : Int) := by rw [w64 _ (by omega) (by omega)]; omega
    cases x with
    | true =>
      obtain ⟨D2, P2, n2, st2, E2, hl2⟩ := sync_small hl1 (by omega)
      obtain ⟨D', P', n', a', d', E, hl', p', q'⟩ := log12_loop s hs m a2 d2 (b + 200) D2 P2 n2 (by omega) p2 (by omega) hl2 (by omega)
      refine ⟨D', P', n', a', d', Ev.shift ?_, by rw [show b + 200 * (m + 1) = b + 200 + 200 * m by omega]; exact hl', p', by omega⟩
      unfold spec_l1Cur_log12.l0
      simp only [e1, Option.bind_some, hw]
      refine Ev.pos (by omega) (Ev.bind E1 ?_)
      simp only [e2, Option.bind_some]
      exact Ev.pos (by trivial) (Ev.bind E2 E)
    | false =>
      obtain ⟨D', P', n', a', d', E, hl', p', q'⟩ := log12_loop s hs m a2 d2 (b + 200) D1 P1 n1 (by omega) p2 (by omega) hl1 (by omega)
      refine ⟨D', P', n', a', d', Ev.shift ?_, by rw [show b + 200 * (m + 1) = b + 200 + 200 * m by omega]; exact hl', p', by omega⟩
      unfold spec_l1Cur_log12.l0
      simp only [e1, Option.bind_some, hw]
      refine Ev.pos (by omega) (Ev.bind E1 ?_)
      simp only [e2, Option.bind_some]
      exact Ev.neg (by decide) E
theorem log12_ok (s : List Int) (hs : Bytes s) (a d : Int) (h0 : 0 ≤ a) (h1 : a ≤ 600000) : ∃ D P n a' d', (Ev (fun k => spec_l1Cur_log12.f k s a d) (D, P, n, a', d')) ∧ small 2000 D P n ∧ 0 ≤ a' ∧ a' ≤ a + 300 := by
  obtain ⟨i, a1, d1, e1, i0, i1, p1, q1⟩ := pick_ok s hs a d 7 h0 (by omega) (by decide) (by decide)
  obtain ⟨m, rfl⟩ := Int.eq_ofNat_of_zero_le i0
  obtain ⟨D, P, n, a', d', E, hl, p', q'⟩ := log12_loop s hs m a1 d1 0 ⟨#[]⟩ ⟨#[]⟩ 0 (by omega) (by omega) (by omega) ⟨Nat.le_refl _, by decide, by decide⟩ (by omega)
  refine ⟨D, P, n, a', d', ?_, ⟨by have := hl.1; omega, hl.2.1, hl.2.2⟩, p', by omega⟩
  unfold spec_l1Cur_log12.f
  simp only [e1, Option.bind_some]
  exact E
theorem spoilt_ok (s : List Int) (hs : Bytes s) (a d : Int) (t w : ByteArray) (h0 : 0 ≤ a) (h1 : a ≤ 800000) (ht : t.size ≤ 100000) (hw : 1 ≤ w.size) (hw2 : w.size ≤ 10) : ∃ x a' d', spec_l1Cur_spoilt.f s a d t w = some (x, a', d') ∧ x.size ≤ t.size + 10 ∧ 0 ≤ a' ∧ a' ≤ a + 6 := by
  unfold spec_l1Cur_spoilt.f
  by_cases c0 : t.toList = ([] : List UInt8)
  · rw [if_pos c0, if_pos (by decide), if_pos (by omega)]
    refine ⟨_, _, _, rfl, ?_, h0, by omega⟩
    rw [ByteArray.size_extract]; omega
  · rw [if_neg c0]
    have ht0 : t.size ≠ 0 := fun h => c0 ((size_nil t).2 h)
    obtain ⟨i, a1, d1, e1, i0, i1, p1, q1⟩ := pick_ok s hs a d (t.size : Int) h0 (by omega) (by omega) (by omega)
    rw [e1]
    simp only [Option.bind_some]
    obtain ⟨j, a2, d2, e2, j0, j1, p2, q2⟩ := pick_ok s hs a1 d1 (w.size : Int) (by omega) (by omega) (by omega) (by omega)
    rw [e2]
    simp only [Option.bind_some]
    obtain ⟨u, a3, d3, e3, u0, u1, p3, q3⟩ := pick_ok s hs a2 d2 3 (by omega) (by omega) (by decide) (by decide)
    rw [if_pos j0, if_pos (by omega), if_pos (by decide), if_pos (by omega), e3]
    simp only [Option.bind_some]
    have hw1 : wrap64 (i + 1) = i + 1 := w64 _ (by omega) (by omega)
    rw [hw1]
    by_cases k0 : u = 0
    · rw [if_pos k0, if_pos i0, if_pos (by omega), if_pos (by omega), if_pos (by omega)]
      refine ⟨_, _, _, rfl, ?_, by show 0 ≤ a3; omega, by show a3 ≤ a + 6; omega⟩
      simp only [ByteArray.size_append, ByteArray.size_extract]
      omega
    · rw [if_neg k0]
      by_cases k1 : u = 1
      · rw [if_pos k1, if_pos i0, if_pos (by omega), if_pos (by omega), if_pos (by omega), if_pos (by omega), if_pos (by omega)]
        refine ⟨_, _, _, rfl, ?_, by show 0 ≤ a3; omega, by show a3 ≤ a + 6; omega⟩
        simp only [ByteArray.size_append, ByteArray.size_extract]
        omega
      · rw [if_neg k1, if_pos i0, if_pos (by omega), if_pos (by omega), if_pos (by omega), if_pos (by omega)]
        refine ⟨_, _, _, rfl, ?_, by show 0 ≤ a3; omega, by show a3 ≤ a + 6; omega⟩
        simp only [ByteArray.size_append, ByteArray.size_extract]
        omega
theorem anyLog_ok (s : List Int) (hs : Bytes s) (a d : Int) (h0 : 0 ≤ a) (h1 : a ≤ 500000) : ∃ D P n a' d', (Ev (fun k => spec_l1Cur_anyLog.f k s a d) (D, P, n, a', d')) ∧ (D.size + P.size ≤ 5000 ∧ -200 ≤ n ∧ n ≤ 200) ∧ 0 ≤ a' ∧ a' ≤ a + 400 := by
  obtain ⟨D, P, n, a1, d1, E, hl, p1, q1⟩ := log12_ok s hs a d h0 (by omega)
  obtain ⟨i, a2, d2, e2, i0, i1, p2, q2⟩ := pick_ok s hs a1 d1 24 p1 (by omega) (by decide) (by decide)
  have hD := hl.1
  have hn := hl.2
  by_cases c0 : i = 0
  · have hw : wrap64 (n + 1) = n + 1 := w64 _ (by omega) (by omega)
    refine ⟨D, P, n + 1, a2, d2, ?_, ⟨by omega, by omega, by omega⟩, by omega, by omega⟩
    unfold spec_l1Cur_anyLog.f
    refine Ev.bind E ?_
    simp only [e2, Option.bind_some, hw]
    exact Ev.pos c0 (Ev.const _)
  · by_cases c1 : i = 1
    · obtain ⟨x, a3, d3, e3, hx, p3, q3⟩ := spoilt_ok s hs a2 d2 P ⟨#[35, 64, 10, 48, 49]⟩ (by omega) (by omega) (by omega) (by decide) (by decide)
      refine ⟨D, x, n, a3, d3, ?_, ⟨by omega, by omega, by omega⟩, p3, by omega⟩
      unfold spec_l1Cur_anyLog.f
      refine Ev.bind E ?_
      simp only [e2, e3, Option.bind_some]
      exact Ev.neg c0 (Ev.pos c1 (Ev.const _))
    · by_cases c2 : i = 2
      · refine ⟨D ++ P, P, n, a2, d2, ?_, ⟨by rw [ByteArray.size_append]; omega, by omega, by omega⟩, by omega, by omega⟩
        unfold spec_l1Cur_anyLog.f
        refine Ev.bind E ?_
        simp only [e2, Option.bind_some]
        exact Ev.neg c0 (Ev.neg c1 (Ev.pos c2 (Ev.pos (by omega) (Ev.const _))))
      · refine ⟨D, P, n, a2, d2, ?_, ⟨by omega, by omega, by omega⟩, by omega, by omega⟩
        unfold spec_l1Cur_anyLog.f
        refine Ev.bind E ?_
        simp only [e2, Option.bind_some]
        exact Ev.neg c0 (Ev.neg c1 (Ev.neg c2 (Ev.const _)))
theorem drawValid (s : List Int) (hs : Bytes s) : ∃ c r, spec_DrawIsValidRecord.f s = some (c, r) ∧ c.size ≤ 20 ∧ r.size ≤ 20 := by
  unfold spec_DrawIsValidRecord.f
  obtain ⟨c, r, a1, d1, e1, hc, hr, -, -⟩ := rec_ok s hs 0 0 (by decide) (by decide)
  rw [e1]
  exact ⟨c, r, rfl, hc, hr⟩
theorem drawEncode (s : List Int) (hs : Bytes s) : ∃ n c r, spec_DrawEncodeRecord.f s = some (n, c, r) ∧ -100 ≤ n ∧ n ≤ 100 ∧ c.size ≤ 20 ∧ r.size ≤ 20 := by
  unfold spec_DrawEncodeRecord.f
  obtain ⟨n, a0, d0, e0, hn, p0, q0⟩ := among_ok s hs 0 0 [0, 1, 12, 59, 60, (-1)] (by decide) (by decide) (by simp) (by simp)
  rw [e0]
  simp only [Option.bind_some]
  obtain ⟨c, r, a1, d1, e1, hc, hr, -, -⟩ := rec_ok s hs a0 d0 p0 (by omega)
  rw [e1]
  simp only [List.mem_cons, List.not_mem_nil, or_false] at hn
  exact ⟨n, c, r, rfl, by omega, by omega, hc, hr⟩
theorem append_loop (s : List Int) (hs : Bytes s) : ∀ (m : Nat) (a d : Int) (b : Nat) (D P : ByteArray) (n : Int), m ≤ 100 → 0 ≤ a → a ≤ 700000 → small b D P n → b + 200 * m ≤ 900000 →
    ∃ D' P' n' c r, (Ev (fun k => spec_DrawAppendRecord.l0 k (m : Int) s a d D P n) (D', P', n', c, r)) ∧ small (b + 200 * m) D' P' n' ∧ c.size ≤ 20 ∧ r.size ≤ 20
  | 0, a, d, b, D, P, n, hm, h0, h1, hl, hb => by
    obtain ⟨c, r, a1, d1, e1, hc, hr, -, -⟩ := rec_ok s hs a d h0 (by omega)
    refine ⟨D, P, n, c, r, Ev.shift ?_, by simpa using hl, hc, hr⟩
    unfold spec_DrawAppendRecord.l0
    simp only [e1, Option.bind_some]
    exact Ev.neg (by omega) (Ev.const _)
  | m + 1, a, d, b, D, P, n, hm, h0, h1, hl, hb => by
    obtain ⟨D1, P1, n1, st1, E1, hl1⟩ := append_small (c := ⟨#[120]⟩) (r := ⟨#[]⟩) hl (by omega) (by decide) (by decide)
    have hw : wrap64 (((m + 1 : Nat) : Int) - 1) = (m : Int) := by rw [w64 _ (by omega) (by omega)]; omega
    obtain ⟨D', P', n', c, r, E, hl', hc, hr⟩ := append_loop s hs m a d (b + 200) D1 P1 n1 (by omega) h0 h1 hl1 (by omega)
    refine ⟨D', P', n', c, r, Ev.shift ?_, by rw [show b + 200 * (m + 1) = b + 200 + 200 * m by omega]; exact hl', hc, hr⟩
    unfold spec_DrawAppendRecord.l0
    simp only [hw]
    exact Ev.pos (by omega) (Ev.bind E1 E)
theorem drawAppend (s : List Int) (hs : Bytes s) : ∃ D P n c r, (Ev (fun k => spec_DrawAppendRecord.f k s) (D, P, n, c, r)) ∧ (D.size + P.size ≤ 20000 ∧ -200 ≤ n ∧ n ≤ 200) ∧ c.size ≤ 20 ∧ r.size ≤ 20 := by
  obtain ⟨D, P, n, a1, d1, E, hl, p1, q1⟩ := anyLog_ok s hs 0 0 (by decide) (by decide)
  obtain ⟨x, a2, d2, e2, p2, q2⟩ := one_ok s hs a1 d1 40 p1 (by omega) (by decide) (by decide)
  cases x with
  | true =>
    obtain ⟨i, a3, d3, e3, i0, i1, p3, q3⟩ := pick_ok s hs a2 d2 2 p2 (by omega) (by decide) (by decide)
    obtain ⟨m, hm⟩ := Int.eq_ofNat_of_zero_le (show 0 ≤ 59 + i by omega)
    obtain ⟨D', P', n', c, r, E', hl', hc, hr⟩ := append_loop s hs m a3 d3 0 ⟨#[]⟩ ⟨#[]⟩ 0 (by omega) (by omega) (by omega) ⟨Nat.le_refl _, by decide, by decide⟩ (by omega)
    refine ⟨D', P', n', c, r, ?_, ⟨by have := hl'.1; omega, by have := hl'.2; omega, by have := hl'.2; omega⟩, hc, hr⟩
    unfold spec_DrawAppendRecord.f
    refine Ev.bind E ?_
    have hw : wrap64 (59 + i) = (m : Int) := by rw [w64 _ (by omega) (by omega)]; exact hm
    simp only [e2, e3, Option.bind_some, hw]
    exact Ev.pos (by trivial) E'
  | false =>
    obtain ⟨c, r, a3, d3, e3, hc, hr, -, -⟩ := rec_ok s hs a2 d2 p2 (by omega)
    refine ⟨D, P, n, c, r, ?_, ⟨by omega, hl.2⟩, hc, hr⟩
    unfold spec_DrawAppendRecord.f
    refine Ev.bind E ?_
    simp only [e2, e3, Option.bind_some]
    exact Ev.neg (by decide) (Ev.const _)
theorem drawCrash (s : List Int) (hs : Bytes s) : ∃ D P n keep t, (Ev (fun k => spec_DrawCrashLog.f k s) (D, P, n, keep, t)) ∧ (D.size + P.size ≤ 5000 ∧ -200 ≤ n ∧ n ≤ 200) ∧ -10 ≤ keep ∧ keep ≤ 100000 := by
  obtain ⟨D, P, n, a1, d1, E, hl, p1, q1⟩ := anyLog_ok s hs 0 0 (by decide) (by decide)
  have hw : wrap64 ((P.size : Int) + 3) = (P.size : Int) + 3 := w64 _ (by omega) (by omega)
  obtain ⟨i, a2, d2, e2, i0, i1, p2, q2⟩ := pick_ok s hs a1 d1 ((P.size : Int) + 3) p1 (by omega) (by omega) (by omega)
  obtain ⟨x, a3, d3, e3, p3, q3⟩ := one_ok s hs a2 d2 2 (by omega) (by omega) (by decide) (by decide)
  have hw2 : wrap64 (i - 1) = i - 1 := w64 _ (by omega) (by omega)
  refine ⟨D, P, n, i - 1, x, ?_, ⟨by omega, hl.2⟩, by omega, by omega⟩
  unfold spec_DrawCrashLog.f
  refine Ev.bind E ?_
  simp only [hw, e2, e3, Option.bind_some, hw2]
  exact Ev.const _
theorem recover_j0 (s : List Int) (hs : Bytes s) (x : ByteArray) (a d : Int) (h0 : 0 ≤ a) (h1 : a ≤ 700000) (hx : x.size ≤ 40000) : ∃ y, (Ev (fun k => spec_DrawRecoverLog.j0 k x s a d) y) ∧ y.size ≤ 40000 := by
  obtain ⟨b, a1, d1, e1, p1, q1⟩ := one_ok s hs a d 40 h0 (by omega) (by decide) (by decide)
  cases b with
  | true =>
    obtain ⟨i, a2, d2, e2, i0, i1, p2, q2⟩ := pick_ok s hs a1 d1 2 p1 (by omega) (by decide) (by decide)
    have hw : wrap64 (30000 + i) = 30000 + i := w64 _ (by omega) (by omega)
    refine ⟨strOfNums (List.replicate (30000 + i).toNat 0), Ev.shift ?_, by rw [strOf_size, List.length_replicate]; omega⟩
    unfold spec_DrawRecoverLog.j0
    simp only [e1, e2, Option.bind_some, hw]
    exact Ev.pos (by trivial) (Ev.pos (by omega) (Ev.pos (by omega) (Ev.const _)))
  | false =>
    refine ⟨x, Ev.shift ?_, hx⟩
    unfold spec_DrawRecoverLog.j0
    simp only [e1, Option.bind_some]
    exact Ev.neg (by decide) (Ev.const _)
theorem drawRecover (s : List Int) (hs : Bytes s) : ∃ y, (Ev (fun k => spec_DrawRecoverLog.f k s) y) ∧ y.size ≤ 40000 := by
  obtain ⟨D, P, n, a1, d1, E, hl, p1, q1⟩ := log12_ok s hs 0 0 (by decide) (by decide)
  have hD := hl.1
  obtain ⟨i, a2, d2, e2, i0, i1, p2, q2⟩ := pick_ok s hs a1 d1 4 p1 (by omega) (by decide) (by decide)
  have hDP : (D ++ P).size = D.size + P.size := ByteArray.size_append
  by_cases c0 : i = 0
  · obtain ⟨x, a3, d3, e3, hx, p3, q3⟩ := spoilt_ok s hs a2 d2 (D ++ P) ⟨#[35, 64, 10, 48, 49]⟩ (by omega) (by omega) (by omega) (by decide) (by decide)
    obtain ⟨y, E', hy⟩ := recover_j0 s hs x a3 d3 p3 (by omega) (by omega)
    refine ⟨y, ?_, hy⟩
    unfold spec_DrawRecoverLog.f
    refine Ev.bind E (Ev.pos (show D.size + P.size ≤ 9223372036854775807 by omega) ?_)
    simp only [e2, e3, Option.bind_some]
    exact Ev.pos c0 E'
  · by_cases c1 : i = 1
    · have hw : wrap64 ((D.size + P.size : Int) + 1) = (D.size + P.size : Int) + 1 := w64 _ (by omega) (by omega)
      obtain ⟨j, a3, d3, e3, j0, j1, p3, q3⟩ := pick_ok s hs a2 d2 ((D.size + P.size : Int) + 1) (by omega) (by omega) (by omega) (by omega)
      obtain ⟨y, E', hy⟩ := recover_j0 s hs ((D ++ P).extract 0 j.toNat) a3 d3 (by omega) (by omega) (by rw [ByteArray.size_extract]; omega)
      refine ⟨y, ?_, hy⟩
      unfold spec_DrawRecoverLog.f
      refine Ev.bind E (Ev.pos (show D.size + P.size ≤ 9223372036854775807 by omega) ?_)
      simp only [e2, hw, e3, Option.bind_some]
      exact Ev.neg c0 (Ev.pos c1 (Ev.pos j0 (Ev.pos (by omega) E')))
    · by_cases c2 : i = 2
      · obtain ⟨j, a3, d3, e3, j0, j1, p3, q3⟩ := pick_ok s hs a2 d2 4 (by omega) (by omega) (by decide) (by decide)
        obtain ⟨c, r, a4, d4, e4, hc, hr, p4, q4⟩ := rec_ok s hs a3 d3 (by omega) (by omega)
        have hl4 := recLine_little j (by omega) (by omega) c r
        obtain ⟨y, E', hy⟩ := recover_j0 s hs ((D ++ P) ++ recLine j c r) a4 d4 (by omega) (by omega) (by rw [ByteArray.size_append]; omega)
        refine ⟨y, ?_, hy⟩
        unfold spec_DrawRecoverLog.f
        refine Ev.bind E (Ev.pos (show D.size + P.size ≤ 9223372036854775807 by omega) ?_)
        simp only [e2, e3, e4, Option.bind_some]
        exact Ev.neg c0 (Ev.neg c1 (Ev.pos c2 (Ev.bind (spec_l12Line_ev j (by omega) (by omega) c r (by omega) (by omega)) (Ev.pos (by omega) E'))))
      · obtain ⟨y, E', hy⟩ := recover_j0 s hs (D ++ P) a2 d2 (by omega) (by omega) (by omega)
        refine ⟨y, ?_, hy⟩
        unfold spec_DrawRecoverLog.f
        refine Ev.bind E (Ev.pos (show D.size + P.size ≤ 9223372036854775807 by omega) ?_)
        simp only [e2, Option.bind_some]
        exact Ev.neg c0 (Ev.neg c1 (Ev.neg c2 E'))
theorem rCut_eq (l : List Int) (i : Nat) (hi : i ≤ 100) : laws_rCut.f l (i : Int) = some (l.drop (min i l.length)) := by
  unfold laws_rCut.f
  by_cases h : (i : Int) > (l.length : Int)
  · rw [if_pos h, if_pos (by omega), if_pos (by omega), Nat.min_eq_right (by omega)]; rfl
  · rw [if_neg h, if_pos (by omega), if_pos (by omega), Nat.min_eq_left (by omega)]; rfl
theorem rRecords_ev (l : List S) (hl : l.length ≤ 1000) : Ev (fun k => laws_rRecords.f k l l) true := by
  have h : ∀ (n i : Nat), i + n = l.length → Ev (fun k => laws_rRecords.l0 k l l (i : Int)) true := by
    intro n
    induction n with
    | zero =>
      intro i hi
      refine Ev.shift ?_
      unfold laws_rRecords.l0
      exact Ev.neg (by omega) (Ev.const _)
    | succ n ih =>
      intro i hi
      refine Ev.shift ?_
      unfold laws_rRecords.l0
      refine Ev.pos (by omega) (Ev.pos (by omega) (Ev.pos (by omega) (Ev.neg (by simp) ?_)))
      rw [w64 ((i : Int) + 1) (by omega) (by omega)]
      exact ih (i + 1) (by omega)
  unfold laws_rRecords.f
  exact Ev.pos rfl (h l.length 0 (by omega))
def recoverV (s : ByteArray) : ByteArray × ByteArray × Int × Int × Bool := if s.size ≤ 30000 then (s.extract 0 (endOf s), ⟨#[]⟩, ((recs s).length : Int), (endOf s : Int), true) else (⟨#[]⟩, ⟨#[]⟩, 0, 0, false)
theorem spec_RecoverLog_ev (s : ByteArray) (hs : s.size ≤ 100000) : Ev (fun k => spec_RecoverLog.f k s) (recoverV s) := by
  unfold spec_RecoverLog.f recoverV
  by_cases h : s.size ≤ 30000
  · rw [if_pos h]
    have hr := (recovered s h).1
    refine Ev.neg (by omega) (Ev.bind (spec_l12Open_ev s (by omega)) (Ev.pos (by omega) (Ev.pos ?_ (Ev.const _))))
    show ((endOf s : Nat) : Int) ≤ _
    omega
  · rw [if_neg h]
    exact Ev.pos (by omega) (Ev.const _)
theorem impl_RecoverLog_ev (s : ByteArray) (hs : s.size ≤ 100000) : Ev (fun k => impl_RecoverLog.f k s) (recoverV s) := by
  unfold impl_RecoverLog.f recoverV
  by_cases h : s.size ≤ 30000
  · rw [if_pos h]
    have hr := (recovered s h).1
    have hel := ends_length s
    refine Ev.neg (by omega) (Ev.bind (impl_decodeAll_ev s (by omega)) ?_)
    show Ev (fun k => if 0 ≤ ((recs s).length : Int) then (if ((recs s).length : Int) < ((ends s).length : Int) then (if 0 ≤ (rd (ends s) ((recs s).length : Int)) then (if (rd (ends s) ((recs s).length : Int)) ≤ (s.size : Int) then (some (s.extract 0 ((rd (ends s) ((recs s).length : Int)) : Int).toNat, (⟨#[]⟩ : ByteArray), ((recs s).length : Int), rd (ends s) ((recs s).length : Int), true)) else (none)) else (none)) else (none)) else (none)) _
    rw [ends_last, Int.toNat_natCast]
    exact Ev.pos (by omega) (Ev.pos (by omega) (Ev.pos (by omega) (Ev.pos (by omega) (Ev.const _))))
  · rw [if_neg h]
    exact Ev.pos (by omega) (Ev.const _)
end Go.Proofs.YtnbhbnndfpfikaaDoor.X
