/- The log's plain laws, 5: what is left of a text that was cut or whose last byte was turned; one record more; a text recovered. -/
import Derived.Test.YtnbhbnndfpfikaaDoorXs
namespace Go.Proofs.YtnbhbnndfpfikaaDoor.X
open Go.RowKit Go.Proofs.YtnbhbnndfpfikaaDoorW.PrintWords Go.Proofs.YtnbhbnndfpfikaaDoorW.PrintLast Go.Proofs.YtnbhbnndfpfikaaDoorW.PrintMore
set_option linter.unusedVariables false
set_option linter.unusedSimpArgs false
theorem scan_app : ∀ (xs ys : List ByteArray) (n : Nat), (scan xs n).length = xs.length → scan (xs ++ ys) n = scan xs n ++ scan ys (n + xs.length)
  | [], ys, n, _ => by simp [scan]
  | x :: xs, ys, n, h => by
    cases hr : recOf n x with
    | none => rw [scan_cons_none xs hr] at h; cases h
    | some e =>
      rw [scan_cons_some xs hr] at h
      rw [List.cons_append, scan_cons_some _ hr, scan_cons_some _ hr, scan_app xs ys (n + 1) (by simpa using h), List.cons_append, List.length_cons]
      congr 3
      omega
theorem scan_rest (s : ByteArray) (h : (10 : Int) ∉ bytesOf s) (n : Nat) : scan (lines s) n = [] := by
  cases hl : lines s with
  | nil => rfl
  | cons x xs =>
    have hx : (10 : Int) ∉ bytesOf x := by
      intro hm
      apply h
      rw [← flat_lines s, hl, show flat (x :: xs) = x ++ flat xs from rfl, bytesOf_append]
      exact List.mem_append_left _ hm
    cases hr : recOf n x with
    | none => exact scan_cons_none xs hr
    | some e =>
      obtain ⟨y, hy, -⟩ := recOf_full hr (.inr hx)
      exact absurd (by rw [hy, bytesOf_append]; exact List.mem_append_right _ (by simp [nl, bytesOf_one])) hx
theorem scan_take_length (L : List ByteArray) (n j : Nat) (h : (scan L n).length = L.length) : (scan (L.take j) n).length = (L.take j).length := by
  rw [scan_take, List.length_take, List.length_take, h]
theorem recs_cut (L : List ByteArray) (rest : ByteArray) (hL : ∀ x ∈ L, full x) (hs : (scan L 0).length = L.length) (hr : (10 : Int) ∉ bytesOf rest) : recs (flat L ++ rest) = scan L 0 ∧ endOf (flat L ++ rest) = tot L := by
  have hl := lines_flat L rest hL
  have h1 : recs (flat L ++ rest) = scan L 0 := by
    unfold recs
    rw [hl, scan_app L _ 0 hs, scan_rest rest hr, List.append_nil]
  refine ⟨h1, ?_⟩
  unfold endOf
  rw [h1, hl, hs, List.take_left]
theorem tot_take_le (L : List ByteArray) (j : Nat) : tot (L.take j) ≤ tot L := by
  have := tot_app (L.take j) (L.drop j)
  rw [List.take_append_drop] at this
  omega
theorem flat_take_extract (L : List ByteArray) (j : Nat) : (flat L).extract 0 (tot (L.take j)) = flat (L.take j) := by
  have h : flat L = flat (L.take j) ++ flat (L.drop j) := by rw [← flat_app, List.take_append_drop]
  rw [h, ← flat_size]
  exact extract_left _ _
theorem cut_lines : ∀ (L : List ByteArray) (m : Nat), (∀ x ∈ L, full x) → m ≤ tot L → ∃ (j : Nat) (rest : ByteArray), j ≤ L.length ∧ (flat L).extract 0 m = flat (L.take j) ++ rest ∧ (10 : Int) ∉ bytesOf rest ∧ (∀ i, i ≤ L.length → tot (L.take i) ≤ m → i ≤ j)
  | [], m, _, hm => ⟨0, ⟨#[]⟩, Nat.le_refl _, by
      have h0 : m = 0 := by simpa [tot] using hm
      subst h0
      apply bytesOf_inj
      rw [bytesOf_extract]
      simp [flat, bytesOf], by simp [bytesOf], fun i hi _ => hi⟩
  | x :: L, m, hL, hm => by
    obtain ⟨y, hy, hy10⟩ := hL x List.mem_cons_self
    have ht : tot (x :: L) = x.size + tot L := by simp [tot]
    have hfl : flat (x :: L) = x ++ flat L := rfl
    have hnl : nl.size = 1 := rfl
    have hxs : x.size = y.size + 1 := by rw [hy, ByteArray.size_append, hnl]
    by_cases hlt : m < x.size
    · refine ⟨0, x.extract 0 m, Nat.zero_le _, ?_, ?_, ?_⟩
      · rw [List.take_zero, hfl]
        apply bytesOf_inj
        rw [bytesOf_extract, bytesOf_append, bytesOf_append, bytesOf_extract, List.take_append_of_le_length (by rw [bytesOf_length]; omega)]
        simp [flat, bytesOf]
      · intro hmem
        rw [bytesOf_extract, List.drop_zero, hy, bytesOf_append, List.take_append_of_le_length (by rw [bytesOf_length]; omega)] at hmem
        exact hy10 (List.mem_of_mem_take hmem)
      · intro i hi hti
        cases i with
        | zero => exact Nat.le_refl _
        | succ i =>
          rw [List.take_succ_cons] at hti
          have : tot (x :: L.take i) = x.size + tot (L.take i) := by simp [tot]
          omega
    · obtain ⟨j, rest, h1, h2, h3, h4⟩ := cut_lines L (m - x.size) (fun z hz => hL z (List.mem_cons_of_mem _ hz)) (by omega)
      refine ⟨j + 1, rest, by simpa using h1, ?_, h3, ?_⟩
      · rw [List.take_succ_cons, hfl, show flat (x :: L.take j) = x ++ flat (L.take j) from rfl, app_assoc, ← h2]
        apply bytesOf_inj
        rw [bytesOf_extract, bytesOf_append, bytesOf_append, bytesOf_extract, List.drop_zero, List.drop_zero, List.take_append, bytesOf_length, List.take_of_length_le (by rw [bytesOf_length]; omega)]
      · intro i hi hti
        cases i with
        | zero => exact Nat.zero_le _
        | succ i =>
          rw [List.take_succ_cons] at hti
          have : tot (x :: L.take i) = x.size + tot (L.take i) := by simp [tot]
          have := h4 i (by simpa using hi) (by omega)
          omega
theorem dec_bytes : ∀ (u : Nat), ∀ b ∈ Lib.decDigits u, 48 ≤ b.toNat ∧ b.toNat ≤ 57 := by
  intro u
  induction u using Nat.strongRecOn with
  | _ u ih =>
    have one : ∀ d, d < 10 → ∀ b ∈ [UInt8.ofNat (48 + d)], 48 ≤ b.toNat ∧ b.toNat ≤ 57 := by
      intro d hd b hb
      rw [List.mem_singleton] at hb
      subst hb
      have : d = 0 ∨ d = 1 ∨ d = 2 ∨ d = 3 ∨ d = 4 ∨ d = 5 ∨ d = 6 ∨ d = 7 ∨ d = 8 ∨ d = 9 := by omega
      rcases this with rfl | rfl | rfl | rfl | rfl | rfl | rfl | rfl | rfl | rfl <;> decide
    rw [Lib.decDigits]
    by_cases h : u < 10
    · rw [dif_pos h]; exact one u h
    · rw [dif_neg h]
      intro b hb
      rcases List.mem_append.1 hb with hb | hb
      · exact ih (u / 10) (by omega) b hb
      · exact one (u % 10) (by omega) b hb
theorem num_bytes (n : Int) : ∀ b ∈ bytesOf (numB n), 45 ≤ b ∧ b ≤ 57 := by
  intro b hb
  unfold bytesOf at hb
  rw [numB_data] at hb
  obtain ⟨c, hc, rfl⟩ := List.mem_map.1 hb
  unfold Lib.itoa at hc
  split at hc
  · rcases List.mem_cons.1 hc with h | h
    · subst h; exact ⟨by decide, by decide⟩
    · have := dec_bytes _ c h; omega
  · have := dec_bytes _ c hc; omega
theorem seal_byte (n : Int) (c r : ByteArray) (hg : good c r = true) : ∀ b ∈ bytesOf (sealB (body n c r)), 32 ≤ b ∧ b ≤ 126 := by
  have h := (good_iff c r).1 hg
  intro b hb
  unfold sealB body at hb
  simp only [bytesOf_append, List.mem_append, bytesOf_one] at hb
  rcases hb with (((((hb | hb) | hb) | hb) | hb) | hb) | hb
  · have := num_bytes _ _ hb; omega
  · simp at hb; omega
  · have := (printed_iff c).1 h.2.2.1 _ hb; omega
  · simp at hb; omega
  · have := (printed_iff r).1 h.2.2.2.2.2 _ hb; omega
  · simp at hb; omega
  · have := num_bytes _ _ hb; omega
theorem line_byte (n : Nat) (hn : n ≤ 59) (c r : ByteArray) (hg : good c r = true) : ∀ b ∈ bytesOf (recLine (n : Int) c r), b ≤ 126 := by
  intro b hb
  unfold recLine at hb
  rw [bytesOf_append] at hb
  rcases List.mem_append.1 hb with hb | hb
  · exact (seal_byte _ c r hg b hb).2
  · simp [nl, bytesOf_one] at hb; omega
theorem lines_byte (L : List ByteArray) (hs : (scan L 0).length = L.length) : ∀ b ∈ bytesOf (flat L), b ≤ 126 := by
  intro b hb
  have h := scan_all L 0 hs
  clear hs
  induction L with
  | nil => simp [flat, bytesOf] at hb
  | cons x L ih =>
    rw [show flat (x :: L) = x ++ flat L from rfl, bytesOf_append] at hb
    rcases List.mem_append.1 hb with hb | hb
    · obtain ⟨i, e, he⟩ := h x List.mem_cons_self
      obtain ⟨h1, h2, h3, -⟩ := recOf_some he
      rw [← h3] at hb
      exact line_byte i h1 _ _ h2 b hb
    · exact ih hb (fun y hy => h y (List.mem_cons_of_mem _ hy))
def turned (s : ByteArray) : ByteArray := strOfNums ((bytesOf s).set ((bytesOf s).length - 1) (255 - (bytesOf s).getD ((bytesOf s).length - 1) 0))
def cutOf (D P : ByteArray) (keep : Nat) (t : Bool) : ByteArray := if (t && decide (0 < keep)) = true then turned (D ++ P.extract 0 keep) else D ++ P.extract 0 keep
theorem strOf_bytes' (l : List Int) (h : ∀ b ∈ l, 0 ≤ b ∧ b ≤ 255) : bytesOf (strOfNums l) = l := by
  show ((l.map fun n => UInt8.ofNat n.toNat).toArray.toList).map (fun c => (c.toNat : Int)) = l
  rw [List.map_map]
  have : ∀ b ∈ l, ((fun c : UInt8 => (c.toNat : Int)) ∘ fun n : Int => UInt8.ofNat n.toNat) b = b := by
    intro b hb
    have := h b hb
    show ((UInt8.ofNat b.toNat).toNat : Int) = b
    have h2 : b.toNat < 256 := by have := this.2; omega
    rw [UInt8.toNat_ofNat', Nat.mod_eq_of_lt h2]
    have := this.1
    omega
  rw [List.map_congr_left this]
  simp
theorem byte_range (s : ByteArray) : ∀ b ∈ bytesOf s, 0 ≤ b ∧ b ≤ 255 := by
  intro b hb
  obtain ⟨c, hc, rfl⟩ := List.mem_map.1 (show b ∈ s.data.toList.map (fun c => (c.toNat : Int)) from hb)
  have := c.toNat_lt
  exact ⟨by omega, by omega⟩
theorem turned_bytes (s : ByteArray) (h : 0 < s.size) : ∃ b ∈ bytesOf s, bytesOf (turned s) = (bytesOf s).take (s.size - 1) ++ [255 - b] := by
  have hl := bytesOf_length s
  have hlt : (bytesOf s).length - 1 < (bytesOf s).length := by omega
  refine ⟨(bytesOf s)[(bytesOf s).length - 1], List.getElem_mem hlt, ?_⟩
  have hg : (bytesOf s).getD ((bytesOf s).length - 1) 0 = (bytesOf s)[(bytesOf s).length - 1] := by rw [List.getD_eq_getElem?_getD, List.getElem?_eq_getElem hlt]; rfl
  have hb := byte_range s _ (List.getElem_mem hlt)
  unfold turned
  rw [hg, strOf_bytes' _ (fun b hb' => by
    rcases List.mem_or_eq_of_mem_set hb' with h | h
    · exact byte_range s b h
    · rw [h]; omega)]
  rw [List.set_eq_take_append_cons_drop, if_pos hlt, List.drop_of_length_le (by omega), show s.size - 1 = (bytesOf s).length - 1 by rw [hl]]
theorem valid_iff {D P : ByteArray} {n : Int} (h : validL D P n = true) : D.size + P.size ≤ 30000 ∧ endOf (D ++ P) = (D ++ P).size ∧ endOf D = D.size ∧ ((recs (D ++ P)).length : Int) = n := by
  unfold validL at h
  have := qF h
  exact ⟨this.1, by rw [this.2.1, ByteArray.size_append], this.2.2.1, this.2.2.2⟩
theorem cut_end (D P : ByteArray) (hv : endOf (D ++ P) = (D ++ P).size) (hD : endOf D = D.size) (keep : Nat) (hk : keep ≤ P.size) (t : Bool) :
    ∃ j, recs (cutOf D P keep t) = (recs (D ++ P)).take j ∧ D.size ≤ endOf (cutOf D P keep t) ∧ endOf (cutOf D P keep t) ≤ (cutOf D P keep t).size := by
  obtain ⟨hL1, hL2⟩ := all_of_end _ hv
  obtain ⟨hD1, hD2⟩ := all_of_end _ hD
  have hs : (scan (lines (D ++ P)) 0).length = (lines (D ++ P)).length := hL1
  have hlD : lines (D ++ P) = lines D ++ lines P := by
    have := lines_flat (lines D) P hD2
    rwa [flat_lines] at this
  have hDt : tot ((lines (D ++ P)).take (lines D).length) = D.size := by rw [hlD, List.take_left, ← flat_size, flat_lines]
  have hDl : (lines D).length ≤ (lines (D ++ P)).length := by rw [hlD, List.length_append]; omega
  have htot : tot (lines (D ++ P)) = (D ++ P).size := by rw [← flat_size, flat_lines]
  have hb := lines_byte _ hs
  have hsz : (D ++ P).size = D.size + P.size := ByteArray.size_append
  have hfl := flat_lines (D ++ P)
  have fin : ∀ (m : Nat) (y z : ByteArray), m ≤ (D ++ P).size → D.size ≤ m → (10 : Int) ∉ bytesOf y → z = (D ++ P).extract 0 m ++ y → ∃ j, recs z = (recs (D ++ P)).take j ∧ D.size ≤ endOf z ∧ endOf z ≤ z.size := by
    intro m y z hm hDm hy hz
    obtain ⟨j, rest, h1, h2, h3, h4⟩ := cut_lines (lines (D ++ P)) m hL2 (by omega)
    rw [hfl] at h2
    have hr : (10 : Int) ∉ bytesOf (rest ++ y) := by
      rw [bytesOf_append]
      intro hm'
      rcases List.mem_append.1 hm' with h | h
      · exact h3 h
      · exact hy h
    obtain ⟨h5, h6⟩ := recs_cut ((lines (D ++ P)).take j) (rest ++ y) (fun x hx => hL2 x (List.mem_of_mem_take hx)) (scan_take_length _ 0 j hs) hr
    have hz2 : z = flat ((lines (D ++ P)).take j) ++ (rest ++ y) := by rw [hz, h2, app_assoc]
    have hj := h4 _ hDl (by omega)
    have hle : D.size ≤ tot ((lines (D ++ P)).take j) := by
      have := tot_take_le ((lines (D ++ P)).take j) (lines D).length
      rw [List.take_take, Nat.min_eq_left hj, hDt] at this
      exact this
    refine ⟨j, ?_, by rw [hz2, h6]; exact hle, ?_⟩
    · rw [hz2, h5, scan_take]; rfl
    · rw [hz2, h6, ByteArray.size_append, flat_size]; omega
  have hZ : D ++ P.extract 0 keep = (D ++ P).extract 0 (D.size + keep) := by
    apply bytesOf_inj
    rw [bytesOf_append, bytesOf_extract, bytesOf_extract, bytesOf_append, List.drop_zero, List.drop_zero, List.take_append, bytesOf_length, List.take_of_length_le (l := bytesOf D) (i := D.size + keep) (by rw [bytesOf_length]; exact Nat.le_add_right _ _), Nat.add_sub_cancel_left]
  unfold cutOf
  by_cases ht : (t && decide (0 < keep)) = true
  · rw [if_pos ht]
    have hk0 : 0 < keep := by simp at ht; exact ht.2
    have hZs : (D ++ P.extract 0 keep).size = D.size + keep := by rw [ByteArray.size_append, ByteArray.size_extract]; omega
    obtain ⟨b, hbm, hbt⟩ := turned_bytes (D ++ P.extract 0 keep) (by omega)
    have hb126 : b ≤ 126 := by
      apply hb
      rw [hfl]
      rw [hZ, bytesOf_extract, List.drop_zero] at hbm
      exact List.mem_of_mem_take hbm
    have hb0 := byte_range _ b hbm
    refine fin (D.size + keep - 1) (strOfNums [255 - b]) _ (by omega) (by omega) ?_ ?_
    · rw [strOf_bytes' [255 - b] (fun x hx => by rw [List.mem_singleton] at hx; omega), List.mem_singleton]; omega
    · apply bytesOf_inj
      have e2 : bytesOf ((D ++ P).extract 0 (D.size + keep - 1) ++ strOfNums [255 - b]) = (bytesOf (D ++ P)).take (D.size + keep - 1) ++ [255 - b] := by
        rw [bytesOf_append, bytesOf_extract, List.drop_zero, strOf_bytes' [255 - b] (fun x hx => by rw [List.mem_singleton] at hx; omega)]
      rw [hbt, e2, hZs, hZ, bytesOf_extract, List.drop_zero, List.take_take, Nat.min_eq_left (Nat.sub_le _ _)]
  · rw [if_neg ht]
    exact fin (D.size + keep) ⟨#[]⟩ _ (by omega) (by omega) (by simp [bytesOf]) (by rw [app_nil, hZ])
theorem recovered (s : ByteArray) (hs : s.size ≤ 30000) : endOf s ≤ s.size ∧ recs (s.extract 0 (endOf s)) = recs s ∧ validL (s.extract 0 (endOf s)) ⟨#[]⟩ ((recs s).length : Int) = true := by
  have hp := lines_parts s
  have ht : tot (lines s) = s.size := by rw [← flat_size, flat_lines]
  have hle : endOf s ≤ s.size := by rw [← ht]; exact tot_take_le _ _
  have hr := (recs_le s).1
  have hsc : (scan ((lines s).take (recs s).length) 0).length = ((lines s).take (recs s).length).length := by
    rw [scan_take, List.length_take, List.length_take]
    have hr' : (scan (lines s) 0).length ≤ (lines s).length := hr
    show min (scan (lines s) 0).length (scan (lines s) 0).length = min (scan (lines s) 0).length (lines s).length
    omega
  have hf : ∀ x ∈ (lines s).take (recs s).length, full x := fun x hx => by
    obtain ⟨i, e, he⟩ := scan_all _ 0 hsc x hx
    exact recOf_full he (hp x (List.mem_of_mem_take hx)).2.2
  have he : s.extract 0 (endOf s) = flat ((lines s).take (recs s).length) := by
    have := flat_take_extract (lines s) (recs s).length
    rw [flat_lines] at this
    exact this
  obtain ⟨h1, h2⟩ := recs_cut _ ⟨#[]⟩ hf hsc (by simp [bytesOf])
  rw [app_nil, ← he] at h1 h2
  have h3 : recs (s.extract 0 (endOf s)) = recs s := by rw [h1, scan_take]; unfold recs; rw [List.take_length]
  have hz : (s.extract 0 (endOf s)).size = endOf s := by rw [ByteArray.size_extract]; omega
  refine ⟨hle, h3, ?_⟩
  unfold validL
  apply qE
  rw [app_nil, h3, hz]
  refine ⟨by show endOf s + 0 ≤ 30000; omega, ?_, ?_, rfl⟩
  · rw [h2]; rfl
  · rw [h2]; rfl
theorem synced {D P : ByteArray} {n : Int} (h : validL D P n = true) : validL (D ++ P) ⟨#[]⟩ n = true := by
  obtain ⟨h1, h2, h3, h4⟩ := valid_iff h
  unfold validL
  apply qE
  rw [app_nil]
  have hs : (D ++ P).size = D.size + P.size := ByteArray.size_append
  exact ⟨by show (D ++ P).size + 0 ≤ 30000; omega, by rw [h2]; rfl, h2, h4⟩
theorem line_small (n : Nat) (hn : n ≤ 59) (c r : ByteArray) (hg : good c r = true) : (recLine (n : Int) c r).size ≤ 490 := by
  have h := (good_iff c r).1 hg
  have h1 := body_size (n : Int) (by omega) (by omega) c r
  have h2 := chk_num (body (n : Int) c r)
  unfold recLine sealB
  rw [ByteArray.size_append, ByteArray.size_append, ByteArray.size_append, one_size]
  have : nl.size = 1 := rfl
  omega
theorem lines_small (L : List ByteArray) (hs : (scan L 0).length = L.length) : tot L ≤ 490 * L.length := by
  have h := scan_all L 0 hs
  clear hs
  induction L with
  | nil => simp [tot]
  | cons x L ih =>
    have ht : tot (x :: L) = x.size + tot L := by simp [tot]
    obtain ⟨i, e, he⟩ := h x List.mem_cons_self
    obtain ⟨h1, h2, h3, -⟩ := recOf_some he
    have := line_small i h1 _ _ h2
    rw [h3] at this
    have := ih (fun y hy => h y (List.mem_cons_of_mem _ hy))
    rw [ht, List.length_cons]
    omega
theorem recLine_full (n : Nat) (hn : n ≤ 59) (c r : ByteArray) (hg : good c r = true) : full (recLine (n : Int) c r) :=
  ⟨_, rfl, fun hm => by have := seal_byte _ c r hg _ hm; omega⟩
theorem recOf_line (n : Nat) (hn : n ≤ 59) (c r : ByteArray) (hg : good c r = true) : recOf n (recLine (n : Int) c r) = some ⟨c, r⟩ := by
  obtain ⟨h1, h2⟩ := recLine_parts (n : Int) (by omega) (by omega) c r _ hg rfl
  unfold recOf
  rw [h1, h2, if_pos ⟨hn, hg, rfl⟩]
theorem one_more {D P c r : ByteArray} {n : Int} (h : validL D P n = true) (hg : good c r = true) (h60 : n ≠ 60) :
    validL D (P ++ recLine n c r) (n + 1) = true ∧ recs (D ++ (P ++ recLine n c r)) = recs (D ++ P) ++ [⟨c, r⟩] := by
  obtain ⟨h1, h2, h3, h4⟩ := valid_iff h
  obtain ⟨hL1, hL2⟩ := all_of_end _ h2
  have hs : (scan (lines (D ++ P)) 0).length = (lines (D ++ P)).length := hL1
  have hle := (recs_le (D ++ P)).2
  obtain ⟨m, hm⟩ : ∃ m : Nat, (recs (D ++ P)).length = m := ⟨_, rfl⟩
  have hn : n = (m : Int) := by rw [← h4, hm]
  subst hn
  have hm59 : m ≤ 59 := by omega
  have hfull := recLine_full m hm59 c r hg
  have hrec := recOf_line m hm59 c r hg
  have hD : D ++ (P ++ recLine (m : Int) c r) = flat (lines (D ++ P) ++ [recLine (m : Int) c r]) := by
    rw [flat_app, flat_lines, app_assoc]
    show _ = D ++ (P ++ (recLine (m : Int) c r ++ (⟨#[]⟩ : ByteArray)))
    rw [app_nil]
  have hlen : (lines (D ++ P)).length = m := by rw [← hm]; exact hL1.symm
  have hsc : scan (lines (D ++ P) ++ [recLine (m : Int) c r]) 0 = recs (D ++ P) ++ [⟨c, r⟩] := by
    rw [scan_app _ _ 0 hs, Nat.zero_add, hlen, scan_cons_some [] hrec]
    rfl
  have hsl : (scan (lines (D ++ P) ++ [recLine (m : Int) c r]) 0).length = (lines (D ++ P) ++ [recLine (m : Int) c r]).length := by
    rw [hsc, List.length_append, List.length_append, hm, hlen]; rfl
  obtain ⟨h5, h6⟩ := recs_cut _ ⟨#[]⟩ (fun x hx => by
    rcases List.mem_append.1 hx with hx | hx
    · exact hL2 x hx
    · rw [List.mem_singleton] at hx; subst hx; exact hfull) hsl (by simp [bytesOf])
  rw [app_nil, ← hD] at h5 h6
  have h7 : recs (D ++ (P ++ recLine (m : Int) c r)) = recs (D ++ P) ++ [⟨c, r⟩] := by rw [h5, hsc]
  have ht : tot (lines (D ++ P) ++ [recLine (m : Int) c r]) = (D ++ (P ++ recLine (m : Int) c r)).size := by rw [hD, flat_size]
  have hsm := lines_small _ hsl
  rw [ht, List.length_append, hlen] at hsm
  have hsm' : (D ++ (P ++ recLine (m : Int) c r)).size ≤ 490 * (m + 1) := hsm
  have hz : (D ++ (P ++ recLine (m : Int) c r)).size = D.size + (P ++ recLine (m : Int) c r).size := ByteArray.size_append
  refine ⟨?_, h7⟩
  unfold validL
  apply qE
  rw [h7, h6, ht, hz]
  refine ⟨by omega, rfl, h3, ?_⟩
  rw [List.length_append, hm]
  rfl
end Go.Proofs.YtnbhbnndfpfikaaDoor.X
