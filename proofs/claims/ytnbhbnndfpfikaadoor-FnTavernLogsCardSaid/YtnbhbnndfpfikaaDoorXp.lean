/- The log's plain laws, 1: what the functions on texts and records compute, in plain words (no program in sight). -/
import Derived.Test.YtnbhbnndfpfikaaDoorY4
import Derived.Test.YtnbhbnndfpfikaaDoorY5
import Derived.Test.YtnbhbnndfpfikaaDoorXd
namespace Go.Proofs.YtnbhbnndfpfikaaDoor.X
open Go.RowKit Go.Proofs.YtnbhbnndfpfikaaDoorW.PrintWords Go.Proofs.YtnbhbnndfpfikaaDoorW.PrintLast Go.Proofs.YtnbhbnndfpfikaaDoorW.PrintMore
set_option linter.unusedVariables false
set_option linter.unusedSimpArgs false
def Ev {α : Type} (f : Nat → Option α) (r : α) : Prop := ∃ K, ∀ k, K ≤ k → f k = some r
theorem Ev.const {α : Type} (r : α) : Ev (fun _ => some r) r := ⟨0, fun _ _ => rfl⟩
theorem Ev.of_eq {α : Type} {f g : Nat → Option α} {r : α} (e : ∀ k, f k = g k) (h : Ev g r) : Ev f r := by
  obtain ⟨K, hK⟩ := h
  exact ⟨K, fun k hk => (e k).trans (hK k hk)⟩
theorem Ev.bind {α β : Type} {f : Nat → Option α} {g : Nat → α → Option β} {a : α} {b : β} (h : Ev f a) (h2 : Ev (fun k => g k a) b) : Ev (fun k => (f k).bind (g k)) b := by
  obtain ⟨K, hK⟩ := h
  obtain ⟨L, hL⟩ := h2
  exact ⟨max K L, fun k hk => by show (f k).bind (g k) = _; rw [hK k (by omega)]; exact hL k (by omega)⟩
theorem Ev.shift {α : Type} {f : Nat → Option α} {r : α} (h : Ev (fun k => f (k + 1)) r) : Ev f r := by
  obtain ⟨K, hK⟩ := h
  exact ⟨K + 1, fun k hk => by obtain ⟨j, rfl⟩ : ∃ j, k = j + 1 := ⟨k - 1, by omega⟩; exact hK j (by omega)⟩
theorem Ev.pos {α : Type} {c : Prop} [Decidable c] {f g : Nat → Option α} {r : α} (hc : c) (h : Ev f r) : Ev (fun k => if c then f k else g k) r := h.of_eq fun k => if_pos hc
theorem Ev.neg {α : Type} {c : Prop} [Decidable c] {f g : Nat → Option α} {r : α} (hc : ¬ c) (h : Ev g r) : Ev (fun k => if c then f k else g k) r := h.of_eq fun k => if_neg hc
theorem w64 (n : Int) (h0 : -9223372036854775808 ≤ n) (h1 : n ≤ 9223372036854775807) : wrap64 n = n := by unfold wrap64; omega
theorem toList_data (s : ByteArray) : s.toList = s.data.toList := by
  have h : ∀ (n i : Nat) (r : List UInt8), s.size - i = n → ByteArray.toList.loop s i r = r.reverse ++ s.data.toList.drop i := by
    intro n
    induction n with
    | zero =>
      intro i r h
      rw [ByteArray.toList.loop, if_neg (by omega), List.drop_eq_nil_of_le (by rw [data_length]; omega)]
      simp
    | succ n ih =>
      intro i r h
      have hi : i < s.data.toList.length := by rw [data_length]; omega
      rw [ByteArray.toList.loop, if_pos (by omega), ih _ _ (by omega), List.drop_eq_getElem_cons hi]
      have : s.get! i = s.data.toList[i] := by
        have h2 : i < s.data.size := by simpa using hi
        simp [ByteArray.get!]
        exact getElem!_pos s.data i h2
      simp [this]
  unfold ByteArray.toList
  rw [h s.size 0 [] (by omega)]
  simp
theorem bytesOf_inj {a b : ByteArray} (h : bytesOf a = bytesOf b) : a = b := by
  apply ByteArray.ext
  apply Array.toList_inj.1
  exact (List.map_inj_right (fun x y h => UInt8.toNat_inj.1 (Int.ofNat.inj h))).1 h
theorem bytesOf_append (a b : ByteArray) : bytesOf (a ++ b) = bytesOf a ++ bytesOf b := by simp [bytesOf, ByteArray.data_append]
theorem bytesOf_extract (a : ByteArray) (i j : Nat) : bytesOf (a.extract i j) = ((bytesOf a).take j).drop i := by
  simp [bytesOf, ByteArray.data_extract, List.drop_take]
theorem bytesOf_drop (a : ByteArray) (i : Nat) : bytesOf (a.extract i a.size) = (bytesOf a).drop i := by
  rw [bytesOf_extract, List.take_of_length_le (by rw [bytesOf_length]; exact Nat.le_refl _)]
theorem drop_bt (s : ByteArray) (i : Nat) (h : i < s.size) : (bytesOf s).drop i = bt s (i : Int) :: (bytesOf s).drop (i + 1) := by
  have hl : i < (bytesOf s).length := by rw [bytesOf_length]; exact h
  rw [List.drop_eq_getElem_cons hl]
  congr 1
  rw [← rd_bytesOf]
  simp [rd, List.getD_eq_getElem?_getD, hl]
theorem drop_end (s : ByteArray) (i : Nat) (h : s.size ≤ i) : (bytesOf s).drop i = [] := List.drop_eq_nil_of_le (by rw [bytesOf_length]; exact h)
theorem toList_eq_iff (a b : ByteArray) : a.toList = b.toList ↔ a = b := by
  rw [toList_data, toList_data]
  exact ⟨fun h => ByteArray.ext (Array.toList_inj.1 h), fun h => by rw [h]⟩
theorem toList_beq (a b : ByteArray) : (a.toList == b.toList) = decide (a = b) := by
  by_cases h : a = b
  · subst h; simp
  · rw [qG h]
    exact beq_eq_false_iff_ne.2 (fun e => h ((toList_eq_iff _ _).1 e))
def st (h b : Int) : Int := Int.tmod (wrap64 ((wrap64 ((wrap64 (41 * h)) + (wrap64 b))) + 1)) 999979
def chk (s : ByteArray) : Int := (bytesOf s).foldl st 7
theorem st_range (h b : Int) : -999979 < st h b ∧ st h b < 999979 := by
  unfold st
  exact ⟨Int.lt_tmod_of_pos _ (by decide), Int.tmod_lt_of_pos _ (by decide)⟩
theorem fold_range : ∀ (l : List Int) (h : Int), -999979 < h → h < 999979 → -999979 < l.foldl st h ∧ l.foldl st h < 999979 := by
  intro l
  induction l with
  | nil => exact fun h a b => ⟨a, b⟩
  | cons x l ih => exact fun h a b => ih _ (st_range _ _).1 (st_range _ _).2
theorem chk_range (s : ByteArray) : -999979 < chk s ∧ chk s < 999979 := fold_range _ _ (by decide) (by decide)
theorem impl_checksum_ev (s : ByteArray) (hs : s.size ≤ 1000000000) : Ev (fun k => impl_checksum.f k s) (chk s) := by
  have h : ∀ (n i : Nat) (h : Int), i + n = s.size → Ev (fun k => impl_checksum.l0 k s h (s.size : Int) (i : Int)) (((bytesOf s).drop i).foldl st h) := by
    intro n
    induction n with
    | zero =>
      intro i h hi
      refine Ev.shift ?_
      unfold impl_checksum.l0
      refine Ev.neg (by omega) ?_
      rw [drop_end s i (by omega)]
      exact Ev.const _
    | succ n ih =>
      intro i h hi
      refine Ev.shift ?_
      unfold impl_checksum.l0
      refine Ev.pos (by omega) (Ev.pos (by omega) (Ev.pos (by omega) ?_))
      rw [drop_bt s i (by omega), w64 ((i : Int) + 1) (by omega) (by omega)]
      exact ih (i + 1) _ (by omega)
  exact h s.size 0 7 (by omega)
theorem spec_l1Sum_ev (s : ByteArray) (hs : s.size ≤ 1000000000) : Ev (fun k => spec_l1Sum.f k s) (chk s) := by
  have h : ∀ (n i : Nat) (h : Int), i + n = s.size → Ev (fun k => spec_l1Sum.l0 k s h (i : Int)) (((bytesOf s).drop i).foldl st h) := by
    intro n
    induction n with
    | zero =>
      intro i h hi
      refine Ev.shift ?_
      unfold spec_l1Sum.l0
      refine Ev.neg (by omega) ?_
      rw [drop_end s i (by omega)]
      exact Ev.const _
    | succ n ih =>
      intro i h hi
      refine Ev.shift ?_
      unfold spec_l1Sum.l0
      refine Ev.pos (by omega) (Ev.pos (by omega) ?_)
      rw [drop_bt s i (by omega), w64 ((i : Int) + 1) (by omega) (by omega)]
      exact ih (i + 1) _ (by omega)
  exact h s.size 0 7 (by omega)
theorem spec_l12Bytes_ev (s : ByteArray) (m : Int) (hs : s.size ≤ 1000000000) : Ev (fun k => spec_l12Bytes.f k s m) (printed s && decide ((s.size : Int) ≤ m)) := by
  have h : ∀ (n i : Nat), i + n = s.size → Ev (fun k => spec_l12Bytes.l0 k s m (i : Int)) (((bytesOf s).drop i).all bprint && decide ((s.size : Int) ≤ m)) := by
    intro n
    induction n with
    | zero =>
      intro i hi
      refine Ev.shift ?_
      unfold spec_l12Bytes.l0
      refine Ev.neg (by omega) ?_
      rw [drop_end s i (by omega)]
      exact Ev.const _
    | succ n ih =>
      intro i hi
      refine Ev.shift ?_
      unfold spec_l12Bytes.l0
      refine Ev.pos (by omega) (Ev.pos (by omega) ?_)
      have hb := bt_range s (i : Int)
      rw [drop_bt s i (by omega), w64 ((i : Int) + 1) (by omega) (by omega), w64 (bt s i) (by omega) (by omega)]
      have hr := ih (i + 1) (by omega)
      unfold spec_l1In.f
      generalize bt s (i : Int) = b at *
      by_cases h1 : 32 ≤ b
      · by_cases h2 : b ≤ 126
        · by_cases h3 : b = 35
          · refine Ev.of_eq (g := fun _ => some false) (fun k => by simp [h1, h2, h3]) ?_
            have e : (List.all (b :: (bytesOf s).drop (i + 1)) bprint && decide ((s.size : Int) ≤ m)) = false := by simp [bprint, h3]
            rw [e]; exact Ev.const _
          · refine Ev.of_eq (g := fun k => spec_l12Bytes.l0 k s m (((i + 1 : Nat) : Int))) (fun k => by simp [h1, h2, h3]) ?_
            have e : (List.all (b :: (bytesOf s).drop (i + 1)) bprint && decide ((s.size : Int) ≤ m)) = (List.all ((bytesOf s).drop (i + 1)) bprint && decide ((s.size : Int) ≤ m)) := by simp [bprint, h1, h2, bne_iff_ne.2 h3]
            rw [e]; exact hr
        · refine Ev.of_eq (g := fun _ => some false) (fun k => by simp [h1, h2]) ?_
          have e : (List.all (b :: (bytesOf s).drop (i + 1)) bprint && decide ((s.size : Int) ≤ m)) = false := by simp [bprint, h2]
          rw [e]; exact Ev.const _
      · refine Ev.of_eq (g := fun _ => some false) (fun k => by simp [h1]) ?_
        have e : (List.all (b :: (bytesOf s).drop (i + 1)) bprint && decide ((s.size : Int) ≤ m)) = false := by simp [bprint, h1]
        rw [e]; exact Ev.const _
  exact h s.size 0 (by omega)
theorem spec_l1Stands_ev (s : ByteArray) (c : Int) (hs : s.size ≤ 1000000000) : Ev (fun k => spec_l1Stands.f k s c) (decide (c ∈ bytesOf s)) := by
  have h : ∀ (n i : Nat), i + n = s.size → Ev (fun k => spec_l1Stands.l0 k s c (i : Int)) (decide (c ∈ (bytesOf s).drop i)) := by
    intro n
    induction n with
    | zero =>
      intro i hi
      refine Ev.shift ?_
      unfold spec_l1Stands.l0
      refine Ev.neg (by omega) ?_
      rw [drop_end s i (by omega)]
      exact Ev.const _
    | succ n ih =>
      intro i hi
      refine Ev.shift ?_
      unfold spec_l1Stands.l0
      refine Ev.pos (by omega) (Ev.pos (by omega) ?_)
      rw [drop_bt s i (by omega), w64 ((i : Int) + 1) (by omega) (by omega)]
      have hr := ih (i + 1) (by omega)
      by_cases hb : bt s (i : Int) = c
      · refine Ev.pos hb ?_
        rw [qE (by rw [hb]; exact List.mem_cons_self)]
        exact Ev.const _
      · refine Ev.neg hb ?_
        have e : (c ∈ bt s (i : Int) :: (bytesOf s).drop (i + 1)) ↔ (c ∈ (bytesOf s).drop (i + 1)) := by
          rw [List.mem_cons]; exact ⟨fun h => h.resolve_left (fun e => hb e.symm), .inr⟩
        rw [decide_eq_decide.2 e]
        exact hr
  exact h s.size 0 (by omega)
theorem mem_index (l : List UInt8) (c : UInt8) : c ∈ l ↔ 0 ≤ Lib.indexByte l c := by
  have h0 := Lib.indexByte_ge l c
  by_cases h : 0 ≤ Lib.indexByte l c
  · obtain ⟨o, ho⟩ := Int.eq_ofNat_of_zero_le h
    exact ⟨fun _ => h, fun _ => List.mem_of_getElem? (Lib.indexByte_some ho).1⟩
  · refine ⟨fun hm => ?_, fun h' => absurd h' h⟩
    obtain ⟨k, hk⟩ := List.mem_iff_getElem?.1 hm
    exact absurd hk (Lib.indexByte_none (by omega) k)
theorem hasByte_mem (s : ByteArray) (c : UInt8) : hasByte s c = decide ((c.toNat : Int) ∈ bytesOf s) := by
  unfold hasByte
  rw [decide_eq_decide, ← mem_index]
  simp only [bytesOf, List.mem_map]
  constructor
  · exact fun h => ⟨c, h, rfl⟩
  · rintro ⟨b, hb, e⟩
    have : b = c := UInt8.toNat_inj.1 (Int.ofNat.inj e)
    rw [← this]; exact hb
theorem spec_l1Split_more (s : ByteArray) (b : Int) (hs : s.size ≤ 1000000000) : ∀ (n i fr : Nat) (out : List ByteArray), i + n = s.size → fr ≤ i → out.length ≤ i →
    ∃ tl, Ev (fun k => spec_l1Split.l0 k s b out (fr : Int) (i : Int)) (out ++ tl) ∧ tl ≠ [] := by
  intro n
  induction n with
  | zero =>
    intro i fr out hi hf ho
    refine ⟨[s.extract fr s.size], ?_, by simp⟩
    refine Ev.shift ?_
    unfold spec_l1Split.l0
    refine Ev.neg (by omega) (Ev.pos (by omega) (Ev.pos (by omega) (Ev.pos (by omega) ?_)))
    exact Ev.const _
  | succ n ih =>
    intro i fr out hi hf ho
    by_cases hb : bt s (i : Int) = b
    · obtain ⟨tl, htl, hne⟩ := ih (i + 1) (i + 1) (out ++ [s.extract fr i]) (by omega) (Nat.le_refl _) (by simp; omega)
      refine ⟨s.extract fr i :: tl, ?_, by simp⟩
      refine Ev.shift ?_
      unfold spec_l1Split.l0
      refine Ev.pos (by omega) (Ev.pos (by omega) (Ev.pos hb (Ev.pos (by omega) (Ev.pos (by omega) (Ev.pos (by omega) (Ev.pos (by omega) ?_))))))
      rw [w64 ((i : Int) + 1) (by omega) (by omega)]
      simpa using htl
    · obtain ⟨tl, htl, hne⟩ := ih (i + 1) fr out (by omega) (by omega) (by omega)
      refine ⟨tl, ?_, hne⟩
      refine Ev.shift ?_
      unfold spec_l1Split.l0
      refine Ev.pos (by omega) (Ev.pos (by omega) (Ev.neg hb ?_))
      rw [w64 ((i : Int) + 1) (by omega) (by omega)]
      exact htl
theorem spec_l1Split_ev (s : ByteArray) (b : Int) (hs : s.size ≤ 1000000000) : ∃ h tl, Ev (fun k => spec_l1Split.f k s b) (h :: tl) ∧ (b ∉ bytesOf s → h = s ∧ tl = []) ∧
    (b ∈ bytesOf s → tl ≠ [] ∧ ∃ j, j < s.size ∧ bt s (j : Int) = b ∧ b ∉ (bytesOf s).take j ∧ h = s.extract 0 j) := by
  have h : ∀ (n i : Nat), i + n = s.size → b ∉ (bytesOf s).take i → ∃ h tl, Ev (fun k => spec_l1Split.l0 k s b [] 0 (i : Int)) (h :: tl) ∧ (b ∉ bytesOf s → h = s ∧ tl = []) ∧
    (b ∈ bytesOf s → tl ≠ [] ∧ ∃ j, j < s.size ∧ bt s (j : Int) = b ∧ b ∉ (bytesOf s).take j ∧ h = s.extract 0 j) := by
    intro n
    induction n with
    | zero =>
      intro i hi hno
      rw [List.take_of_length_le (by rw [bytesOf_length]; omega)] at hno
      refine ⟨s, [], ?_, fun _ => ⟨rfl, rfl⟩, fun h => absurd h hno⟩
      refine Ev.shift ?_
      unfold spec_l1Split.l0
      refine Ev.neg (by omega) (Ev.pos (by omega) (Ev.pos (by omega) (Ev.pos (by simp) ?_)))
      have e : s.extract ((0 : Int)).toNat s.size = s := by apply bytesOf_inj; rw [bytesOf_drop]; rfl
      rw [e]; exact Ev.const _
    | succ n ih =>
      intro i hi hno
      by_cases hb : bt s (i : Int) = b
      · obtain ⟨tl, htl, hne⟩ := spec_l1Split_more s b hs n (i + 1) (i + 1) [s.extract 0 i] (by omega) (Nat.le_refl _) (by simp)
        have hmem : b ∈ bytesOf s := by
          have := drop_bt s i (by omega)
          rw [hb] at this
          exact List.mem_of_mem_drop (i := i) (by rw [this]; exact List.mem_cons_self)
        refine ⟨s.extract 0 i, tl, ?_, fun h => absurd hmem h, fun _ => ⟨hne, i, by omega, hb, hno, rfl⟩⟩
        refine Ev.shift ?_
        unfold spec_l1Split.l0
        refine Ev.pos (by omega) (Ev.pos (by omega) (Ev.pos hb (Ev.pos (by omega) (Ev.pos (by omega) (Ev.pos (by omega) (Ev.pos (by simp) ?_))))))
        rw [w64 ((i : Int) + 1) (by omega) (by omega)]
        simpa using htl
      · obtain ⟨h, tl, h1, h2⟩ := ih (i + 1) (by omega) (by
          intro hm
          rw [List.take_add_one] at hm
          rcases List.mem_append.1 hm with hm | hm
          · exact hno hm
          · rw [show (bytesOf s)[i]? = some (bt s i) by rw [← List.head?_drop, drop_bt s i (by omega)]; rfl] at hm
            simp at hm
            exact hb hm.symm)
        refine ⟨h, tl, ?_, h2⟩
        refine Ev.shift ?_
        unfold spec_l1Split.l0
        refine Ev.pos (by omega) (Ev.pos (by omega) (Ev.neg hb ?_))
        rw [w64 ((i : Int) + 1) (by omega) (by omega)]
        exact h1
  exact h s.size 0 (by omega) (by simp)
theorem split_head {s a z : ByteArray} {b : UInt8} (e : s = (a ++ ⟨#[b]⟩) ++ z) (hno : (b.toNat : Int) ∉ bytesOf a) {j : Nat} (hj : j < s.size) (hb : bt s (j : Int) = b.toNat) (hn : (b.toNat : Int) ∉ (bytesOf s).take j) : j = a.size := by
  have e1 : bytesOf s = bytesOf a ++ (b.toNat : Int) :: bytesOf z := by rw [e, bytesOf_append, bytesOf_append]; simp [bytesOf]
  have hget : (bytesOf s)[j]? = some (b.toNat : Int) := by rw [← List.head?_drop, drop_bt s j hj, hb]; rfl
  have hal := bytesOf_length a
  rcases Nat.lt_trichotomy j a.size with h | h | h
  · rw [e1, List.getElem?_append_left (by omega)] at hget
    exact absurd (List.mem_of_getElem? hget) hno
  · exact h
  · exfalso
    apply hn
    rw [e1, List.take_append]
    apply List.mem_append_right
    obtain ⟨m, hm⟩ : ∃ m, j - (bytesOf a).length = m + 1 := ⟨j - a.size - 1, by omega⟩
    rw [hm]
    simp
theorem extract_left (a z : ByteArray) : (a ++ z).extract 0 a.size = a := by
  apply bytesOf_inj
  rw [bytesOf_extract, bytesOf_append, List.take_append_of_le_length (by rw [bytesOf_length]; exact Nat.le_refl _)]
  simp [bytesOf_length, List.take_of_length_le]
theorem extract_right (a z : ByteArray) : (a ++ z).extract a.size (a ++ z).size = z := by
  apply bytesOf_inj
  rw [bytesOf_drop, bytesOf_append, List.drop_append_of_le_length (by rw [bytesOf_length]; exact Nat.le_refl _), List.drop_eq_nil_of_le (by rw [bytesOf_length]; exact Nat.le_refl _)]
  rfl
theorem app_assoc (a b c : ByteArray) : a ++ b ++ c = a ++ (b ++ c) := by apply bytesOf_inj; simp [bytesOf_append]
theorem app_left_cancel {a b c : ByteArray} (h : a ++ c = b ++ c) : a = b := by
  apply bytesOf_inj
  have := congrArg bytesOf h
  rw [bytesOf_append, bytesOf_append] at this
  exact List.append_cancel_right this
theorem cutB_hit {s a z : ByteArray} {b : UInt8} (e : s = (a ++ ⟨#[b]⟩) ++ z) (hno : (b.toNat : Int) ∉ bytesOf a) : cutB s b = (a, z, true) := by
  have hmem : b ∈ s.data.toList := by rw [e]; simp [ByteArray.data_append]
  have h0 := (mem_index _ _).1 hmem
  obtain ⟨o, ho⟩ := Int.eq_ofNat_of_zero_le h0
  have h1 := Lib.indexByte_some ho
  have hlt : o < s.data.toList.length := (List.getElem?_eq_some_iff.1 h1.1).1
  rw [data_length] at hlt
  have hj : o = a.size := by
    refine split_head (b := b) e hno hlt ?_ ?_
    · rw [← rd_bytesOf]; simp [rd, bytesOf, List.getD_eq_getElem?_getD, h1.1]
    · intro hm
      obtain ⟨k, hk⟩ := List.mem_iff_getElem?.1 hm
      rw [List.getElem?_take] at hk
      split at hk
      · rename_i hko
        apply h1.2 k hko
        simp only [bytesOf, List.getElem?_map, Option.map_eq_some_iff] at hk
        obtain ⟨c, hc, hcb⟩ := hk
        rw [hc, UInt8.toNat_inj.1 (Int.ofNat.inj hcb)]
      · cases hk
  unfold cutB
  rw [if_pos h0, ho, hj]
  have e2 : a.size + 1 = (a ++ ⟨#[b]⟩ : ByteArray).size := by rw [ByteArray.size_append]; rfl
  refine Prod.ext ?_ (Prod.ext ?_ rfl)
  · show s.extract 0 a.size = a
    rw [e, app_assoc]; exact extract_left _ _
  · show s.extract (a.size + 1) s.size = z
    rw [e, e2]; exact extract_right _ _
theorem cutB_size (s : ByteArray) (b : UInt8) : (cutB s b).1.size ≤ s.size ∧ (cutB s b).2.1.size ≤ s.size := by
  unfold cutB
  split
  · simp; omega
  · exact ⟨Nat.le_refl _, Nat.zero_le _⟩
end Go.Proofs.YtnbhbnndfpfikaaDoor.X
