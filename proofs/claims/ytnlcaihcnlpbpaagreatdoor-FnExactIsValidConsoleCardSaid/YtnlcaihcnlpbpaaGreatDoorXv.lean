/- The plain law of IsValidConsole: pools, last rolls, copies and comparisons are the same on both sides. -/
import Derived.Test.YtnlcaihcnlpbpaaGreatDoorXs
import Derived.Test.YtnlcaihcnlpbpaaGreatDoorY9
namespace Go.Proofs.YtnlcaihcnlpbpaaGreatDoor.X
open Go.RowKit Go.Shelf Go.Proofs.YtnlcaihcnlpbpaaGreatDoorW.PrintWords Go.Proofs.YtnlcaihcnlpbpaaGreatDoorW.PrintLast Go.Proofs.YtnlcaihcnlpbpaaGreatDoorW.PrintMore
set_option linter.unusedVariables false
set_option linter.unusedSimpArgs false

abbrev Die := S63
theorem Ev.and {f g : Nat → Option Bool} {a b : Bool} (hf : Ev f a) (hg : Ev g b) : Ev (fun k => (f k).bind fun t => if t = true then g k else Option.some false) (a && b) := by
  refine Ev.bind hf ?_
  cases a
  · exact Ev.neg (by decide) (Ev.const _)
  · exact Ev.pos rfl hg
theorem Ev.one {f : Nat → Option Bool} {a : Bool} (hf : Ev f a) : Ev (fun k => (f k).bind fun t => Option.some t) a := Ev.bind hf (Ev.const _)
/-! ### bounds -/
theorem szConsole_eq (p : List Die) (a1 : Int) (l : List Int) (a3 a4 a5 : Int) (D P : ByteArray) (c : Int) (hp : p.length ≤ 9223372036854775807) (hl : l.length ≤ 9223372036854775807) (h0 : D.size ≤ 9223372036854775807) (h1 : P.size ≤ 9223372036854775807) :
    ∃ m, laws_szConsole.f p a1 l a3 a4 a5 D P c 1048576 = some m ∧ (¬ m < 0 → p.length ≤ 1048576 ∧ l.length ≤ 1048576 ∧ D.size + P.size ≤ 1048576) := by
  unfold laws_szConsole.f laws_szTavern.f laws_szIntA6S.f laws_szIntS.f laws_szLog.f
  rw [w64 (1048576 - (p.length : Int)) (by omega) (by omega)]
  by_cases c1 : (1048576 - (p.length : Int)) < 0
  · rw [if_pos c1]; exact ⟨-1, rfl, by omega⟩
  rw [if_neg c1]
  simp only [Option.bind_some]
  rw [if_neg c1, w64 ((1048576 - (p.length : Int)) - (l.length : Int)) (by omega) (by omega)]
  by_cases c2 : ((1048576 - (p.length : Int)) - (l.length : Int)) < 0
  · rw [if_pos c2]; exact ⟨-1, rfl, by omega⟩
  rw [if_neg c2]
  simp only [Option.bind_some]
  rw [if_neg c2]
  simp only [Option.bind_some]
  rw [if_neg c2, w64 ((1048576 - (p.length : Int)) - (l.length : Int) - (D.size : Int)) (by omega) (by omega)]
  by_cases c3 : ((1048576 - (p.length : Int)) - (l.length : Int) - (D.size : Int)) < 0
  · rw [if_pos c3]; exact ⟨-1, rfl, by omega⟩
  rw [if_neg c3, w64 ((1048576 - (p.length : Int)) - (l.length : Int) - (D.size : Int) - (P.size : Int)) (by omega) (by omega)]
  by_cases c4 : ((1048576 - (p.length : Int)) - (l.length : Int) - (D.size : Int) - (P.size : Int)) < 0
  · rw [if_pos c4]; exact ⟨-1, rfl, by omega⟩
  rw [if_neg c4]
  simp only [Option.bind_some]
  rw [if_neg c4]
  exact ⟨_, rfl, fun _ => ⟨by omega, by omega, by omega⟩⟩
/-! ### copies -/
theorem copy_step {α : Type} (l : List α) (z : α) (i : Nat) (hi : i < l.length) : (l.take i ++ List.replicate (l.length - i) z).set i l[i] = l.take (i + 1) ++ List.replicate (l.length - (i + 1)) z := by
  have h1 : (l.take i).length = i := by rw [List.length_take]; omega
  rw [List.set_append_right i _ (by omega), h1, Nat.sub_self, show l.length - i = (l.length - (i + 1)) + 1 by omega, List.replicate_succ, List.set_cons_zero, List.take_succ_eq_append_getElem hi, List.append_assoc]
  rfl
theorem copy_length {α : Type} (l : List α) (z : α) (i : Nat) (hi : i ≤ l.length) : (l.take i ++ List.replicate (l.length - i) z).length = l.length := by
  rw [List.length_append, List.length_take, List.length_replicate]; omega
theorem toIntS_ev (l : List Int) (hl : l.length ≤ 1048576) : Ev (fun k => laws_toIntS.f k l) l := by
  have h : ∀ (n i : Nat), i + n = l.length → Ev (fun k => laws_toIntS.l0 k l (l.take i ++ List.replicate (l.length - i) 0) (i : Int)) l := by
    intro n
    induction n with
    | zero =>
      intro i hi
      refine Ev.shift ?_
      unfold laws_toIntS.l0
      refine Ev.neg (by omega) ?_
      rw [show l.length - i = 0 by omega, List.take_of_length_le (by omega)]
      simp only [List.replicate_zero, List.append_nil]
      exact Ev.const _
    | succ n ih =>
      intro i hi
      refine Ev.shift ?_
      unfold laws_toIntS.l0
      refine Ev.pos (by omega) (Ev.pos (by omega) (Ev.pos (by rw [copy_length l 0 i (by omega)]; omega) ?_))
      have hil : i < l.length := by omega
      have hr : rd l (i : Int) = l[i] := by simp [rd, List.getD_eq_getElem?_getD, hil]
      rw [w64 ((i : Int) + 1) (by omega) (by omega), hr, Int.toNat_natCast, copy_step l 0 i hil]
      exact ih (i + 1) (by omega)
  unfold laws_toIntS.f
  refine Ev.pos (by omega) (Ev.pos (by omega) ?_)
  have := h l.length 0 (by omega)
  rw [List.take_zero, List.nil_append, Nat.sub_zero] at this
  rw [Int.toNat_natCast]
  exact this
theorem rdT_get (l : List Die) (i : Nat) (hi : i < l.length) : rd_T63 l (i : Int) = l[i] := by simp [rd_T63, List.getD_eq_getElem?_getD, hi]
theorem toIntA6S_ev (l : List Die) (hl : l.length ≤ 1048576) : Ev (fun k => laws_toIntA6S.f k l) l := by
  have h : ∀ (n i : Nat), i + n = l.length → Ev (fun k => laws_toIntA6S.l0 k l (l.take i ++ List.replicate (l.length - i) z63) (i : Int)) l := by
    intro n
    induction n with
    | zero =>
      intro i hi
      refine Ev.shift ?_
      unfold laws_toIntA6S.l0
      refine Ev.neg (by omega) ?_
      rw [show l.length - i = 0 by omega, List.take_of_length_le (by omega)]
      simp only [List.replicate_zero, List.append_nil]
      exact Ev.const _
    | succ n ih =>
      intro i hi
      refine Ev.shift ?_
      unfold laws_toIntA6S.l0
      refine Ev.pos (by omega) (Ev.pos (by omega) ?_)
      have hil : i < l.length := by omega
      unfold laws_toIntA6.f
      simp only [Option.bind_some]
      refine Ev.pos (by rw [copy_length l _ i (by omega)]; omega) ?_
      have he : (⟨(rd_T63 l (i : Int)).f0, (rd_T63 l (i : Int)).f1, (rd_T63 l (i : Int)).f2, (rd_T63 l (i : Int)).f3, (rd_T63 l (i : Int)).f4, (rd_T63 l (i : Int)).f5⟩ : Die) = l[i] := rdT_get l i hil
      rw [w64 ((i : Int) + 1) (by omega) (by omega), he, Int.toNat_natCast, copy_step l _ i hil]
      exact ih (i + 1) (by omega)
  unfold laws_toIntA6S.f
  refine Ev.pos (by omega) (Ev.pos (by omega) ?_)
  have := h l.length 0 (by omega)
  rw [List.take_zero, List.nil_append, Nat.sub_zero] at this
  rw [Int.toNat_natCast]
  exact this
theorem toConsole_ev (p : List Die) (a1 : Int) (l : List Int) (a3 a4 a5 : Int) (D P : ByteArray) (c : Int) (hp : p.length ≤ 1048576) (hl : l.length ≤ 1048576) : Ev (fun k => laws_toConsole.f k p a1 l a3 a4 a5 D P c) (p, a1, l, a3, a4, a5, D, P, c) := by
  unfold laws_toConsole.f laws_toTavern.f laws_toLog.f
  exact Ev.bind (Ev.bind (toIntA6S_ev p hp) (Ev.bind (toIntS_ev l hl) (Ev.const _))) (Ev.const _)
/-! ### comparisons -/
theorem eqIntS_ev (l : List Int) (hl : l.length ≤ 1048576) : Ev (fun k => laws_eqIntS.f k l l) true := by
  have h : ∀ (n i : Nat), i + n = l.length → Ev (fun k => laws_eqIntS.l0 k l l (i : Int)) true := by
    intro n
    induction n with
    | zero =>
      intro i hi
      refine Ev.shift ?_
      unfold laws_eqIntS.l0
      exact Ev.neg (by omega) (Ev.const _)
    | succ n ih =>
      intro i hi
      refine Ev.shift ?_
      unfold laws_eqIntS.l0
      refine Ev.pos (by omega) (Ev.pos (by omega) (Ev.pos (by omega) (Ev.pos rfl ?_)))
      rw [w64 ((i : Int) + 1) (by omega) (by omega)]
      exact ih (i + 1) (by omega)
  unfold laws_eqIntS.f
  exact Ev.pos rfl (h l.length 0 (by omega))
theorem eqIntA6S_ev (l : List Die) (hl : l.length ≤ 1048576) : Ev (fun k => laws_eqIntA6S.f k l l) true := by
  have h : ∀ (n i : Nat), i + n = l.length → Ev (fun k => laws_eqIntA6S.l0 k l l (i : Int)) true := by
    intro n
    induction n with
    | zero =>
      intro i hi
      refine Ev.shift ?_
      unfold laws_eqIntA6S.l0
      exact Ev.neg (by omega) (Ev.const _)
    | succ n ih =>
      intro i hi
      refine Ev.shift ?_
      unfold laws_eqIntA6S.l0 laws_eqIntA6.f
      simp only [Option.bind_some, and_self, decide_true]
      refine Ev.pos (by omega) (Ev.pos (by omega) (Ev.pos (by omega) (Ev.pos (by trivial) ?_)))
      rw [w64 ((i : Int) + 1) (by omega) (by omega)]
      exact ih (i + 1) (by omega)
  unfold laws_eqIntA6S.f
  exact Ev.pos rfl (h l.length 0 (by omega))
theorem eqConsole_ev (p : List Die) (a1 : Int) (l : List Int) (a3 a4 a5 : Int) (D P : ByteArray) (c : Int) (hp : p.length ≤ 1048576) (hl : l.length ≤ 1048576) : Ev (fun k => laws_eqConsole.f k p a1 l a3 a4 a5 D P c p a1 l a3 a4 a5 D P c) true := by
  unfold laws_eqConsole.f laws_eqTavern.f
  refine Ev.bind (Ev.bind (eqIntA6S_ev p hp) (Ev.pos rfl (Ev.pos rfl (Ev.bind (eqIntS_ev l hl) (Ev.pos rfl (Ev.pos rfl (Ev.pos rfl (Ev.pos rfl (Ev.const _))))))))) (Ev.pos rfl ?_)
  rw [eqLog_refl]
  exact Ev.bind (Ev.const _) (Ev.pos rfl (Ev.const _))
/-! ### pools -/
def poolOk (p : List Die) : Bool := decide (1 ≤ p.length ∧ p.length ≤ 4) && p.all dieOk
theorem within_f (a b c : Int) : impl_within.f a b c = some (decide (b ≤ a ∧ a ≤ c)) := by
  unfold impl_within.f
  by_cases h : b ≤ a
  · rw [if_pos h]; simp [h]
  · rw [if_neg h]; simp [h]
theorem l1In_f (a b c : Int) : spec_l1In.f a b c = some (decide (b ≤ a ∧ a ≤ c)) := by
  unfold spec_l1In.f
  by_cases h : b ≤ a
  · rw [if_pos h]; simp [h]
  · rw [if_neg h]; simp [h]
theorem l2Die_f (x : Die) : spec_l2Die.f x.f0 x.f1 x.f2 x.f3 x.f4 x.f5 = some (dieOk x) := by
  unfold spec_l2Die.f
  congr 1
  rw [Bool.eq_iff_iff]
  simp [dieOk, dieUp, facesOf, faceOk, Lib.downOK]
  omega
theorem l2Pool_ev (p : List Die) (hp : p.length ≤ 1048576) : Ev (fun k => spec_l2Pool.f k p) (poolOk p) := by
  have h : ∀ (n i : Nat), i + n = 5 → i ≤ p.length → ∃ r : Bool, Ev (fun k => spec_l2Pool.l0 k p (i : Int)) r ∧ (r = true ↔ (∀ j, i ≤ j → j < p.length → j ≤ 4 → dieOk (p.getD j z63) = true) ∧ 1 ≤ p.length ∧ p.length ≤ 4) := by
    intro n
    induction n with
    | zero =>
      intro i hi hip
      refine ⟨decide ((1 : Int) ≤ (p.length : Int) ∧ (p.length : Int) ≤ 4), ?_, ?_⟩
      · refine Ev.shift ?_
        unfold spec_l2Pool.l0
        have hj : Ev (fun k => spec_l2Pool.j1 k p (i : Int) false) (decide ((1 : Int) ≤ (p.length : Int) ∧ (p.length : Int) ≤ 4)) := by
          refine Ev.shift ?_
          unfold spec_l2Pool.j1
          refine Ev.neg (by decide) ?_
          rw [l1In_f]
          exact Ev.one (Ev.const _)
        by_cases hl : (i : Int) < (p.length : Int)
        · refine Ev.pos hl ?_
          rw [decide_eq_false (by omega)]
          exact hj
        · exact Ev.neg hl hj
      · rw [decide_eq_true_iff]
        exact ⟨fun h => ⟨fun j h1 h2 h3 => by omega, by omega, by omega⟩, fun h => by omega⟩
    | succ n ih =>
      intro i hi hip
      by_cases hl : (i : Int) < (p.length : Int)
      · have hil : i < p.length := by omega
        have hg : p.getD i z63 = rd_T63 p (i : Int) := rfl
        by_cases hd : dieOk (rd_T63 p (i : Int)) = true
        · obtain ⟨r, h1, h2⟩ := ih (i + 1) (by omega) (by omega)
          refine ⟨r, ?_, ?_⟩
          · refine Ev.shift ?_
            unfold spec_l2Pool.l0
            refine Ev.pos hl ?_
            rw [decide_eq_true (by omega)]
            refine Ev.shift ?_
            unfold spec_l2Pool.j1
            refine Ev.pos rfl (Ev.pos (by omega) (Ev.pos hl ?_))
            rw [l2Die_f, hd, w64 ((i : Int) + 1) (by omega) (by omega)]
            exact Ev.bind (Ev.const _) (Ev.pos rfl h1)
          · rw [h2]
            constructor
            · rintro ⟨h3, h4⟩
              refine ⟨fun j h5 h6 h7 => ?_, h4⟩
              by_cases he : j = i
              · rw [he, hg]; exact hd
              · exact h3 j (by omega) h6 h7
            · rintro ⟨h3, h4⟩
              exact ⟨fun j h5 h6 h7 => h3 j (by omega) h6 h7, h4⟩
        · refine ⟨false, ?_, ?_⟩
          · refine Ev.shift ?_
            unfold spec_l2Pool.l0
            refine Ev.pos hl ?_
            rw [decide_eq_true (by omega)]
            refine Ev.shift ?_
            unfold spec_l2Pool.j1
            refine Ev.pos rfl (Ev.pos (by omega) (Ev.pos hl ?_))
            rw [l2Die_f]
            exact Ev.bind (Ev.const _) (Ev.neg hd (Ev.const _))
          · constructor
            · intro h; cases h
            · rintro ⟨h3, h4⟩
              exact absurd (by rw [← hg]; exact h3 i (by omega) hil (by omega)) hd
      · refine ⟨decide ((1 : Int) ≤ (p.length : Int) ∧ (p.length : Int) ≤ 4), ?_, ?_⟩
        · refine Ev.shift ?_
          unfold spec_l2Pool.l0
          refine Ev.neg hl ?_
          refine Ev.shift ?_
          unfold spec_l2Pool.j1
          refine Ev.neg (by decide) ?_
          rw [l1In_f]
          exact Ev.one (Ev.const _)
        · rw [decide_eq_true_iff]
          exact ⟨fun h => ⟨fun j h1 h2 h3 => by omega, by omega, by omega⟩, fun h => by omega⟩
  obtain ⟨r, h1, h2⟩ := h 5 0 (by omega) (by omega)
  have : r = poolOk p := by
    rw [Bool.eq_iff_iff, h2, poolOk, Bool.and_eq_true, decide_eq_true_iff, List.all_eq_true]
    constructor
    · rintro ⟨h3, h4⟩
      refine ⟨h4, fun x hx => ?_⟩
      obtain ⟨j, hj, rfl⟩ := List.getElem_of_mem hx
      have := h3 j (by omega) hj (by omega)
      rwa [List.getD_eq_getElem?_getD, List.getElem?_eq_getElem hj] at this
    · rintro ⟨h4, h3⟩
      refine ⟨fun j _ hj _ => ?_, h4⟩
      rw [List.getD_eq_getElem?_getD, List.getElem?_eq_getElem hj]
      exact h3 _ (List.getElem_mem hj)
  rw [← this]
  exact h1
/-! ### what was rolled last -/
theorem isLast_ev (p : List Die) (a1 : Int) (l : List Int) (a3 a4 a5 : Int) (hl : l.length ≤ 1048576) (hp : p.length ≤ 1048576) : Ev (fun k => impl_Tavern_isLast.f k p a1 l a3 a4 a5) (decide (l.length = 0) || lastOk p l) := by
  unfold impl_Tavern_isLast.f
  by_cases h0 : l.length = 0
  · rw [decide_eq_true h0, Bool.true_or]
    exact Ev.pos (by omega) (Ev.const _)
  rw [decide_eq_false h0, Bool.false_or]
  refine Ev.neg (by omega) ?_
  have h : ∀ (n i : Nat), i + n = l.length → ∃ r : Bool, Ev (fun k => impl_Tavern_isLast.l0 k l (l.length : Int) (i : Int) p a1 l a3 a4 a5) r ∧ (r = true ↔ (∀ j, i ≤ j → j < l.length → j < p.length → hasAt p l j = true) ∧ l.length = p.length) := by
    intro n
    induction n with
    | zero =>
      intro i hi
      refine ⟨((l.length : Int) == (p.length : Int)), ?_, ?_⟩
      · refine Ev.shift ?_
        unfold impl_Tavern_isLast.l0
        exact Ev.neg (by omega) (Ev.const _)
      · rw [beq_iff_eq]
        exact ⟨fun h => ⟨fun j h1 h2 h3 => by omega, by omega⟩, fun h => by omega⟩
    | succ n ih =>
      intro i hi
      by_cases hip : i < p.length
      · have hh : impl_has.f (rd_T63 p (i : Int)).f0 (rd_T63 p (i : Int)).f1 (rd_T63 p (i : Int)).f2 (rd_T63 p (i : Int)).f3 (rd_T63 p (i : Int)).f4 (rd_T63 p (i : Int)).f5 (rd l (i : Int)) = some (hasAt p l i) := rfl
        by_cases hd : hasAt p l i = true
        · obtain ⟨r, h1, h2⟩ := ih (i + 1) (by omega)
          refine ⟨r, ?_, ?_⟩
          · refine Ev.shift ?_
            unfold impl_Tavern_isLast.l0
            refine Ev.pos (by omega) (Ev.pos (by omega) (Ev.pos (by omega) (Ev.neg (by omega) (Ev.pos (by omega) ?_))))
            rw [hh, hd, w64 ((i : Int) + 1) (by omega) (by omega)]
            exact Ev.bind (Ev.const _) (Ev.pos rfl h1)
          · rw [h2]
            constructor
            · rintro ⟨h3, h4⟩
              refine ⟨fun j h5 h6 h7 => ?_, h4⟩
              by_cases he : j = i
              · rw [he]; exact hd
              · exact h3 j (by omega) h6 h7
            · rintro ⟨h3, h4⟩
              exact ⟨fun j h5 h6 h7 => h3 j (by omega) h6 h7, h4⟩
        · refine ⟨false, ?_, ?_⟩
          · refine Ev.shift ?_
            unfold impl_Tavern_isLast.l0
            refine Ev.pos (by omega) (Ev.pos (by omega) (Ev.pos (by omega) (Ev.neg (by omega) (Ev.pos (by omega) ?_))))
            rw [hh]
            exact Ev.bind (Ev.const _) (Ev.neg hd (Ev.const _))
          · constructor
            · intro h; cases h
            · rintro ⟨h3, h4⟩
              exact absurd (h3 i (by omega) (by omega) hip) hd
      · refine ⟨false, ?_, ?_⟩
        · refine Ev.shift ?_
          unfold impl_Tavern_isLast.l0
          exact Ev.pos (by omega) (Ev.pos (by omega) (Ev.pos (by omega) (Ev.pos (by omega) (Ev.const _))))
        · constructor
          · intro h; cases h
          · rintro ⟨h3, h4⟩; omega
  obtain ⟨r, h1, h2⟩ := h l.length 0 (by omega)
  have : r = lastOk p l := by
    rw [Bool.eq_iff_iff, h2, lastOk_iff]
    exact ⟨fun h => ⟨fun j h5 h6 => h.1 j (by omega) h5 h6, h.2⟩, fun h => ⟨fun j _ h5 h6 => h.1 j h5 h6, h.2⟩⟩
  rw [← this]
  exact h1
/-! ### taverns -/
def inB (a c : Int) : Bool := decide (0 ≤ a ∧ a ≤ c)
def tavOk (p : List Die) (a1 : Int) (l : List Int) (a3 a4 a5 : Int) : Bool := poolOk p && (inB a1 65535 && ((decide (l.length = 0) || lastOk p l) && (inB a3 100000 && (inB a4 120 && inB a5 1000))))
theorem spec_l12Good_ev (p : List Die) (a1 : Int) (l : List Int) (a3 a4 a5 : Int) (hl : l.length ≤ 1048576) (hp : p.length ≤ 1048576) : Ev (fun k => spec_l12Good.f k p a1 l a3 a4 a5) (tavOk p a1 l a3 a4 a5) := by
  unfold spec_l12Good.f tavOk
  simp only [l1In_f, spec_l12Last.f]
  exact Ev.and (l2Pool_ev p hp) (Ev.and (Ev.const _) (Ev.and (Ev.const _) (Ev.and (Ev.const _) (Ev.and (Ev.const _) (Ev.one (Ev.const _))))))
theorem impl_IsTavern_ev (p : List Die) (a1 : Int) (l : List Int) (a3 a4 a5 : Int) (hl : l.length ≤ 1048576) (hp : p.length ≤ 1048576) : Ev (fun k => impl_IsTavern.f k p a1 l a3 a4 a5) (tavOk p a1 l a3 a4 a5) := by
  have h : Ev (fun k => impl_IsTavern.f k p a1 l a3 a4 a5) (poolOk p && (inB a1 65535 && (inB a3 100000 && (inB a4 120 && (inB a5 1000 && (decide (l.length = 0) || lastOk p l)))))) := by
    unfold impl_IsTavern.f
    simp only [within_f, impl_IsPool.f]
    exact Ev.and (Ev.const _) (Ev.and (Ev.const _) (Ev.and (Ev.const _) (Ev.and (Ev.const _) (Ev.and (Ev.const _) (Ev.one (isLast_ev p a1 l a3 a4 a5 hl hp))))))
  have e : (poolOk p && (inB a1 65535 && (inB a3 100000 && (inB a4 120 && (inB a5 1000 && (decide (l.length = 0) || lastOk p l)))))) = tavOk p a1 l a3 a4 a5 := by
    unfold tavOk
    generalize poolOk p = b1
    generalize inB a1 65535 = b2
    generalize inB a3 100000 = b3
    generalize inB a4 120 = b4
    generalize inB a5 1000 = b5
    generalize (decide (l.length = 0) || lastOk p l) = b6
    cases b1 <;> cases b2 <;> cases b3 <;> cases b4 <;> cases b5 <;> cases b6 <;> rfl
  rw [← e]
  exact h
/-- ████ THE PLAIN LAW OF IsValidConsole ████ -/
theorem console (p : List Die) (a1 : Int) (l : List Int) (a3 a4 a5 : Int) (D P : ByteArray) (c : Int) (hp : p.length ≤ 9223372036854775807) (hl : l.length ≤ 9223372036854775807) (h0 : D.size ≤ 9223372036854775807) (h1 : P.size ≤ 9223372036854775807) :
    ∃ k, laws_FnExactIsValidConsole.f k p a1 l a3 a4 a5 D P c = some true := by
  obtain ⟨m, hm, hb⟩ := szConsole_eq p a1 l a3 a4 a5 D P c hp hl h0 h1
  unfold laws_FnExactIsValidConsole.f
  simp only [hm, Option.bind_some]
  by_cases hm0 : m < 0
  · exact ⟨0, if_pos hm0⟩
  simp only [if_neg hm0]
  obtain ⟨hp2, hl2, hs⟩ := hb hm0
  apply Ev.some
  have hto := toConsole_ev p a1 l a3 a4 a5 D P c hp2 hl2
  have hsp : Ev (fun k => spec_IsValidConsole.f k p a1 l a3 a4 a5 D P c) (tavOk p a1 l a3 a4 a5 && validL D P c) := by
    unfold spec_IsValidConsole.f
    exact Ev.and (spec_l12Good_ev p a1 l a3 a4 a5 hl2 hp2) (Ev.one (spec_l12Valid_ev D P c (by omega)))
  have him : Ev (fun k => impl_IsValidConsole.f k p a1 l a3 a4 a5 D P c) (tavOk p a1 l a3 a4 a5 && validL D P c) := by
    unfold impl_IsValidConsole.f
    exact Ev.and (impl_IsTavern_ev p a1 l a3 a4 a5 hl2 hp2) (Ev.one (impl_IsValidLog_ev D P c (by omega)))
  refine Ev.bind hto (Ev.bind hsp (Ev.bind hto (Ev.bind him (Ev.neg (by simp) (Ev.bind hto (Ev.bind (eqConsole_ev p a1 l a3 a4 a5 D P c hp2 hl2) (Ev.pos rfl (Ev.const _))))))))
end Go.Proofs.YtnlcaihcnlpbpaaGreatDoor.X
