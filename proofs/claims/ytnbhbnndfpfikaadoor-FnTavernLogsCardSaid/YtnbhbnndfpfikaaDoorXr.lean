/- The log's plain laws, 3: the loops over lines; what a valid log is. -/
import Derived.Test.YtnbhbnndfpfikaaDoorXq
namespace Go.Proofs.YtnbhbnndfpfikaaDoor.X
open Go.RowKit Go.Proofs.YtnbhbnndfpfikaaDoorW.PrintWords Go.Proofs.YtnbhbnndfpfikaaDoorW.PrintLast Go.Proofs.YtnbhbnndfpfikaaDoorW.PrintMore
set_option linter.unusedVariables false
set_option linter.unusedSimpArgs false
def full (x : ByteArray) : Prop := ∃ y, x = y ++ nl ∧ (10 : Int) ∉ bytesOf y
def flat : List ByteArray → ByteArray
  | [] => ⟨#[]⟩
  | x :: xs => x ++ flat xs
theorem nil_app (s : ByteArray) : (⟨#[]⟩ : ByteArray) ++ s = s := by apply bytesOf_inj; rw [bytesOf_append]; rfl
theorem app_nil (s : ByteArray) : s ++ (⟨#[]⟩ : ByteArray) = s := by apply bytesOf_inj; rw [bytesOf_append]; simp [bytesOf]
theorem flat_app (a b : List ByteArray) : flat (a ++ b) = flat a ++ flat b := by
  induction a with
  | nil => exact (nil_app _).symm
  | cons x a ih => show x ++ flat (a ++ b) = (x ++ flat a) ++ flat b; rw [ih, app_assoc]
theorem flat_size (a : List ByteArray) : (flat a).size = tot a := by
  induction a with
  | nil => rfl
  | cons x a ih => show (x ++ flat a).size = _; rw [ByteArray.size_append, ih]; simp [tot]
theorem tot_app (a b : List ByteArray) : tot (a ++ b) = tot a + tot b := by simp [tot]
theorem cut_app (s : ByteArray) (i : Nat) (h : i ≤ s.size) : s.extract 0 i ++ s.extract i s.size = s := by
  apply bytesOf_inj
  rw [bytesOf_append, bytesOf_drop, bytesOf_extract, List.drop_zero, List.take_append_drop]
theorem lines_mem : ∀ (n : Nat) (s : ByteArray), s.size ≤ n → flat (lines s) = s ∧ ∀ x ∈ lines s, x.size ≠ 0 ∧ x.size ≤ s.size ∧ (full x ∨ (10 : Int) ∉ bytesOf x) := by
  intro n
  induction n with
  | zero =>
    intro s hs
    rw [lines_nil s (by omega)]
    refine ⟨?_, by simp⟩
    apply bytesOf_inj
    exact (List.length_eq_zero_iff.1 (by rw [bytesOf_length]; omega)).symm
  | succ n ih =>
    intro s hs
    by_cases h : s.size = 0
    · rw [lines_nil s h]
      refine ⟨?_, by simp⟩
      apply bytesOf_inj
      exact (List.length_eq_zero_iff.1 (by rw [bytesOf_length]; omega)).symm
    · by_cases h1 : 0 ≤ Lib.indexByte s.data.toList 10
      · obtain ⟨i, hi⟩ := Int.eq_ofNat_of_zero_le h1
        have hs1 := Lib.indexByte_some hi
        have hlt : i < s.data.toList.length := (List.getElem?_eq_some_iff.1 hs1.1).1
        rw [data_length] at hlt
        rw [lines_cut s h h1, hi, Int.toNat_natCast]
        obtain ⟨ih1, ih2⟩ := ih (s.extract (i + 1) s.size) (by simp; omega)
        refine ⟨?_, ?_⟩
        · show s.extract 0 (i + 1) ++ flat (lines (s.extract (i + 1) s.size)) = s
          rw [ih1]; exact cut_app s (i + 1) (by omega)
        · intro x hx
          rcases List.mem_cons.1 hx with rfl | hx
          · have hes : (s.extract 0 (i + 1)).size = i + 1 := by rw [ByteArray.size_extract]; omega
            refine ⟨by omega, by omega, .inl ⟨s.extract 0 i, ?_, ?_⟩⟩
            · apply bytesOf_inj
              have : bt s (i : Int) = 10 := by rw [← rd_bytesOf]; simp [rd, bytesOf, List.getD_eq_getElem?_getD, hs1.1]
              rw [bytesOf_append, bytesOf_extract, bytesOf_extract, List.drop_zero, List.drop_zero]
              show List.take (i + 1) (bytesOf s) = _
              rw [List.take_add_one, show (bytesOf s)[i]? = some (bt s i) by rw [← List.head?_drop, drop_bt s i hlt]; rfl, this]
              rfl
            · intro hm
              rw [bytesOf_extract, List.drop_zero] at hm
              obtain ⟨k, hk⟩ := List.mem_iff_getElem?.1 hm
              rw [List.getElem?_take] at hk
              split at hk
              · rename_i hko
                simp only [bytesOf, List.getElem?_map, Option.map_eq_some_iff] at hk
                obtain ⟨c, hc, hcb⟩ := hk
                apply hs1.2 k hko
                rw [hc]
                exact congrArg some (UInt8.toNat_inj.1 (Int.ofNat.inj hcb))
              · cases hk
          · obtain ⟨a, b, c⟩ := ih2 x hx
            exact ⟨a, by have : (s.extract (i + 1) s.size).size ≤ s.size := by { simp }; omega, c⟩
      · rw [lines_last s h h1]
        refine ⟨app_nil s, ?_⟩
        intro x hx
        obtain rfl := List.mem_singleton.1 hx
        refine ⟨h, Nat.le_refl _, .inr ?_⟩
        intro hm
        have := hasByte_mem x 10
        rw [show decide (((10 : UInt8).toNat : Int) ∈ bytesOf x) = true from qE hm] at this
        unfold hasByte at this
        exact h1 (qF this)
theorem flat_lines (s : ByteArray) : flat (lines s) = s := (lines_mem _ s (Nat.le_refl _)).1
theorem lines_parts (s : ByteArray) : ∀ x ∈ lines s, x.size ≠ 0 ∧ x.size ≤ s.size ∧ (full x ∨ (10 : Int) ∉ bytesOf x) := (lines_mem _ s (Nat.le_refl _)).2
theorem lines_full (x s : ByteArray) (hx : full x) : lines (x ++ s) = x :: lines s := by
  obtain ⟨y, rfl, hno⟩ := hx
  have e : (y ++ nl) ++ s = (y ++ ⟨#[10]⟩) ++ s := rfl
  have hmem : (10 : UInt8) ∈ ((y ++ nl) ++ s).data.toList := by simp [ByteArray.data_append, nl]
  have h0 := (mem_index _ _).1 hmem
  obtain ⟨o, ho⟩ := Int.eq_ofNat_of_zero_le h0
  have hc := cutB_hit (b := 10) e hno
  unfold cutB at hc
  rw [if_pos h0] at hc
  have h1 : ((y ++ nl) ++ s).extract 0 (Lib.indexByte ((y ++ nl) ++ s).data.toList 10).toNat = y := congrArg Prod.fst hc
  have h2 : ((y ++ nl) ++ s).extract ((Lib.indexByte ((y ++ nl) ++ s).data.toList 10).toNat + 1) ((y ++ nl) ++ s).size = s := congrArg (fun p => p.2.1) hc
  have hsz : (y ++ nl : ByteArray).size = y.size + 1 := by rw [ByteArray.size_append]; rfl
  have hlt := indexByte_lt ((y ++ nl) ++ s).data.toList 10
  rw [data_length] at hlt
  have hio : (Lib.indexByte ((y ++ nl) ++ s).data.toList 10).toNat = y.size := by
    have := congrArg ByteArray.size h1
    rw [ByteArray.size_extract, ByteArray.size_append, hsz] at this
    rw [ByteArray.size_append, hsz] at hlt
    omega
  rw [lines_cut _ (by rw [ByteArray.size_append, hsz]; omega) h0, h2, hio, ← hsz, extract_left]
theorem lines_flat (ls : List ByteArray) (s : ByteArray) (h : ∀ x ∈ ls, full x) : lines (flat ls ++ s) = ls ++ lines s := by
  induction ls with
  | nil => rw [show flat [] = ⟨#[]⟩ from rfl, nil_app]; rfl
  | cons x ls ih =>
    rw [show flat (x :: ls) = x ++ flat ls from rfl, app_assoc, lines_full x _ (h x List.mem_cons_self), ih (fun y hy => h y (List.mem_cons_of_mem _ hy))]
    rfl
abbrev S := S36
def recOf (n : Nat) (x : ByteArray) : Option S := if n ≤ 59 ∧ good (partC x) (partR x) = true ∧ recLine (n : Int) (partC x) (partR x) = x then some ⟨partC x, partR x⟩ else none
theorem recOf_some {n : Nat} {x : ByteArray} {e : S} (h : recOf n x = some e) : n ≤ 59 ∧ good (partC x) (partR x) = true ∧ recLine (n : Int) (partC x) (partR x) = x ∧ e = ⟨partC x, partR x⟩ := by
  unfold recOf at h
  split at h
  · rename_i hc
    exact ⟨hc.1, hc.2.1, hc.2.2, (Option.some.inj h).symm⟩
  · cases h
theorem recOf_full {n : Nat} {x : ByteArray} {e : S} (h : recOf n x = some e) (hx : full x ∨ (10 : Int) ∉ bytesOf x) : full x := by
  refine hx.resolve_right (fun hno => hno ?_)
  rw [← (recOf_some h).2.2.1]
  simp [recLine, nl, bytesOf_append, bytesOf_one]
def scan : List ByteArray → Nat → List S
  | [], _ => []
  | x :: xs, n => match recOf n x with | some e => e :: scan xs (n + 1) | none => []
theorem scan_cons_some {n : Nat} {x : ByteArray} {e : S} (xs : List ByteArray) (h : recOf n x = some e) : scan (x :: xs) n = e :: scan xs (n + 1) := by simp [scan, h]
theorem scan_cons_none {n : Nat} {x : ByteArray} (xs : List ByteArray) (h : recOf n x = none) : scan (x :: xs) n = [] := by simp [scan, h]
theorem scan_le : ∀ (xs : List ByteArray) (n : Nat), (scan xs n).length ≤ xs.length ∧ (scan xs n).length ≤ 60 - n := by
  intro xs
  induction xs with
  | nil => intro n; simp [scan]
  | cons x xs ih =>
    intro n
    cases h : recOf n x with
    | none => rw [scan_cons_none xs h]; simp
    | some e =>
      rw [scan_cons_some xs h]
      have := ih (n + 1)
      have := (recOf_some h).1
      simp; omega
theorem scan_take : ∀ (xs : List ByteArray) (n j : Nat), scan (xs.take j) n = (scan xs n).take j := by
  intro xs
  induction xs with
  | nil => intro n j; simp [scan]
  | cons x xs ih =>
    intro n j
    cases j with
    | zero => simp [scan]
    | succ j =>
      rw [List.take_succ_cons]
      cases h : recOf n x with
      | none => rw [scan_cons_none _ h, scan_cons_none _ h]; rfl
      | some e => rw [scan_cons_some _ h, scan_cons_some _ h, List.take_succ_cons, ih]
theorem scan_all : ∀ (xs : List ByteArray) (n : Nat), (scan xs n).length = xs.length → ∀ x ∈ xs, ∃ i e, recOf i x = some e := by
  intro xs
  induction xs with
  | nil => intro n _ x hx; cases hx
  | cons y xs ih =>
    intro n h x hx
    cases hr : recOf n y with
    | none => rw [scan_cons_none xs hr] at h; cases h
    | some e =>
      rw [scan_cons_some xs hr] at h
      rcases List.mem_cons.1 hx with rfl | hx
      · exact ⟨n, e, hr⟩
      · exact ih (n + 1) (by simpa using h) x hx
def posL : Nat → List ByteArray → List Int
  | e, [] => [(e : Int)]
  | e, x :: xs => (e : Int) :: posL (e + x.size) xs
theorem posL_length : ∀ (xs : List ByteArray) (e : Nat), (posL e xs).length = xs.length + 1 := by
  intro xs
  induction xs with
  | nil => intro e; rfl
  | cons x xs ih => intro e; simp [posL, ih]
theorem posL_last : ∀ (xs : List ByteArray) (e : Nat), (posL e xs).getD xs.length 0 = ((e + tot xs : Nat) : Int) := by
  intro xs
  induction xs with
  | nil => intro e; simp [posL, tot]
  | cons x xs ih =>
    intro e
    have := ih (e + x.size)
    simp only [posL, List.length_cons, List.getD_cons_succ, this]
    simp [tot]; omega
theorem posL_mem : ∀ (xs : List ByteArray) (e : Nat) (p : Int), p ∈ posL e xs ↔ ∃ j, j ≤ xs.length ∧ p = ((e + tot (xs.take j) : Nat) : Int) := by
  intro xs
  induction xs with
  | nil =>
    intro e p
    simp [posL, tot]
  | cons x xs ih =>
    intro e p
    simp only [posL, List.mem_cons, ih]
    constructor
    · rintro (h | ⟨j, hj, h⟩)
      · exact ⟨0, by omega, by simpa [tot] using h⟩
      · exact ⟨j + 1, by simp; omega, by rw [h, List.take_succ_cons]; simp [tot]; omega⟩
    · rintro ⟨j, hj, h⟩
      cases j with
      | zero => exact .inl (by simpa [tot] using h)
      | succ j => exact .inr ⟨j, by simp at hj; omega, by rw [h, List.take_succ_cons]; simp [tot]; omega⟩
theorem impl_decode_rec (n : Nat) (x : ByteArray) (hx : x.size ≤ 1100000) : Ev (fun k => impl_decode.f k (n : Int) x) (partC x, partR x, (recOf n x).isSome) := by
  have h := impl_decode_ev (n : Int) x hx
  have e : (recOf n x).isSome = decide (0 ≤ (n : Int) ∧ (n : Int) ≤ 59 ∧ good (partC x) (partR x) = true ∧ recLine (n : Int) (partC x) (partR x) = x) := by
    unfold recOf
    split
    · rename_i hc; symm; exact qE ⟨by omega, by omega, hc.2.1, hc.2.2⟩
    · rename_i hc; symm; exact qG (fun h => hc ⟨by omega, h.2.2.1, h.2.2.2⟩)
  rw [e]; exact h
theorem decL_ev : ∀ (xs : List ByteArray) (e : Nat) (out : List S) (es : List Int), (∀ x ∈ xs, x.size ≤ 1100000) →
    Ev (fun k => decL k xs e out es) (out ++ scan xs out.length, es ++ posL e (xs.take (scan xs out.length).length)) := by
  intro xs
  induction xs with
  | nil => intro e out es _; simp only [scan, List.append_nil, List.take_nil, posL]; exact Ev.const _
  | cons x xs ih =>
    intro e out es hx
    unfold decL
    refine Ev.bind (impl_decode_rec out.length x (hx x List.mem_cons_self)) ?_
    cases h : recOf out.length x with
    | none =>
      rw [scan_cons_none xs h]
      refine Ev.neg (by simp) ?_
      simp only [List.append_nil, List.length_nil, List.take_zero, posL]
      exact Ev.const _
    | some r =>
      rw [scan_cons_some xs h]
      refine Ev.pos rfl ?_
      obtain ⟨_, _, _, rfl⟩ := recOf_some h
      have := ih (e + x.size) (out ++ [⟨partC x, partR x⟩]) (es ++ [(e : Int)]) (fun y hy => hx y (List.mem_cons_of_mem _ hy))
      simpa [posL] using this
theorem impl_decodeAll_ev (s : ByteArray) (hs : s.size ≤ 1100000) : Ev (fun k => impl_decodeAll.f k s) (scan (lines s) 0, posL 0 ((lines s).take (scan (lines s) 0).length)) := by
  unfold impl_decodeAll.f
  refine Ev.pos (by omega) ?_
  simpa using decL_ev (lines s) 0 [] [] (fun x hx => by have := (lines_parts s x hx).2.1; omega)
theorem nat_a {a j s : Nat} (h : j < s - a) : a + j + 1 ≤ s := by omega
theorem nat_b {a j s n : Nat} (h : a + j + 1 ≤ s) (hn : s - a ≤ n + 1) : s - (a + j + 1) ≤ n := by omega
set_option maxHeartbeats 400000 in
theorem spec_l12Open_ev (s : ByteArray) (hs : s.size ≤ 1100000) : Ev (fun k => spec_l12Open.f k s) (scan (lines s) 0, ((tot ((lines s).take (scan (lines s) 0).length) : Nat) : Int)) := by
  have main : ∀ (n at_ : Nat) (out : List S), at_ ≤ s.size → s.size - at_ ≤ n →
      Ev (fun k => spec_l12Open.l0 k s out (at_ : Int)) (out ++ scan (lines (s.extract at_ s.size)) out.length, ((at_ + tot ((lines (s.extract at_ s.size)).take (scan (lines (s.extract at_ s.size)) out.length).length) : Nat) : Int)) := by
    intro n
    induction n with
    | zero =>
      intro at_ out hat hn
      refine Ev.shift ?_
      unfold spec_l12Open.l0
      refine Ev.neg (by omega) (Ev.shift ?_)
      unfold spec_l12Open.j1
      refine Ev.neg (by decide) ?_
      rw [lines_nil _ (by simp; omega)]
      simp only [scan, List.append_nil, List.take_nil]
      exact Ev.const _
    | succ n ih =>
      intro at_ out hat hn
      refine Ev.shift ?_
      unfold spec_l12Open.l0
      by_cases hend : at_ = s.size
      · refine Ev.neg (by omega) (Ev.shift ?_)
        unfold spec_l12Open.j1
        refine Ev.neg (by decide) ?_
        rw [lines_nil _ (by simp; omega)]
        simp only [scan, List.append_nil, List.take_nil]
        exact Ev.const _
      refine Ev.pos (by omega) (Ev.shift ?_)
      unfold spec_l12Open.j1
      have hrs : (s.extract at_ s.size).size = s.size - at_ := by simp
      by_cases h60 : out.length < 60
      case neg =>
        refine Ev.neg (fun h => h60 (by have := qF h; omega)) ?_
        have : scan (lines (s.extract at_ s.size)) out.length = [] := by
          have := (scan_le (lines (s.extract at_ s.size)) out.length).2
          exact List.length_eq_zero_iff.1 (by omega)
        rw [this]
        simp only [List.append_nil, List.length_nil, List.take_zero]
        exact Ev.const _
      refine Ev.pos (qE (by omega)) (Ev.pos (by omega) (Ev.pos (by omega) ?_))
      rw [Int.toNat_natCast]
      obtain ⟨h, tl, hsp, hs1, hs2⟩ := spec_l1Split_ev (s.extract at_ s.size) 10 (by omega)
      have hhs : h.size ≤ s.size - at_ := by
        by_cases hm : (10 : Int) ∈ bytesOf (s.extract at_ s.size)
        · obtain ⟨_, j, hj, _, _, e⟩ := hs2 hm; rw [e]; simp; omega
        · rw [(hs1 hm).1]; omega
      obtain ⟨c, r, b, hd, hd1, hd2⟩ := spec_l12Decode_ev (out.length : Int) (by omega) (by omega) h (by omega)
      refine Ev.bind hsp (Ev.pos (by simp) (Ev.bind hd ?_))
      by_cases hm : (10 : Int) ∈ bytesOf (s.extract at_ s.size)
      · obtain ⟨htl, j, hj, hbj, hno, hh⟩ := hs2 hm
        have hjs : j < s.size - at_ := by rw [← hrs]; exact hj
        have hA : at_ + j + 1 ≤ s.size := nat_a hjs
        have hB : s.size - (at_ + j + 1) ≤ n := nat_b hA hn
        -- the line, with its end
        have hfull : full (h ++ nl) := ⟨h, rfl, by rw [hh, bytesOf_extract, List.drop_zero]; exact hno⟩
        have hhj : h.size = j := by rw [hh]; simp; omega
        have hx1 : h ++ nl = (s.extract at_ s.size).extract 0 (j + 1) := by
          apply bytesOf_inj
          rw [bytesOf_append, hh, bytesOf_extract _ 0 (j + 1), bytesOf_extract _ 0 j, List.drop_zero, List.drop_zero, List.take_add_one, show (bytesOf (s.extract at_ s.size))[j]? = some (bt (s.extract at_ s.size) j) by rw [← List.head?_drop, drop_bt _ j hj]; rfl, hbj]
          rfl
        have hcut : (h ++ nl) ++ s.extract (at_ + j + 1) s.size = s.extract at_ s.size := by
          have := cut_app (s.extract at_ s.size) (j + 1) (by omega)
          rw [hx1]
          have e3 : s.extract (at_ + j + 1) s.size = (s.extract at_ s.size).extract (j + 1) (s.extract at_ s.size).size := by
            apply bytesOf_inj
            rw [bytesOf_drop, bytesOf_drop, bytesOf_drop, List.drop_drop, Nat.add_assoc]
          rw [e3]
          exact this
        rw [← hcut, lines_full _ _ hfull]
        refine Ev.neg (by cases tl with | nil => exact absurd rfl htl | cons a b => simp; omega) ?_
        have hxs : (h ++ nl : ByteArray).size = j + 1 := by rw [ByteArray.size_append, hhj]; rfl
        cases b with
        | true =>
          obtain ⟨hg, hrl⟩ := hd1 rfl
          have hp := recLine_parts (out.length : Int) (by omega) (by omega) c r _ hg hrl
          have hrec : recOf out.length (h ++ nl) = some ⟨c, r⟩ := by
            unfold recOf
            rw [hp.1, hp.2, if_pos ⟨by omega, hg, hrl⟩]
          rw [scan_cons_some _ hrec]
          refine Ev.pos rfl (Ev.pos (by omega) ?_)
          have e1 : wrap64 ((wrap64 ((at_ : Int) + ((rdOf ByteArray.empty (h :: tl) 0).size : Int))) + 1) = ((at_ + j + 1 : Nat) : Int) := by
            show wrap64 ((wrap64 ((at_ : Int) + (h.size : Int))) + 1) = _
            rw [hhj, w64 ((at_ : Int) + (j : Int)) (by omega) (by omega), w64 _ (by omega) (by omega)]
            omega
          rw [e1]
          have := ih (at_ + j + 1) (out ++ [⟨c, r⟩]) hA hB
          simp only [List.length_append, List.length_cons, List.length_nil, Nat.zero_add, List.append_assoc, List.cons_append, List.nil_append] at this
          simp only [List.length_cons, List.take_succ_cons]
          have e2 : at_ + tot ((h ++ nl) :: List.take (scan (lines (s.extract (at_ + j + 1) s.size)) (out.length + 1)).length (lines (s.extract (at_ + j + 1) s.size))) = at_ + j + 1 + tot (List.take (scan (lines (s.extract (at_ + j + 1) s.size)) (out.length + 1)).length (lines (s.extract (at_ + j + 1) s.size))) := by
            simp only [tot, List.map_cons, List.sum_cons, hxs]
            omega
          rw [e2]
          exact this
        | false =>
          have hrec : recOf out.length (h ++ nl) = none := by
            cases hr : recOf out.length (h ++ nl) with
            | none => rfl
            | some e =>
              have h1 := recOf_some hr
              have := (hd2 _ _ h1.2.1 h1.2.2.1).2.2
              cases this
          rw [scan_cons_none _ hrec]
          refine Ev.neg (fun h => nomatch (show false = true from h)) ?_
          simp only [List.append_nil, List.length_nil, List.take_zero]
          exact Ev.const _
      · obtain ⟨rfl, rfl⟩ := hs1 hm
        refine Ev.pos (by simp) ?_
        have hsc : scan (lines (s.extract at_ s.size)) out.length = [] := by
          cases hl : lines (s.extract at_ s.size) with
          | nil => rfl
          | cons x xs =>
            apply scan_cons_none
            cases hr : recOf out.length x with
            | none => rfl
            | some e =>
              exfalso
              have hx := lines_parts (s.extract at_ s.size) x (by rw [hl]; exact List.mem_cons_self)
              obtain ⟨y, hy, _⟩ := recOf_full hr hx.2.2
              apply hm
              rw [← flat_lines (s.extract at_ s.size), hl]
              show (10 : Int) ∈ bytesOf (x ++ flat xs)
              rw [hy]
              simp [bytesOf_append, nl, bytesOf_one]
        rw [hsc]
        simp only [List.append_nil, List.length_nil, List.take_zero]
        exact Ev.const _
  have h := main s.size 0 [] (by omega) (by omega)
  have e : s.extract 0 s.size = s := by apply bytesOf_inj; rw [bytesOf_drop]; rfl
  rw [e] at h
  unfold spec_l12Open.f
  simpa using h
end Go.Proofs.YtnbhbnndfpfikaaDoor.X
