/- IsValidConsole: the law's row and its card. -/
import Derived.Test.YtnlcaihcnlpbpaaGreatDoorXt
import Derived.Test.YtnlcaihcnlpbpaaGreatDoorXv
import Derived.Carry
import Derived.Deep.Slices
import Derived.ChangeSlices
namespace Go.Proofs.YtnlcaihcnlpbpaaGreatDoor.fnExactIsValidConsole
open Go.ChangeShapes Go.WideShapes Go.ChangeAt Go.RowKit RowsKit
open X Go.Proofs.YtnlcaihcnlpbpaaGreatDoorW.PrintWords
set_option linter.unusedVariables false

theorem laidOut : laidOutB Tryz.prog = true := by kernel_rfl
theorem cellsDie : Tryz.prog.cellsOf 63 = 6 := by kernel_rfl
theorem cellsTavern : Tryz.prog.cellsOf 25 = 6 := by kernel_rfl
theorem cellsConsole : Tryz.prog.cellsOf 29 = 9 := by kernel_rfl
theorem cellsPool : Tryz.prog.cellsOf 22 = 1 := by kernel_rfl
theorem cellsInts : Tryz.prog.cellsOf 23 = 1 := by kernel_rfl
section
variable {H : Type} {enc : TypeId × Value → H}
theorem trod_struct6 {P : Program} {w : World} {base : Nat} {spare : Nat → Bool} {held : Bool} {t : TypeId} {f0 f1 f2 f3 f4 f5 : Field} {fuel : Nat} {cs : List Value} {x : DataW H × List MemPlace} (ht : P.underlying t = some (.struct #[f0, f1, f2, f3, f4, f5])) (h : DataW.trod enc P w base spare held fuel t cs = some x) :
    ∃ y0 y1 y2 y3 y4 y5 n, cs.length = P.cellsOf t ∧ DataW.trod enc P w base spare held n f0.type ((cs.drop f0.offset).take (P.cellsOf f0.type)) = some y0 ∧ DataW.trod enc P w base spare held n f1.type ((cs.drop f1.offset).take (P.cellsOf f1.type)) = some y1 ∧
      DataW.trod enc P w base spare held n f2.type ((cs.drop f2.offset).take (P.cellsOf f2.type)) = some y2 ∧ DataW.trod enc P w base spare held n f3.type ((cs.drop f3.offset).take (P.cellsOf f3.type)) = some y3 ∧
      DataW.trod enc P w base spare held n f4.type ((cs.drop f4.offset).take (P.cellsOf f4.type)) = some y4 ∧ DataW.trod enc P w base spare held n f5.type ((cs.drop f5.offset).take (P.cellsOf f5.type)) = some y5 := by
  obtain ⟨xs, n, _, rfl, hl, hlen, hf⟩ := DataW.trod_struct ht h
  match xs, hlen with
  | [y0, y1, y2, y3, y4, y5], _ => exact ⟨y0, y1, y2, y3, y4, y5, n, hl, by simpa using hf 0 f0 rfl, by simpa using hf 1 f1 rfl, by simpa using hf 2 f2 rfl, by simpa using hf 3 f3 rfl, by simpa using hf 4 f4 rfl, by simpa using hf 5 f5 rfl⟩
/-- A die in memory. -/
theorem open_die {W : World} {sp : Nat → Bool} {fuel : Nat} {cs : List Value} {x : DataW H × List MemPlace} (h : DataW.trod enc Tryz.prog W 0 sp true fuel 63 cs = some x) : ∃ d : Die, cs = dieRow d := by
  obtain ⟨xs, m, -, -, hl, hlen, hf⟩ := DataW.trod_array Tryz.underlying63 h
  rw [cellsDie] at hl
  simp only [cells3, Nat.mul_one] at hf
  match cs, hl with
  | [c0, c1, c2, c3, c4, c5], _ =>
    match xs, hlen with
    | [x0, x1, x2, x3, x4, x5], _ =>
      obtain ⟨n0, h0, -, -⟩ := DataW.trod_int Tryz.underlying3 (hf 0 (by decide))
      obtain ⟨n1, h1, -, -⟩ := DataW.trod_int Tryz.underlying3 (hf 1 (by decide))
      obtain ⟨n2, h2, -, -⟩ := DataW.trod_int Tryz.underlying3 (hf 2 (by decide))
      obtain ⟨n3, h3, -, -⟩ := DataW.trod_int Tryz.underlying3 (hf 3 (by decide))
      obtain ⟨n4, h4, -, -⟩ := DataW.trod_int Tryz.underlying3 (hf 4 (by decide))
      obtain ⟨n5, h5, -, -⟩ := DataW.trod_int Tryz.underlying3 (hf 5 (by decide))
      simp at h0 h1 h2 h3 h4 h5
      exact ⟨⟨n0, n1, n2, n3, n4, n5⟩, by simp [dieRow, h0, h1, h2, h3, h4, h5]⟩
/-- A pool in memory. -/
theorem open_pool {W : World} {sp : Nat → Bool} {fuel : Nat} {cs : List Value} {x : DataW H × List MemPlace} (h : DataW.trod enc Tryz.prog W 0 sp true fuel 22 cs = some x) :
    ∃ (A : Option Addr) (c : Nat) (p : List Die), cs = [.slice A p.length c] ∧ p.length ≤ c ∧ Kd.C k63 W A p.length p := by
  rcases Deep.open_slice Tryz.underlying22 h with ⟨rfl, -⟩ | ⟨a, len, cap, m, n, D, Pl, rfl, -, hl, hm, hmm, -, hx⟩
  · exact ⟨none, 0, [], rfl, Nat.le_refl _, rfl, by decide, fun h => absurd h (by decide)⟩
  · have hlm : len ≤ m := by rw [hmm]; split <;> omega
    obtain ⟨f, hf⟩ := Deep.choose_lt (α := Die) (n := len) (p := fun i d => ∀ j u, (dieRow d)[j]? = some u → W.cell? (a.add (i * 6 + j)) = some u) (fun i hi => by
      obtain ⟨cs', h1, h2⟩ := hx i (by omega)
      obtain ⟨d, rfl⟩ := open_die h2
      rw [cellsDie] at h1
      obtain ⟨-, -, hc⟩ := World.cells?_some h1
      refine ⟨d, fun j u hu => ?_⟩
      have hj : j < 6 := (List.getElem?_eq_some_iff.1 hu).1
      have := hc j hj
      rwa [Deep.add_add, hu] at this)
    have hp : ((List.range len).map f).length = len := by simp
    refine ⟨some a, cap, (List.range len).map f, by rw [hp], by rw [hp]; exact hl, ?_⟩
    rw [hp]
    refine ⟨hp, by simp [maxLen] at hm; omega, fun _ => ⟨a, rfl, fun j d hj => ⟨dieRow d, rfl, k63_mk W d, fun i u hu => ?_⟩⟩⟩
    obtain ⟨hjl, hd⟩ := List.getElem?_eq_some_iff.1 hj
    rw [hp] at hjl
    have : f j = d := by simpa using hd
    subst this
    exact hf j hjl i u hu
/-- A list of numbers in memory. -/
theorem open_list {W : World} {sp : Nat → Bool} {fuel : Nat} {cs : List Value} {x : DataW H × List MemPlace} (h : DataW.trod enc Tryz.prog W 0 sp true fuel 23 cs = some x) :
    ∃ (A : Option Addr) (c : Nat) (l : List Int), cs = [.slice A l.length c] ∧ l.length ≤ c ∧ Kd.C (Kd.int .i64) W A l.length l := by
  rcases open_ints Tryz.underlying23 Tryz.underlying3 cells3 h with ⟨rfl, -⟩ | ⟨a, len, cap, zs, rfl, -, hl, hm, hmm, -, hx, -⟩
  · exact ⟨none, 0, [], rfl, Nat.le_refl _, rfl, by decide, fun h => absurd h (by decide)⟩
  · have hlm : len ≤ zs.length := by rw [hmm]; split <;> omega
    have hp : (zs.take len).length = len := by rw [List.length_take]; omega
    refine ⟨some a, cap, zs.take len, by rw [hp], by rw [hp]; exact hl, ?_⟩
    rw [hp]
    refine ⟨hp, by simp [maxLen] at hm; omega, fun _ => ⟨a, rfl, fun j d hj => ⟨[.int .i64 d], rfl, rfl, fun i u hu => ?_⟩⟩⟩
    obtain ⟨hjl, hd⟩ := List.getElem?_eq_some_iff.1 hj
    obtain ⟨hi, hq⟩ := List.getElem?_eq_some_iff.1 hu
    have hi0 : i = 0 := by simpa using hi
    subst hi0
    rw [hp] at hjl
    have h1 := hx j (by omega)
    have e1 : zs.getD j 0 = d := by
      rw [List.getElem_take] at hd
      rw [List.getD_eq_getElem?_getD, List.getElem?_eq_getElem (by omega), hd]
      rfl
    rw [e1] at h1
    have hg : W.cell? (a.add (j * 1 + 0)) = some u := by rw [Nat.mul_one, Nat.add_zero, h1, ← hq]; rfl
    exact hg
set_option maxRecDepth 100000 in
/-- A console that is an argument. -/
theorem open_console {W : World} {base : Nat} {sp : Nat → Bool} {v : Value} {d : DataW H} {ps : List MemPlace} (hval : Value.okWide Tryz.prog W .any base 29 v) (h : DataW.Trod enc Tryz.prog W 0 sp true 29 v d ps) :
    ∃ (A0 : Option Addr) (c0 : Nat) (p : List Die) (a1 : Int) (A2 : Option Addr) (c2 : Nat) (l : List Int) (a3 a4 a5 : Int) (D P : ByteArray) (c : Int),
      v = .agg #[.slice A0 p.length c0, .int .i64 a1, .slice A2 l.length c2, .int .i64 a3, .int .i64 a4, .int .i64 a5, .string D, .string P, .int .i64 c] ∧
      p.length ≤ c0 ∧ Kd.C k63 W A0 p.length p ∧ l.length ≤ c2 ∧ Kd.C (Kd.int .i64) W A2 l.length l ∧ D.size ≤ maxLen ∧ P.size ≤ maxLen := by
  obtain ⟨cs, rfl, hcs⟩ := okWide_struct Tryz.underlying29 hval
  obtain ⟨fuel, hf⟩ := h
  obtain ⟨y0, y1, n, hx, hl, t0, t1⟩ := trod_struct2 Tryz.underlying29 hf
  simp only [Value.cells] at t0 t1 hl
  rw [cellsConsole] at hl hcs
  obtain ⟨l⟩ := cs
  match l, hl with
  | [e0, e1, e2, e3, e4, e5, e6, e7, e8], _ =>
    simp only [cellsTavern, cells23, List.drop, List.take] at t0 t1
    obtain ⟨z0, z1, z2, z3, z4, z5, n2, -, u0, u1, u2, u3, u4, u5⟩ := trod_struct6 Tryz.underlying25 t0
    simp only [cellsPool, cellsInts, cells3, List.drop, List.take] at u0 u1 u2 u3 u4 u5
    obtain ⟨x0, x1, x2, n3, -, -, s0, s1, s2⟩ := Deep.trod_struct3 Tryz.underlying27 t1
    simp only [cells9, cells3, List.drop, List.take] at s0 s1 s2
    obtain ⟨A0, c0, p, h0, hc0, hp⟩ := open_pool u0
    obtain ⟨a1, h1, -, -⟩ := DataW.trod_int Tryz.underlying3 u1
    obtain ⟨A2, c2, ll, h2, hc2, hll⟩ := open_list u2
    obtain ⟨a3, h3, -, -⟩ := DataW.trod_int Tryz.underlying3 u3
    obtain ⟨a4, h4, -, -⟩ := DataW.trod_int Tryz.underlying3 u4
    obtain ⟨a5, h5, -, -⟩ := DataW.trod_int Tryz.underlying3 u5
    obtain ⟨D, h6, -, hD⟩ := DataW.trod_string Tryz.underlying9 s0
    obtain ⟨P, h7, -, hP⟩ := DataW.trod_string Tryz.underlying9 s1
    obtain ⟨c, h8, -, -⟩ := DataW.trod_int Tryz.underlying3 s2
    simp at h0 h1 h2 h3 h4 h5 h6 h7 h8
    subst h0 h1 h2 h3 h4 h5 h6 h7 h8
    exact ⟨A0, c0, p, a1, A2, c2, ll, a3, a4, a5, D, P, c, rfl, hc0, hp, hc2, hll, hD, hP⟩
end
set_option maxRecDepth 100000 in
theorem contract (H : Type) (enc : TypeId × Value → H) (W : World) (base : Nat) (args : Array Value) (ds gs : List (DataW H)) (before : List MemPlace)
    (hval : ∀ (j : Nat) t v, Tryz.f3.params[j]? = some t → args[j]? = some v → Value.okWide Tryz.prog W .any base t v)
    (hW : DataW.Whole enc Tryz.prog Tryz.f3.params.toList Rows.fnExactIsValidConsoleSpec.vars false W args.toList ds gs before) (hL : laidMetH Tryz.prog Rows.fnExactIsValidConsoleRow.laid W) :
    Calls Tryz.prog 3 args W fun e W' => ∃ v, e = .returned v ∧ Rows.fnExactIsValidConsoleSpec.post enc Tryz.prog Tryz.f3 false true false false W args v W' := by
  have hW' := hW
  obtain ⟨p, q, hA0, hV, rfl, hfz, hnd⟩ := hW
  have hA : DataW.TrodAll enc Tryz.prog W 0 (fun _ => true) true Tryz.f3.params.toList args.toList ds p := hA0
  rw [Tryz.params3] at hA hval
  obtain ⟨v0, vs0, d0, ds0, p0, q0, hargs, rfl, rfl, h0, r0⟩ := trodAll_cons hA
  obtain ⟨rfl, rfl, rfl⟩ := trodAll_nil r0
  obtain rfl : args = #[v0] := by cases args; simp_all
  obtain ⟨rfl, rfl⟩ := trodVars_none hV
  have h0k := h0
  have hlt : ∀ x ∈ p0, x.block < W.heap.size := fun x hx => by simpa using hW'.lt x (by simpa using hx)
  obtain ⟨A0, c0, pl, a1, A2, c2, l, a3, a4, a5, D, P, c, rfl, hc0, hp, hc2, hl, hD, hP⟩ := open_console (hval 0 29 v0 rfl rfl) h0
  clear hA0
  simp only [List.append_nil] at hW'
  have hG : X.Glob W := glob (show laidMet _ _ W from hL) (.tail _ (.tail _ (.head _)))
  obtain ⟨k, hk⟩ := X.console pl a1 l a3 a4 a5 D P c hp.2.1 hl.2.1 (by simpa [maxLen] using hD) (by simpa [maxLen] using hP)
  refine (X.laws_FnExactIsValidConsole.calls k A0 c0 pl a1 A2 c2 l a3 a4 a5 D P c true W hG hp hc0 hl hc2 hk).mono fun e W' ⟨he, bel⟩ => ?_
  subst he
  exact ⟨_, rfl, _, _, _, [], _, [], hW', trodAll_mk1 (shut_bool Tryz.underlying4 _), trodAll_cons_mk (Below.trod laidOut (by kernel_rfl) (of_decide_eq_true (by kernel_rfl)) h0k bel hlt) trodAll_mk0, rfl, bel.frame _, fun h => by cases h⟩

def consoleArg : Value := .agg #[.slice none 0 0, .int .i64 0, .slice none 0 0, .int .i64 0, .int .i64 0, .int .i64 0, .string ⟨#[]⟩, .string ⟨#[]⟩, .int .i64 0]
theorem laid_met (os : Os) : laidMet Tryz.prog Rows.fnExactIsValidConsoleRow.laid ((laidWorld os).forCall (fun _ _ => 0) ⟨#[], #[consoleArg], []⟩).memory :=
  laidMet_of_run' 8 (by kernel_rfl) (by kernel_rfl)
theorem reads (os : Os) {H : Type} (enc : TypeId × Value → H) : ∃ places, DataW.whole enc Tryz.prog ((laidWorld os).forCall (fun _ _ => 0) ⟨#[], #[consoleArg], []⟩).memory Tryz.f3.params.toList Rows.fnExactIsValidConsoleSpec.vars false #[consoleArg].toList 8 = some ([.agg [.agg [.nil, .lit (.int .i64 0), .nil, .lit (.int .i64 0), .lit (.int .i64 0), .lit (.int .i64 0)], .agg [.lit (.string []), .lit (.string []), .lit (.int .i64 0)]]], [], places) :=
  ⟨[], by kernel_rfl⟩

set_option maxRecDepth 100000 in
theorem lifted (os : Os) (started : os.Started) (H : Type) (enc : TypeId × Value → H) (F : Stop.Interp) :
    ReturnsInHanded {} Tryz.checked os 3 .any ((OpenSpec.ofChange Rows.fnExactIsValidConsoleSpec).preRow enc Tryz.prog Tryz.f3 Rows.fnExactIsValidConsoleRow.domain false Rows.fnExactIsValidConsoleRow.laid) (((OpenSpec.ofChange Rows.fnExactIsValidConsoleSpec).at F).post enc Tryz.prog Tryz.f3 false true false false) := by
  obtain ⟨places, hx⟩ := reads os enc
  refine returnsInHanded_of_row (C := Tryz.checked) (s := OpenSpec.ofChange Rows.fnExactIsValidConsoleSpec) own started (by kernel_rfl) Tryz.func3
    (witness_row_at (enc := enc) (C := Tryz.checked) false (laidWorld os) #[consoleArg] rfl (by kernel_rfl) (by kernel_rfl) (by kernel_rfl)
      (OpenSpec.preRow_of_cond 8 hx (by kernel_rfl) (fun k hk => by cases hk) (by kernel_rfl) (laid_met os))) ?_
  intro W base args ds gs before hval hW _ _ _ hL _ _
  exact contract H enc W base args ds gs before hval hW hL

theorem said : Rows.FnExactIsValidConsoleSaid :=
  OpenClaim.holds_of_cond 3 Tryz.f3 rfl rfl rfl rfl rfl rfl rfl ⟨rfl, rfl, rfl, rfl, rfl⟩ rfl rfl rfl rfl rfl (by kernel_rfl) Tryz.func3 (by kernel_rfl)
    (of_decide_eq_true (by kernel_rfl)) (by unfold Func.isWrapper; first | (rw [if_pos (by decide +kernel)]; kernel_rfl) | (rw [if_neg (by decide +kernel)]; exact ⟨rfl, rfl⟩))
    (fun os started H enc _ F => by rw [OpenClaim.pre_eq_preRow]; exact lifted os started H enc F)

theorem plain (f : FuncId) (fn : Func) (hf : Tryz.pinned.checked.prog.funcNamed "loop.example/g01210/laws.FnExactIsValidConsole" = some f) (hfn : Tryz.pinned.checked.prog.funcs[f]? = some fn) :
    false = Tryz.pinned.checked.prog.looks [] ∧ ∀ (j : Nat) t, fn.params[j]? = some t → Tryz.pinned.checked.prog.wantsStandIn t = false := by
  obtain rfl : f = 3 := Option.some.inj ((show Tryz.prog.funcNamed "loop.example/g01210/laws.FnExactIsValidConsole" = some 3 by kernel_rfl).symm.trans hf) |>.symm
  obtain rfl : fn = Tryz.f3 := (Option.some.inj (Tryz.func3.symm.trans hfn)).symm
  refine ⟨by kernel_rfl, fun j t ht => ?_⟩
  rw [Tryz.params3] at ht
  obtain rfl : t = 29 := by simpa using Array.mem_of_getElem? ht
  exact (show Tryz.prog.wantsStandIn 29 = false by kernel_rfl)

/-- ████ THE CARD ████ -/
theorem card : Rows.FnExactIsValidConsoleCardSaid :=
  Claim7.holds_tied_plain_at .later [] _ _ _ _ said (fun _ h => by cases h) (by kernel_rfl) (fun _ h => by cases h) fnExactIsValidConsole_row_tie rfl ⟨rfl, rfl⟩ (by kernel_rfl) rfl plain (by kernel_rfl)
#print axioms card
end Go.Proofs.YtnlcaihcnlpbpaaGreatDoor.fnExactIsValidConsole
