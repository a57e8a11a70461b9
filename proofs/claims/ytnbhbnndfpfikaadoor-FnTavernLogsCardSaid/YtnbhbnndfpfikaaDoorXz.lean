/- FnTavernLogs: the law's row and its card: for every list of bytes the law returns true. -/
import Derived.Test.YtnbhbnndfpfikaaDoorXt
import Derived.Test.YtnbhbnndfpfikaaDoorXy
import Derived.Carry
import Derived.Lay
import Derived.Stop.LaidErr
import Derived.ChangeSlices
namespace Go.Proofs.YtnbhbnndfpfikaaDoor.fnTavernLogs
open Go.ChangeShapes Go.WideShapes Go.ChangeAt Go.RowKit RowsKit
open X Go.Proofs.YtnbhbnndfpfikaaDoorW.PrintWords
set_option linter.unusedVariables false
theorem laidOut : laidOutB Tryd.prog = true := by kernel_rfl
theorem cellsU8 : Tryd.prog.cellsOf 5 = 1 := by kernel_rfl
section
variable {H : Type} {enc : TypeId × Value → H}
theorem open_bytes {W : World} {sp : Nat → Bool} {fuel : Nat} {cs : List Value} {x : DataW H × List MemPlace} (h : DataW.trod enc Tryd.prog W 0 sp true fuel 44 cs = some x) :
    ∃ (A : Option Addr) (c : Nat) (l : List Int), cs = [.slice A l.length c] ∧ l.length ≤ c ∧ Kd.C (Kd.int .u8) W A l.length l ∧ Bytes l := by
  rcases open_ints Tryd.underlying44 Tryd.underlying5 cellsU8 h with ⟨rfl, -⟩ | ⟨a, len, cap, zs, rfl, -, hl, hm, hmm, -, hx, hwf⟩
  · exact ⟨none, 0, [], rfl, Nat.le_refl _, ⟨rfl, by decide, fun h => absurd h (by decide)⟩, fun b hb => by cases hb⟩
  · have hlm : len ≤ zs.length := by rw [hmm]; split <;> omega
    have hp : (zs.take len).length = len := by rw [List.length_take]; omega
    refine ⟨some a, cap, zs.take len, by rw [hp], by rw [hp]; exact hl, ?_, fun b hb => bounds_u8 (hwf b (List.mem_of_mem_take hb))⟩
    rw [hp]
    refine ⟨hp, by simp [maxLen] at hm; omega, fun _ => ⟨a, rfl, fun j d hj => ⟨[.int .u8 d], rfl, rfl, fun i u hu => ?_⟩⟩⟩
    obtain ⟨hjl, hd⟩ := List.getElem?_eq_some_iff.1 hj
    obtain ⟨hi, hq⟩ := List.getElem?_eq_some_iff.1 hu
    have hi0 : i = 0 := by simpa using hi
    subst hi0
    rw [hp] at hjl
    have h1 := hx j (by omega)
    have e1 : zs.getD j 0 = d := by
      rw [List.getElem_take] at hd
      rw [List.getD_eq_getElem?_getD, List.getElem?_eq_getElem (by omega), hd]
      rfl
    rw [e1] at h1
    have hg : W.cell? (a.add (j * 1 + 0)) = some u := by rw [Nat.mul_one, Nat.add_zero, h1, ← hq]; rfl
    exact hg
end
set_option maxRecDepth 100000 in
theorem contract (H : Type) (enc : TypeId × Value → H) (W : World) (base : Nat) (args : Array Value) (ds gs : List (DataW H)) (before : List MemPlace)
    (hval : ∀ (j : Nat) t v, Tryd.f7.params[j]? = some t → args[j]? = some v → Value.okWide Tryd.prog W .any base t v)
    (hW : DataW.Whole enc Tryd.prog Tryd.f7.params.toList Rows.fnTavernLogsSpec.vars false W args.toList ds gs before) (hL : laidMetH Tryd.prog Rows.fnTavernLogsRow.laid W) :
    Calls Tryd.prog 7 args W fun e W' => ∃ v, e = .returned v ∧ Rows.fnTavernLogsSpec.post enc Tryd.prog Tryd.f7 false true false false W args v W' := by
  have hW' := hW
  obtain ⟨p, q, hA0, hV, rfl, hfz, hnd⟩ := hW
  have hA : DataW.TrodAll enc Tryd.prog W 0 (fun _ => true) true Tryd.f7.params.toList args.toList ds p := hA0
  rw [Tryd.params7] at hA hval
  obtain ⟨v0, vs0, d0, ds0, p0, q0, hargs, rfl, rfl, h0, r0⟩ := trodAll_cons hA
  obtain ⟨rfl, rfl, rfl⟩ := trodAll_nil r0
  obtain rfl : args = #[v0] := by cases args; simp_all
  obtain ⟨rfl, rfl⟩ := trodVars_none hV
  have h0k := h0
  have hlt : ∀ x ∈ p0, x.block < W.heap.size := fun x hx => by simpa using hW'.lt x (by simpa using hx)
  obtain ⟨fuel, hf⟩ := h0
  obtain ⟨a_, n_, c_, rfl⟩ := okWide_slice Tryd.underlying44 (hval 0 44 v0 rfl rfl)
  obtain ⟨A0, c0, l0, hv, hc0, hC, hb⟩ := open_bytes hf
  obtain ⟨e1, e2, e3⟩ : A0 = a_ ∧ l0.length = n_ ∧ c0 = c_ := by
    have h : a_ = A0 ∧ n_ = l0.length ∧ c_ = c0 := by simpa [Value.cells] using hv
    exact ⟨h.1.symm, h.2.1.symm, h.2.2.symm⟩
  subst e1 e2 e3
  clear hA0
  simp only [List.append_nil] at hW'
  have hG : X.Glob W := glob (show laidMet _ _ W from hL) (.tail _ (.tail _ (.head _)))
  refine (X.laws_FnTavernLogs.calls A0 c0 l0 W hG hC hc0 hb).mono fun e W' ⟨he, bel⟩ => ?_
  subst he
  exact ⟨_, rfl, _, _, _, [], _, [], hW', trodAll_mk1 (shut_bool Tryd.underlying4 _), trodAll_cons_mk (Below.trod laidOut (by kernel_rfl) (qF (by kernel_rfl)) h0k bel hlt) trodAll_mk0, rfl, bel.frame _, fun h => by cases h⟩
def codeArg : Value := .slice none 0 0
noncomputable def world2 (os : Os) : World := World.laidAll Tryd.prog os Rows.fnTavernLogsRow.laid
theorem laid_met (os : Os) : laidMet Tryd.prog Rows.fnTavernLogsRow.laid ((world2 os).forCall (fun _ _ => 0) ⟨#[], #[codeArg], []⟩).memory :=
  laidMet_laidAll _ (by kernel_rfl) (by kernel_rfl)
theorem reads (os : Os) {H : Type} (enc : TypeId × Value → H) : ∃ places, DataW.whole enc Tryd.prog ((world2 os).forCall (fun _ _ => 0) ⟨#[], #[codeArg], []⟩).memory Tryd.f7.params.toList Rows.fnTavernLogsSpec.vars false #[codeArg].toList 8 = some ([.nil], [], places) :=
  ⟨[], by kernel_rfl⟩
set_option maxRecDepth 100000 in
theorem lifted (os : Os) (started : os.Started) (H : Type) (enc : TypeId × Value → H) (F : Stop.Interp) :
    ReturnsInHanded {} Tryd.checked os 7 .any ((OpenSpec.ofChange Rows.fnTavernLogsSpec).preRow enc Tryd.prog Tryd.f7 Rows.fnTavernLogsRow.domain false Rows.fnTavernLogsRow.laid) (((OpenSpec.ofChange Rows.fnTavernLogsSpec).at F).post enc Tryd.prog Tryd.f7 false true false false) := by
  obtain ⟨places, hx⟩ := reads os enc
  refine returnsInHanded_of_row (C := Tryd.checked) (s := OpenSpec.ofChange Rows.fnTavernLogsSpec) own started (by kernel_rfl) Tryd.func7
    (witness_row_at (enc := enc) (C := Tryd.checked) false (world2 os) #[codeArg] (World.laidAll_os _ _ _) (by kernel_rfl) (by kernel_rfl) (by kernel_rfl)
      (OpenSpec.preRow_of_cond 8 hx (by kernel_rfl) (fun k hk => by cases hk) (by kernel_rfl) (laid_met os))) ?_
  intro W base args ds gs before hval hW _ _ _ hL _ _
  exact contract H enc W base args ds gs before hval hW hL
theorem said : Rows.FnTavernLogsSaid :=
  OpenClaim.holds_of_cond 7 Tryd.f7 rfl rfl rfl rfl rfl rfl rfl ⟨rfl, rfl, rfl, rfl, rfl⟩ rfl rfl rfl rfl rfl (by kernel_rfl) Tryd.func7 (by kernel_rfl)
    (qF (by kernel_rfl)) (by unfold Func.isWrapper; first | (rw [if_pos (by decide +kernel)]; kernel_rfl) | (rw [if_neg (by decide +kernel)]; exact ⟨rfl, rfl⟩))
    (fun os started H enc _ F => by rw [OpenClaim.pre_eq_preRow]; exact lifted os started H enc F)
theorem plain (f : FuncId) (fn : Func) (hf : Tryd.pinned.checked.prog.funcNamed "loop.example/g01210/laws.FnTavernLogs" = some f) (hfn : Tryd.pinned.checked.prog.funcs[f]? = some fn) :
    true = Tryd.pinned.checked.prog.looks [] ∧ ∀ (j : Nat) t, fn.params[j]? = some t → Tryd.pinned.checked.prog.wantsStandIn t = false := by
  obtain rfl : f = 7 := Option.some.inj ((show Tryd.prog.funcNamed "loop.example/g01210/laws.FnTavernLogs" = some 7 by kernel_rfl).symm.trans hf) |>.symm
  obtain rfl : fn = Tryd.f7 := (Option.some.inj (Tryd.func7.symm.trans hfn)).symm
  refine ⟨by kernel_rfl, fun j t ht => ?_⟩
  rw [Tryd.params7] at ht
  obtain rfl : t = 44 := by simpa using Array.mem_of_getElem? ht
  exact (show Tryd.prog.wantsStandIn 44 = false by kernel_rfl)
theorem card : Rows.FnTavernLogsCardSaid :=
  Claim7.holds_tied_plain_at .later [] _ _ _ _ said (fun _ h => by cases h) (by kernel_rfl) (fun _ h => by cases h) fnTavernLogs_row_tie rfl ⟨rfl, rfl⟩ (by kernel_rfl) rfl plain (by kernel_rfl)
#print axioms card
end Go.Proofs.YtnbhbnndfpfikaaDoor.fnTavernLogs
