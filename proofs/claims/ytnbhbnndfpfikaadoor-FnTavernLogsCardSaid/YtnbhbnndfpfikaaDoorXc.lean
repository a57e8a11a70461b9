/- impl.decodeAll returns the records at the beginning of a text and the places behind them: its range over strings.Lines is walked with the iterator's own text. -/
import Derived.Test.YtnbhbnndfpfikaaDoorY2
import Derived.Test.YtnbhbnndfpfikaaDoorXb
import Derived.RangeFuncNested
import Derived.RangeFuncBound
import Derived.RangeFuncCalls
import Derived.RangeFuncLeaves
import Derived.RangeFuncBox
import Derived.Shelf.Abstract
import Derived.Shelf.RegionOpen
import Derived.Shelf.AbstractIn
import Derived.WalkKit
import Derived.OwnWalkIn
import Derived.TacticsInMore
import Derived.LoopNIn
import Derived.LoopIn
namespace Go.Proofs.YtnbhbnndfpfikaaDoor.X
open Go.RowKit Go.Shelf Go.Proofs.YtnbhbnndfpfikaaDoorW.PrintWords Go.Proofs.YtnbhbnndfpfikaaDoorW.PrintLast Go.Proofs.YtnbhbnndfpfikaaDoorW.PrintMore
set_option linter.unusedVariables false
set_option linter.unusedSimpArgs false
attribute [local go_sem] Oper.semAt_some
def linesF : Nat → ByteArray → List ByteArray
  | 0, _ => []
  | n + 1, s => if s.size = 0 then [] else if 0 ≤ Lib.indexByte s.data.toList 10 then s.extract 0 ((Lib.indexByte s.data.toList 10).toNat + 1) :: linesF n (s.extract ((Lib.indexByte s.data.toList 10).toNat + 1) s.size) else [s]
theorem linesF_more : ∀ (n m : Nat) (s : ByteArray), s.size ≤ n → s.size ≤ m → linesF n s = linesF m s := by
  intro n
  induction n with
  | zero =>
    intro m s hn hm
    cases m with
    | zero => rfl
    | succ m => simp [linesF, show s.size = 0 by omega]
  | succ n ih =>
    intro m s hn hm
    cases m with
    | zero => simp [linesF, show s.size = 0 by omega]
    | succ m =>
      simp only [linesF]
      split
      · rfl
      · split
        · rename_i h0 h1
          have hlt := indexByte_lt s.data.toList 10
          rw [data_length] at hlt
          rw [ih m _ (by simp; omega) (by simp; omega)]
        · rfl
def lines (s : ByteArray) : List ByteArray := linesF s.size s
theorem lines_nil (s : ByteArray) (h : s.size = 0) : lines s = [] := by simp [lines, h, linesF]
theorem lines_cut (s : ByteArray) (h : s.size ≠ 0) (h1 : 0 ≤ Lib.indexByte s.data.toList 10) :
    lines s = s.extract 0 ((Lib.indexByte s.data.toList 10).toNat + 1) :: lines (s.extract ((Lib.indexByte s.data.toList 10).toNat + 1) s.size) := by
  obtain ⟨n, hn⟩ : ∃ n, s.size = n + 1 := ⟨s.size - 1, by omega⟩
  have hlt := indexByte_lt s.data.toList 10
  rw [data_length] at hlt
  unfold lines
  conv => lhs; rw [hn]
  simp only [linesF]
  rw [if_neg h, if_pos h1]
  congr 1
  exact linesF_more _ _ _ (by simp; omega) (Nat.le_refl _)
theorem lines_last (s : ByteArray) (h : s.size ≠ 0) (h1 : ¬ 0 ≤ Lib.indexByte s.data.toList 10) : lines s = [s] := by
  obtain ⟨n, hn⟩ : ∃ n, s.size = n + 1 := ⟨s.size - 1, by omega⟩
  unfold lines
  rw [hn]
  simp only [linesF]
  rw [if_neg h, if_neg h1]
def tot (l : List ByteArray) : Nat := (l.map ByteArray.size).sum
theorem tot_lines : ∀ (n : Nat) (s : ByteArray), s.size ≤ n → tot (lines s) = s.size ∧ (lines s).length ≤ s.size := by
  intro n
  induction n with
  | zero =>
    intro s hs
    rw [lines_nil s (by omega)]
    simp [tot]; omega
  | succ n ih =>
    intro s hs
    by_cases h : s.size = 0
    · rw [lines_nil s h]
      simp [tot]; omega
    · by_cases h1 : 0 ≤ Lib.indexByte s.data.toList 10
      · have hlt := indexByte_lt s.data.toList 10
        rw [data_length] at hlt
        rw [lines_cut s h h1]
        have := ih (s.extract ((Lib.indexByte s.data.toList 10).toNat + 1) s.size) (by simp; omega)
        simp [tot] at this ⊢
        omega
      · rw [lines_last s h h1]
        simp [tot]; omega
def boxText (W : World) (B : Nat) : Nat := match W.cell? ⟨B, 0, none⟩ with
  | some (.string s) => s.size
  | _ => 0
theorem boxText_eq {W : World} {B : Nat} {s : ByteArray} (h : Boxed W B 9 (.string s)) : boxText W B = s.size := by
  simp [boxText, h.cell]
theorem grownBy_drew_ {W W' : World} {row : Option Nat} (h : W.grownBy W' row) : W.grownBy W'.drew row := ⟨h.os, h.tape, h.output, h.size, h.block⟩
set_option maxRecDepth 100000 in
set_option maxHeartbeats 2000000 in
theorem lines_in (n : Nat) (hn : 3 ≤ n) (l Bs : Nat) (s0 : ByteArray) (hs0 : s0.size ≤ 9223372036854775807) (J Jx : List ByteArray → World → Prop)
    (hJs : ∀ pre W W', J pre W → W.grownBy W' (some Bs) → (∃ s, Boxed W' Bs 9 (.string s)) → J pre W')
    (hY : ∀ pre x W, J pre W → (pre ++ [x]) <+: lines s0 → YieldAt Fence.wide (n - 1) Tryd.prog l #[.string x] W fun e W' =>
      (e = .returned (.bool true) ∧ J (pre ++ [x]) W' ∧ W'.heap[Bs]? = W.heap[Bs]?) ∨ (e = .returned (.bool false) ∧ Jx (pre ++ [x]) W'))
    (W : World) (hB : Boxed W Bs 9 (.string s0)) (h0 : J [] W) :
    CallsIn Fence.wide n Tryd.prog 107 #[.func (.yield l) #[] #[], .pointer (some ⟨Bs, 0, none⟩)] W fun e W' => (∃ v, e = .returned v) ∧
      (J (lines s0) W' ∨ (∃ pre, pre <+: lines s0 ∧ Jx pre W')) := by
  have h1 : 1 ≤ n := by omega
  refine callsIn_of_wp Tryd.func107 rfl trivial ?_ rfl
  simp only [Tryd.ntmps107, List.size_toArray, List.length_cons, List.length_nil, Nat.reduceAdd, Nat.reduceSub, Array.replicate_succ, Array.replicate_zero, List.push_toArray, List.append_toArray, List.nil_append, List.cons_append]
  gi_wp2
  gi_loopw [3, 4, 5, 6, 7] (fun v3 v4 v5 v6 v7 wr => ∃ (pre : List ByteArray) (rest : ByteArray), lines s0 = pre ++ lines rest ∧ rest.size ≤ s0.size ∧ Boxed wr Bs 9 (.string rest) ∧ J pre wr)
    (fun v3 v4 v5 v6 v7 wr => boxText wr Bs)
  case atStart => exact ⟨[], s0, rfl, Nat.le_refl _, hB, h0⟩
  case round =>
    obtain ⟨pre, rest, hx, hr, hb, hJ⟩ := hrel
    have hc := hb.cell
    have hf := hb.frozen
    have hlt := indexByte_lt rest.data.toList 10
    rw [data_length] at hlt
    by_cases h : rest.size = 0
    · have hz : (0 < rest.size) = False := eq_false (by omega)
      have e0 := lines_nil rest h
      rw [e0, List.append_nil] at hx
      have Hx := Lib.hid hx
      clear hx e0 h
      gi_wp2
      go_end0
      exact ⟨⟨_, rfl⟩, .inl (by rw [Hx.out]; exact hJ)⟩
    · have hz : (0 < rest.size) = True := eq_true (by omega)
      have hcon := Tryd.strings_IndexByte rest 10 wr
      by_cases hi : 0 ≤ Lib.indexByte rest.data.toList 10
      · have e0 := lines_cut rest h hi
        rw [e0] at hx
        have hm : (rest.extract ((Lib.indexByte rest.data.toList 10).toNat + 1) rest.size).size < rest.size := by simp; omega
        rw [show ((10 : Int).toNat.toUInt8) = 10 from rfl] at hcon
        generalize Lib.indexByte rest.data.toList 10 = i at *
        obtain ⟨k, rfl⟩ := Int.eq_ofNat_of_zero_le hi
        rw [Int.toNat_natCast] at hx hm
        have Hx := Lib.hid hx
        have Hm := Lib.hid hm
        have Hc := Lib.hid hcon
        have q0 : (k + 1 ≤ rest.size) = True := eq_true (by omega)
        have q2 : ((0 : Int) ≤ (k : Int) + 1) = True := eq_true (by omega)
        have q3 : ((k : Int) + 1 ≤ (rest.size : Int)) = True := eq_true (by omega)
        have q4 : ((k : Int) + 1).toNat = k + 1 := by omega
        have q5 : IntKind.i64.wrap ((k : Int) + 1) = (k : Int) + 1 := IntWalk.i64_in _ (by omega)
        have hJ1 : J pre ((wr.setCell ⟨Bs, 0, none⟩ (.string (rest.extract (k + 1) rest.size))).drew) := hJs _ _ _ hJ (grownBy_drew_ (grownBy_setCell' wr Bs _)) ⟨_, hb.set _⟩
        clear hx hm hcon e0 h
        have hbx : Boxed ((wr.setCell ⟨Bs, 0, none⟩ (.string (rest.extract (k + 1) rest.size))).drew) Bs 9 (.string (rest.extract (k + 1) rest.size)) := hb.set _
        obtain ⟨fn, tmps, assign, body, hy, hR⟩ := hY pre (rest.extract 0 (k + 1)) _ hJ1 ⟨lines (rest.extract (k + 1) rest.size), by rw [Hx.out]; simp⟩
        have hR' := Lib.hid hR
        have Hbx := Lib.hid hbx
        have Hb := Lib.hid hb
        clear hR hbx hb
        gi_wp2_with (refine ⟨trivial, ?_⟩; gi_at_call 108; refine (callsIn_wide.2 Hc.out).mono ?_; rintro e w' ⟨rfl, rfl⟩)
        gi_region
        all_goals gi_wp2
        refine hR'.out.mono ?_
        rintro e W3 (⟨rfl, hJ3, hk3⟩ | ⟨rfl, hJx3⟩)
        · have hb3 : Boxed W3 Bs 9 (.string (rest.extract (k + 1) rest.size)) := hk3.trans Hbx.out
          have Hb3 := Lib.hid hb3
          clear hb3 hk3 hc hf hy
          gi_wp2
          go_roundw
          case rel => exact ⟨pre ++ [rest.extract 0 (k + 1)], rest.extract (k + 1) rest.size, by rw [Hx.out]; simp, by have := Hm.out; omega, Hb3.out, hJ3⟩
          case measure => rw [boxText_eq Hb3.out, boxText_eq Hb.out]; exact Hm.out
        · gi_wp2
          refine bodyPost_ret (results_none rfl _ _ _) rfl ?_
          exact ⟨⟨_, rfl⟩, .inr ⟨_, ⟨lines (rest.extract (k + 1) rest.size), by rw [Hx.out]; simp⟩, hJx3⟩⟩
      · have e0 := lines_last rest h hi
        rw [e0] at hx
        rw [show ((10 : Int).toNat.toUInt8) = 10 from rfl] at hcon
        generalize Lib.indexByte rest.data.toList 10 = i at *
        have Hx := Lib.hid hx
        have Hc := Lib.hid hcon
        have q0 : decide (0 ≤ i) = false := qG hi
        have hJ1 : J pre (wr.setCell ⟨Bs, 0, none⟩ (.string ⟨#[]⟩)) := hJs _ _ _ hJ (grownBy_setCell' wr Bs _) ⟨_, hb.set _⟩
        have hbx : Boxed (wr.setCell ⟨Bs, 0, none⟩ (.string ⟨#[]⟩)) Bs 9 (.string ⟨#[]⟩) := hb.set _
        obtain ⟨fn, tmps, assign, body, hy, hR⟩ := hY pre rest _ hJ1 ⟨[], by rw [Hx.out]; simp⟩
        have hR' := Lib.hid hR
        have Hbx := Lib.hid hbx
        have Hb := Lib.hid hb
        have Hh := Lib.hid h
        clear hx hcon e0 h hi hR hbx hb hlt
        gi_wp2_with (refine ⟨trivial, ?_⟩; gi_at_call 108; refine (callsIn_wide.2 Hc.out).mono ?_; rintro e w' ⟨rfl, rfl⟩)
        refine hR'.out.mono ?_
        rintro e W3 (⟨rfl, hJ3, hk3⟩ | ⟨rfl, hJx3⟩)
        · have hb3 : Boxed W3 Bs 9 (.string ⟨#[]⟩) := hk3.trans Hbx.out
          have Hb3 := Lib.hid hb3
          clear hb3 hk3 hc hf hy
          gi_wp2
          go_roundw
          case rel => exact ⟨pre ++ [rest], ⟨#[]⟩, by rw [Hx.out, lines_nil _ rfl]; simp, by show 0 ≤ _; omega, Hb3.out, hJ3⟩
          case measure => rw [boxText_eq Hb3.out, boxText_eq Hb.out]; have := Hh.out; show 0 < _; omega
        · gi_wp2
          refine bodyPost_ret (results_none rfl _ _ _) rfl ?_
          exact ⟨⟨_, rfl⟩, .inr ⟨_, ⟨[], by rw [Hx.out]; simp⟩, hJx3⟩⟩
def Abides (B n₀ : Nat) (I : List ByteArray → World → Prop) : Prop :=
  ∀ pre W W' row, I pre W → W.grownBy W' row → (∀ r, row = some r → (r = B ∧ ∃ s, Boxed W' B 9 (.string s)) ∨ (n₀ ≤ r ∧ ∃ o : Obj, W.heap[r]? = some o ∧ o.isCells = false)) → I pre W'
theorem Abides.put {B n₀ : Nat} {I : List ByteArray → World → Prop} (h : Abides B n₀ I) {pre : List ByteArray} {W : World} {l : Nat} {o : Obj} (o' : Obj) (hi : I pre W) (hl : n₀ ≤ l) (ho : W.heap[l]? = some o) (hc : o.isCells = false) : I pre (W.putObj l o') :=
  h pre W _ (some l) hi (grownBy_putObj' W l o') (fun r e => by cases e; exact .inr ⟨hl, o, ho, hc⟩)
theorem Abides.alloc {B n₀ : Nat} {I : List ByteArray → World → Prop} (h : Abides B n₀ I) {pre : List ByteArray} {W : World} (o : Obj) (hi : I pre W) : I pre (W.alloc o) :=
  h pre W _ none hi (World.grownBy_alloc W o none) (fun r e => by cases e)
def linesPost (B n₀ : Nat) (I : List ByteArray → World → Prop) (Ix : Code → List ByteArray → World → Prop) (xs : List ByteArray) (W : World) : Exit → Act → World → Prop
  | .normal, _, W' => KeepsFrom n₀ W W' ∧ W'.heap[B]? = W.heap[B]? ∧ I xs W'
  | .exit id, _, W' => KeepsFrom n₀ W W' ∧ Ix (.exit id) xs W'
  | _, _, _ => False
set_option maxHeartbeats 2000000 in
theorem range_lines {n : Nat} (hn : 5 ≤ n) {g : Operand} {q : Tmp} {assign body : Code} {Q : Exit → Act → World → Prop} {a : Act} {w : World} {Bs : Nat} {s0 : ByteArray}
    (hs0 : s0.size ≤ 9223372036854775807) (hg : a.eval g = .func (.func 107) #[] #[.pointer (some ⟨Bs, 0, none⟩)]) (hB : Boxed w Bs 9 (.string s0))
    (I : List ByteArray → World → Prop) (Ix : Code → List ByteArray → World → Prop) (hI : Abides Bs w.heap.size I) (hIx : ∀ c, Abides Bs w.heap.size (Ix c)) (h0 : I [] w) (a₁ : ByteArray → Act)
    (hassign : ∀ (l : Nat) (x : ByteArray) (W : World) (K : Act → World → Prop), K (a₁ x) W →
      assign.wpIn (Fence.wide.inRound l) (n - 1 - 1) Tryd.prog (Exit.then K (fun _ _ _ => False)) { tmps := a.tmps.setIfInBounds q (.string x), defers := [] } W)
    (hbody : ∀ (l : Nat) (pre : List ByteArray) (x : ByteArray) (W : World), I pre W → (pre ++ [x]) <+: lines s0 → body.wpIn (Fence.wide.inRound l) (n - 1 - 1) Tryd.prog (linesPost Bs w.heap.size I Ix (pre ++ [x]) W) (a₁ x) W)
    (hdone : ∀ (D : Nat) (W : World), w.heap.size ≤ D → I (lines s0) W → W.heap[D]? = some (.deferred (some [])) → Q .normal { a with defers := { target := .collected D, args := #[] } :: a.defers } W)
    (hstop : ∀ (D : Nat) (c : Code) (pre : List ByteArray) (W : World), w.heap.size ≤ D → pre <+: lines s0 → Ix c pre W → W.heap[D]? = some (.deferred (some [])) → c.wpIn Fence.wide n Tryd.prog Q { a with defers := { target := .collected D, args := #[] } :: a.defers } W) :
    (Code.rangeFunc g #[q] assign body).wpIn Fence.wide n Tryd.prog Q a w := by
  have hBlt := hB.lt
  refine wpIn_rangeFunc ?_
  intro fn hfn
  obtain ⟨rec, hrec⟩ : ∃ rec : LoopState → Option Code → Loop, rec = fun st pe => { state := st, pending := pe, fn, tmps := a.tmps, params := #[q], assign, body, defers := w.heap.size } := ⟨_, rfl⟩
  obtain ⟨W1, hW1⟩ : ∃ W1, (w.alloc (.deferred (some []))).alloc (.loop (rec .ready none)) = W1 := ⟨_, rfl⟩
  have hL1 : W1.heap[w.heap.size + 1]? = some (.loop (rec .ready none)) := by
    rw [← hW1]; have := World.alloc_heap_new (w.alloc (.deferred (some []))) (.loop (rec .ready none)); rwa [World.size_alloc] at this
  have hK1 : W1.heap[w.heap.size]? = some (.deferred (some [])) := by
    rw [← hW1]; exact (Below.heap_alloc _ _ _ (by simp)).trans (World.alloc_heap_new w _)
  have hI1 : I [] W1 := by rw [← hW1]; exact hI.alloc _ (hI.alloc _ h0)
  have hB1 : Boxed W1 Bs 9 (.string s0) := by rw [← hW1]; exact (hB.alloc _).alloc _
  have eg : ∀ args w, (callFunc 107 args).run Tryd.prog w = .ok (.enter 107 args) w := enters_of Tryd.func107 (by kernel_rfl) rfl
  refine ⟨w.heap.size + 1, [{ target := .collected w.heap.size, args := #[] }], W1, { target := .fn (.func 107) #[.pointer (some ⟨Bs, 0, none⟩)], args := #[.func (.yield (w.heap.size + 1)) #[] #[]] }, W1, 107,
    #[.func (.yield (w.heap.size + 1)) #[] #[], .pointer (some ⟨Bs, 0, none⟩)], W1, ?_, ?_, fun _ _ => trivial, ?_, fun h => by simp [Fence.wide] at h, ?_⟩
  · rw [← hW1, hrec]; exact run_enterLoop_outer _ _ _ _ _
  · simp only [resolve, hg]
    simp [go_sem]
  · simp [invoke, go_sem, eg]
  · refine (lines_in (n - 1) (by omega) (w.heap.size + 1) Bs s0 hs0
      (fun pre W => I pre W ∧ W.heap[w.heap.size + 1]? = some (.loop (rec .ready none)) ∧ W.heap[w.heap.size]? = some (.deferred (some [])))
      (fun pre W => ∃ c, Ix c pre W ∧ W.heap[w.heap.size + 1]? = some (.loop (rec .done (some c))) ∧ W.heap[w.heap.size]? = some (.deferred (some [])))
      ?_ ?_ W1 hB1 ⟨hI1, hL1, hK1⟩).mono ?_
    · rintro pre W W' ⟨hi, hl, hk⟩ hgr hbx
      refine ⟨hI pre W W' _ hi hgr (fun r e => by cases e; exact .inl ⟨rfl, hbx⟩), ?_, ?_⟩
      · exact (hgr.block _ (Array.getElem?_eq_some_iff.1 hl).1 (fun e => by have := Option.some.inj e; omega)).trans hl
      · exact (hgr.block _ (Array.getElem?_eq_some_iff.1 hk).1 (fun e => by have := Option.some.inj e; omega)).trans hk
    · rintro pre x W ⟨hi, hl, hk⟩ hpx
      have hlt : w.heap.size + 1 < W.heap.size := (Array.getElem?_eq_some_iff.1 hl).1
      have hy := run_yield (P := Tryd.prog) (args := #[.string x]) hl (by rw [hrec]; rfl)
      rw [hrec] at hy
      have hl2 : (W.putObj (w.heap.size + 1) (.loop { rec .ready none with state := .busy })).heap[w.heap.size + 1]? = some (.loop { rec .ready none with state := .busy }) := World.putObj_heap_same hlt
      have hk2 : (W.putObj (w.heap.size + 1) (.loop { rec .ready none with state := .busy })).heap[w.heap.size]? = some (.deferred (some [])) := (World.putObj_heap_other (by omega)).trans hk
      have hb2 : (W.putObj (w.heap.size + 1) (.loop { rec .ready none with state := .busy })).heap[Bs]? = W.heap[Bs]? := World.putObj_heap_other (by omega)
      have hi2 := hI.put (.loop { rec .ready none with state := .busy }) hi (by omega : w.heap.size ≤ w.heap.size + 1) hl rfl
      have hbd := hbody (w.heap.size + 1) pre x _ hi2 hpx
      refine ⟨fn, a.tmps.setIfInBounds q (.string x), assign, body, by simpa using hy, roundIn_of_wpIn hfn ?_⟩
      refine hassign (w.heap.size + 1) x W (fun a₁ w₁ => ∃ w₂, (Instr.beginRound (w.heap.size + 1)).run Tryd.prog w₁ = .ok () w₂ ∧ body.wpIn (Fence.wide.inRound (w.heap.size + 1)) (n - 1 - 1) Tryd.prog (roundPost Tryd.prog (w.heap.size + 1) _) a₁ w₂) ⟨_, run_beginRound hl (by rw [hrec]), wpIn_mono hbd ?_⟩
      have fin : ∀ (jump : Option Code) (W3 : World), KeepsFrom w.heap.size (W.putObj (w.heap.size + 1) (.loop { rec .ready none with state := .busy })) W3 →
          (Instr.endRound (w.heap.size + 1) jump).run Tryd.prog W3 = .ok (.bool jump.isNone) (W3.putObj (w.heap.size + 1) (.loop (rec (if jump.isNone then .ready else .done) jump))) ∧
          W3.heap[w.heap.size + 1]? = some (.loop { rec .ready none with state := .busy }) ∧
          (W3.putObj (w.heap.size + 1) (.loop (rec (if jump.isNone then .ready else .done) jump))).heap[w.heap.size + 1]? = some (.loop (rec (if jump.isNone then .ready else .done) jump)) ∧
          (W3.putObj (w.heap.size + 1) (.loop (rec (if jump.isNone then .ready else .done) jump))).heap[w.heap.size]? = some (.deferred (some [])) := fun jump W3 hk3 => by
        have hl3 := hk3.same _ _ (by omega) hl2 rfl
        have := run_endRound (P := Tryd.prog) jump hl3
        rw [hrec] at this ⊢
        exact ⟨this, by rw [hrec] at hl3; exact hl3, World.putObj_heap_same (Array.getElem?_eq_some_iff.1 hl3).1, (World.putObj_heap_other (by omega)).trans (hk3.same _ _ (Nat.le_refl _) hk2 rfl)⟩
      rintro e a3 W3 hp
      cases e with
      | normal =>
        obtain ⟨hk3, hb3, hi3⟩ := hp
        obtain ⟨hr, hl3, hl4, hk4⟩ := fin none W3 hk3
        exact ⟨_, _, hr, .inl ⟨rfl, ⟨hI.put _ hi3 (by omega) hl3 rfl, hl4, hk4⟩, (World.putObj_heap_other (by omega)).trans (hb3.trans hb2)⟩⟩
      | exit id =>
        obtain ⟨hk3, hi3⟩ := hp
        obtain ⟨hr, hl3, hl4, hk4⟩ := fin (some (.exit id)) W3 hk3
        exact ⟨_, _, hr, .inr ⟨rfl, .exit id, (hIx _).put _ hi3 (by omega) hl3 rfl, hl4, hk4⟩⟩
      | ret => exact hp.elim
      | goto t => exact hp.elim
      | panic ch => exact hp.elim
      | outgrown => exact hp.elim
    · rintro e W2 ⟨⟨v, rfl⟩, (⟨hi, hl, hk⟩ | ⟨pre, hSp, c, hi, hl, hk⟩)⟩
      · exact ⟨none, _, by have := run_endLoop (P := Tryd.prog) hl (by rw [hrec]; simp); rw [hrec] at this; exact this, hdone _ _ (Nat.le_refl _) (hI.put _ hi (by omega) hl rfl) ((World.putObj_heap_other (by omega)).trans hk)⟩
      · exact ⟨some c, _, by have := run_endLoop (P := Tryd.prog) hl (by rw [hrec]; simp); rw [hrec] at this; exact this, hstop _ c pre _ (Nat.le_refl _) hSp ((hIx c).put _ hi (by omega) hl rfl) ((World.putObj_heap_other (by omega)).trans hk)⟩
end Go.Proofs.YtnbhbnndfpfikaaDoor.X
