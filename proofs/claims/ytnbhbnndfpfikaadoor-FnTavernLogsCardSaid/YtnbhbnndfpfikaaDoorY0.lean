/- What functions of the program return (each as a Lean function and its contract); written by a program of this session's over the kit's printer. -/
import Derived.Test.YtnbhbnndfpfikaaDoorProg
import Derived.Below
import Derived.Deep.Draws
import Derived.Deep.AppendLies
import Derived.Maps.AppendAt
import Derived.OwnWalk
import Derived.Laws.BytesArg
import Derived.Laws.MakeOwn
import Derived.Laws.OwnMore
import Derived.Deep.OwnRows
import Derived.Tactics
import Derived.Lib.ConvBytes
import Derived.Laws.Slices
import Derived.WalkKit
import Derived.KernelRfl
import Derived.RowKit3
import Derived.Deep.LoopGhost
import Derived.Deep.QuietTactic
import Derived.BigQuiet
import Derived.WideLaws
import Derived.Deep.DeepCutAuto
import Derived.Deep.CutBlock
import Derived.Deep.RegionHeld3
import Derived.Laws.Rows
import Derived.Lib.AppendStr
import Derived.ArgAppend
import Derived.Laws.IdiomCopy
import Derived.OrdersHeld
import Derived.Laws.BitsLemmas
import Derived.RowKit
import Derived.Test.YtnbhbnndfpfikaaDoorWWords
import Derived.Test.YtnbhbnndfpfikaaDoorWLast
import Derived.Test.YtnbhbnndfpfikaaDoorWTab
import Derived.Test.YtnbhbnndfpfikaaDoorWFour
import Derived.Test.YtnbhbnndfpfikaaDoorWQPut
import Derived.Test.YtnbhbnndfpfikaaDoorWApart
import Derived.Test.YtnbhbnndfpfikaaDoorWArr
import Derived.Test.YtnbhbnndfpfikaaDoorWZeros
import Derived.Test.YtnbhbnndfpfikaaDoorWFoot
import Derived.Test.YtnbhbnndfpfikaaDoorWKept
import Derived.Test.YtnbhbnndfpfikaaDoorWShare
import Derived.Test.YtnbhbnndfpfikaaDoorWN
import Derived.Test.YtnbhbnndfpfikaaDoorWFootNe
import Derived.Test.YtnbhbnndfpfikaaDoorWAt
import Derived.Test.YtnbhbnndfpfikaaDoorWEqStruct
import Derived.Test.YtnbhbnndfpfikaaDoorWRepsOne
import Derived.Test.YtnbhbnndfpfikaaDoorWInv
import Derived.Test.YtnbhbnndfpfikaaDoorWInvWords
import Derived.Test.YtnbhbnndfpfikaaDoorWGuard
import Derived.Test.YtnbhbnndfpfikaaDoorWNEv
import Derived.Test.YtnbhbnndfpfikaaDoorWMore
namespace Go.Proofs.YtnbhbnndfpfikaaDoor.X
open Go.RowKit Go.Proofs.YtnbhbnndfpfikaaDoorW.PrintWords Go.Proofs.YtnbhbnndfpfikaaDoorW.PrintLast Go.Proofs.YtnbhbnndfpfikaaDoorW.PrintMore
attribute [local go_sem] max2_int min2_int max_two min_two max_three min_three max_four min_four   -- for this text's walks alone
set_option linter.unusedVariables false
set_option linter.unusedSimpArgs false
def errW : Option Int → Value
  | none => .nilIface
  | some c => .iface 0 (.int .i64 c)
theorem errW_none : errW none = .nilIface := rfl
theorem errW_some (c : Int) : errW (some c) = .iface 0 (.int .i64 c) := rfl
theorem zA : type_of% @Aside0.mk := @Aside0.mk
theorem zB : type_of% @pw_below_drewN := @pw_below_drewN
theorem zC : type_of% @below_drew1 := @below_drew1
theorem zD : type_of% @below_alloc := @below_alloc
theorem zE : type_of% @below_set := @below_set
theorem zF : type_of% @blk_drewN := @blk_drewN
theorem zG : type_of% @blk_alloc := @blk_alloc
theorem zH : type_of% @blk_drew := @blk_drew
theorem zI : type_of% @blk_frozen := @blk_frozen
theorem zJ : type_of% @blk_cell := @blk_cell
theorem zK : type_of% @below_size := @below_size
theorem zL : type_of% @below_step := @below_step
theorem zM : type_of% @KeepBut.set_ := @KeepBut.set_
theorem zN : type_of% @keep_drewN := @keep_drewN
theorem zO : type_of% @keep_alloc := @keep_alloc
theorem zP : type_of% @keep_drew := @keep_drew
theorem zQ : type_of% @keep_far := @keep_far
theorem zR : type_of% @blk_below := @blk_below
theorem zS : type_of% @gate_callee := @gate_callee
theorem zT : type_of% @KeepBut.trans := @KeepBut.trans
theorem zU : type_of% @Kd.R_alloc := @Kd.R_alloc
theorem zV : type_of% @Kd.R_drewN := @Kd.R_drewN
theorem zW : type_of% @Kd.R_drew := @Kd.R_drew
theorem zX : type_of% @blk_put := @blk_put
theorem zY : type_of% @box_event := @box_event
theorem zZ : type_of% @gate_dst := @gate_dst
theorem qA : type_of% @KeepBut.blk := @KeepBut.blk
theorem qC : type_of% @KeepBut.of_below := @KeepBut.of_below
theorem qD : type_of% @keep_size := @keep_size
theorem qE : type_of% @decide_eq_true := @decide_eq_true
theorem qF : type_of% @of_decide_eq_true := @of_decide_eq_true
theorem qG : type_of% @decide_eq_false := @decide_eq_false
theorem qH : type_of% @errW_none := @errW_none
theorem qI : type_of% @errW_some := @errW_some
theorem qJ : type_of% @List.setIfInBounds_toArray := @List.setIfInBounds_toArray
theorem qK : type_of% @List.set_cons_zero := @List.set_cons_zero
theorem qL : type_of% @List.set_cons_succ := @List.set_cons_succ
theorem qM : type_of% @List.length_take := @List.length_take
theorem qN : type_of% @List.length_drop := @List.length_drop
theorem qO : type_of% @Below.refl := @Below.refl
theorem qP : type_of% @Kd.C_alloc := @Kd.C_alloc
theorem qQ : type_of% @Kd.C_drewN := @Kd.C_drewN
theorem qR : type_of% @Kd.C_drew := @Kd.C_drew
theorem qW : type_of% @goesL_ := @goesL_
theorem info5 : (Tryd.prog.info? 5).map (fun i => (i.zero, i.size, i.bytes)) = some (some (.int .u8 0), 1, 1) := by kernel_rfl
theorem info9 : (Tryd.prog.info? 9).map (fun i => (i.zero, i.size, i.bytes)) = some (some (.string ⟨#[]⟩), 1, 16) := by kernel_rfl
theorem info36 : (Tryd.prog.info? 36).map (fun i => (i.zero, i.size, i.bytes)) = some (some (.agg #[(.string ⟨#[]⟩), (.string ⟨#[]⟩)]), 2, 32) := by kernel_rfl
structure S36 where
  f0 : ByteArray
  f1 : ByteArray
def z36 : S36 := ⟨(⟨#[]⟩ : ByteArray), (⟨#[]⟩ : ByteArray)⟩
def k36 : Kd S36 := Kd.iso (Kd.pair Kd.string Kd.string) (fun x : S36 => (x.f0, x.f1))
theorem k36_open {w : World} {x : S36} {cs : List Value} (h : k36.K w x cs) : cs = [.string x.f0, .string x.f1] := by
  obtain ⟨_, _, rfl, rfl, rfl⟩ := h
  exact rfl
theorem k36_mkM (w : World) (base : Nat) (ok : Nat → Prop) (x : S36)  : k36.M w base ok x [.string x.f0, .string x.f1] := ⟨[.string x.f0], [.string x.f1], rfl, rfl, rfl⟩
def rd_T36 (xs : List S36) (i : Int) : S36 := xs.getD i.toNat z36
theorem at_T36 {w : World} {A : Option Addr} {n : Nat} {xs : List S36} (h : Kd.C k36 w A n xs) (i : Int) (h0 : 0 ≤ i) (h1 : i < n) : ∃ ad , A = some ad ∧ w.cell? (ad.add (i.toNat * 2)) = some (.string (rd_T36 xs i).f0) ∧ w.cell? ⟨(ad.add (i.toNat * 2)).block, (ad.add (i.toNat * 2)).off + 1, none⟩ = some (.string (rd_T36 xs i).f1) := by
  obtain ⟨ad, c, e, _, hK, hc0⟩ := Kd.C_get h z36 i h0 h1
  have hc : ∀ j u, c[j]? = some u → w.cell? (ad.add (i.toNat * 2 + j)) = some u := hc0
  obtain rfl := k36_open hK
  exact ⟨ad, e, hc 0 _ rfl, by rw [← add_field _ _ 1 (by omega)]; exact hc 1 _ rfl⟩
structure S25 where
  f0 : ByteArray
  f1 : ByteArray
  f2 : Int
def z25 : S25 := ⟨(⟨#[]⟩ : ByteArray), (⟨#[]⟩ : ByteArray), (0 : Int)⟩
end Go.Proofs.YtnbhbnndfpfikaaDoor.X
