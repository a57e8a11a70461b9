/- impl.isPrinted returns whether all bytes of a text are in 32..126 and none is 35; proved over the closures that it makes and slices.ContainsFunc's contract. -/
import Derived.Test.YtnbhbnndfpfikaaDoorXa
import Derived.Laws.EntriesVeiled
namespace Go.Proofs.YtnbhbnndfpfikaaDoor.X
open Go.RowKit Go.Proofs.YtnbhbnndfpfikaaDoorW.PrintWords Go.Proofs.YtnbhbnndfpfikaaDoorW.PrintLast Go.Proofs.YtnbhbnndfpfikaaDoorW.PrintMore
set_option linter.unusedVariables false
set_option linter.unusedSimpArgs false
def bprint (x : Int) : Bool := decide (32 ≤ x) && decide (x ≤ 126) && (x != 35)
theorem pred_print (w : World) : PredAt Tryd.prog 94 #[] (Value.int .u8) bprint w := fun W x _ => by
  show Calls Tryd.prog 94 #[.int .u8 x] W _
  unfold bprint
  by_cases h1 : 32 ≤ x <;> by_cases h2 : x ≤ 126
  all_goals
    go_enter Tryd.func94, Tryd.ntmps94
    go_wp2
    go_ret
    exact ⟨by first | (simp [h1, h2]; done) | (simp [h1, h2]; omega), 0, rfl⟩
theorem pred_not (g : Nat) (eg : ∀ args w, (callFunc g args).run Tryd.prog w = .ok (.enter g args) w) (p : Int → Bool) (B : Nat) (w : World) (hB : B < w.heap.size) (hcell : w.cell? ⟨B, 0, none⟩ = some (.func (.func g) #[] #[])) (hp : PredAt Tryd.prog g #[] (Value.int .u8) p w) :
    PredAt Tryd.prog 106 #[.pointer (some ⟨B, 0, none⟩)] (Value.int .u8) (fun x => !p x) w := fun W x hb => by
  have hc : W.cell? ⟨B, 0, none⟩ = some (.func (.func g) #[] #[]) := (hb.cell (p := ⟨B, 0, none⟩) hB).trans hcell
  have hq : Calls Tryd.prog g #[.int .u8 x] W fun e w' => e = .returned (.bool (p x)) ∧ ∃ q, w' = W.drewN q := hp W x hb
  show Calls Tryd.prog 106 #[.int .u8 x, .pointer (some ⟨B, 0, none⟩)] W fun e w' => e = .returned (.bool (!p x)) ∧ ∃ q, w' = W.drewN q
  generalize p x = r at hq ⊢
  have Hq := Lib.hid hq
  clear hq hp hcell
  go_enter Tryd.func106, Tryd.ntmps106
  go_wp2_with (go_at_fn g; refine (Hq.out).mono ?_; rintro e w' ⟨rfl, q, rfl⟩)
  go_ret
  exact ⟨by simp, q, rfl⟩
theorem all_not (p : Int → Bool) (l : List Int) : (!(l.any fun x => !p x)) = l.all p := by
  induction l with
  | nil => rfl
  | cons a l ih => simp only [List.any_cons, List.all_cons, Bool.not_or, Bool.not_not, ih]
set_option maxHeartbeats 1000000 in
theorem areAll_byte (g : Nat) (eg : ∀ args w, (callFunc g args).run Tryd.prog w = .ok (.enter g args) w) (p : Int → Bool) (b off n c : Nat) (zs : List Int) (w : World) (hp : PredAt Tryd.prog g #[] (Value.int .u8) p w) (hz : zs.length = n) (hbig : n ≤ 9223372036854775807)
    (hc : ∀ j, j < zs.length → w.cell? ⟨b, off + j, none⟩ = some (.int .u8 zs[j]!)) :
    Calls Tryd.prog 93 #[.slice (some ⟨b, off, none⟩) n c, .func (.func g) #[] #[]] w fun e w' => e = .returned (.bool (zs.all p)) ∧ Below w.heap.size w w' := by
  have e1 : ∀ args w, (callFunc 106 args).run Tryd.prog w = .ok (.enter 106 args) w := enters_of Tryd.func106 (by kernel_rfl) rfl
  have hp2 : PredAt Tryd.prog g #[] (Value.int .u8) p (w.alloc (.cells #[.func (.func g) #[] #[]] 109)) := fun W x hb => hp W x (((Below.refl _ w).alloc (Nat.le_refl _) _).trans (hb.mono (by simp)))
  have hcon := AnyE.slices_ContainsFunc Tryd.cfByte (Value.int .u8) (fun x => !p x) 106 #[.pointer (some ⟨w.heap.size, 0, none⟩)] e1 b off n c zs (w.alloc (.cells #[.func (.func g) #[] #[]] 109))
    (pred_not g eg p w.heap.size _ (by simp) (by simp) hp2) (by omega) hbig (fun j hj => pw_cell_below ((Below.refl _ w).alloc (Nat.le_refl _) _) (hc j hj))
  change Calls Tryd.prog 105 _ _ _ at hcon
  rw [List.take_of_length_le (by omega)] at hcon
  have Hr := Lib.hid (all_not p zs)
  have Hc := Lib.hid hcon
  clear hc hcon hp hp2
  go_enter Tryd.func93, Tryd.ntmps93
  go_wp2_with (go_at_call 105; refine (Hc.out).mono ?_; rintro e w' ⟨rfl, q, rfl⟩)
  go_ret
  exact ⟨by rw [← Hr.out]; simp, pw_below_drewN ((Below.refl _ w).alloc (Nat.le_refl _) _) q⟩
def printed (s : ByteArray) : Bool := (bytesOf s).all bprint
def impl_isPrinted.f (a0 : ByteArray) : Option Bool := if a0.size ≤ 9223372036854775807 then some (printed a0) else none
set_option maxHeartbeats 1000000 in
theorem impl_isPrinted.calls (a0 : ByteArray) (r : Bool) (w : World) (h : impl_isPrinted.f a0 = some r) :
    Calls Tryd.prog 77 #[.string a0] w fun e w' => e = .returned (.bool r) ∧ Below w.heap.size w w' := by
  unfold impl_isPrinted.f at h
  split at h
  case isFalse => cases h
  rename_i hs
  cases h
  have kb := fun W => print_bytes (P := Tryd.prog) 9 44 5 Tryd.underlying9 Tryd.underlying44 Tryd.underlying5 a0 W
  have eg : ∀ args w, (callFunc 94 args).run Tryd.prog w = .ok (.enter 94 args) w := enters_of Tryd.func94 (by kernel_rfl) rfl
  have hcon : ∀ W c, Calls Tryd.prog 93 #[.slice (some ⟨W.heap.size, 0, none⟩) a0.size c, .func (.func 94) #[] #[]] (Lib.bytesWorld W 5 a0) fun e w' => e = .returned (.bool (printed a0)) ∧ Below (Lib.bytesWorld W 5 a0).heap.size (Lib.bytesWorld W 5 a0) w' := by
    intro W c
    refine areAll_byte 94 eg bprint W.heap.size 0 a0.size c (bytesOf a0) _ (pred_print _) (bytesOf_length a0) hs (fun j hj => ?_)
    have := (bytes_reads W 5 a0 hs).2.2 (by rw [bytesOf_length] at hj; omega)
    obtain ⟨ad, e, hcell⟩ := this
    cases e
    have := hcell j (by rw [bytesOf_length] at hj; omega)
    rw [add_plain] at this
    rw [Nat.zero_add, this]
    congr 2
    simp [List.getD_eq_getElem?_getD, List.getElem!_eq_getElem?_getD]
  have Hc := Lib.hid hcon
  have hfin : ∀ (W w' : World), Below W.heap.size W (Lib.bytesWorld W 5 a0) := fun W _ => bytes_below (Below.refl _ _) (Nat.le_refl _) _ _
  have Hf := Lib.hid hfin
  clear hcon hfin
  go_enter Tryd.func77, Tryd.ntmps77
  go_wp2_with (go_at_call 93; refine (Hc.out _ _).mono ?_; rintro e w' ⟨rfl, hb⟩)
  go_ret
  exact ⟨rfl, (Hf.out w w').trans (hb.mono (by rw [Lib.bytesWorld_size]; omega))⟩
def strings_Cut.f (a0 a1 : ByteArray) : Option (ByteArray × ByteArray × Bool) := if a1.size = 1 then (if a0.size ≤ 9223372036854775807 then some (cutB a0 (a1.data.toList.headD 0)) else none) else none
theorem strings_Cut.calls (a0 a1 : ByteArray) (r1 r2 : ByteArray) (r3 : Bool) (w : World) (h : strings_Cut.f a0 a1 = some (r1, r2, r3)) :
    Calls Tryd.prog 73 #[.string a0, .string a1] w fun e w' => e = .returned (.tuple #[.string r1, .string r2, .bool r3]) ∧ Below w.heap.size w w' := by
  unfold strings_Cut.f at h
  split at h
  case isFalse => cases h
  rename_i h1
  split at h
  case isFalse => cases h
  rename_i hs
  have hb := one_byte a1 h1
  generalize a1.data.toList.headD 0 = c at hb h
  subst hb
  have hc := stringslite_Cut_one a0 c w hs
  have h2 := Option.some.inj h
  rw [h2] at hc
  have Hc := Lib.hid hc
  clear h h1 h2 hc
  go_enter Tryd.func73, Tryd.ntmps73
  go_wp2_with (go_at_call 92; refine (Hc.out).mono ?_; rintro e w' ⟨rfl, k, rfl⟩)
  go_ret3
  exact ⟨rfl, pw_below_drewN (Below.refl _ _) k⟩
end Go.Proofs.YtnbhbnndfpfikaaDoor.X
