/- impl.IsPool returns whether a list has 1 to 4 dice, each of six faces in 0..30 in order; proved over its closures, slices.ContainsFunc's and slices.IsSorted's contracts. -/
import Derived.Test.YtnlcaihcnlpbpaaGreatDoorXb
import Derived.Test.YtnlcaihcnlpbpaaGreatDoorXg
import Derived.Test.YtnlcaihcnlpbpaaGreatDoorY1
import Derived.Shelf.SlSorted.IsSorted
namespace Go.Proofs.YtnlcaihcnlpbpaaGreatDoor.X
open Go.RowKit Go.Shelf Go.Proofs.YtnlcaihcnlpbpaaGreatDoorW.PrintWords Go.Proofs.YtnlcaihcnlpbpaaGreatDoorW.PrintLast Go.Proofs.YtnlcaihcnlpbpaaGreatDoorW.PrintMore
set_option linter.unusedVariables false
set_option linter.unusedSimpArgs false

def dieRow (x : S63) : List Value := [.int .i64 x.f0, .int .i64 x.f1, .int .i64 x.f2, .int .i64 x.f3, .int .i64 x.f4, .int .i64 x.f5]
instance : Inhabited S63 := ⟨z63⟩
def faceOk (x : Int) : Bool := decide (0 ≤ x ∧ x ≤ 30)
def facesOf (x : S63) : List Int := [x.f0, x.f1, x.f2, x.f3, x.f4, x.f5]
def dieUp (x : S63) : Bool := Lib.downOK (fun a b => decide (a < b)) #[x.f0, x.f1, x.f2, x.f3, x.f4, x.f5] 5
def dieOk (x : S63) : Bool := (facesOf x).all faceOk && dieUp x

theorem within_own (a b c : Int) (w : World) : Calls Tryz.prog 28 #[.int .i64 a, .int .i64 b, .int .i64 c] w fun e w' => e = .returned (.bool (decide (b ≤ a ∧ a ≤ c))) ∧ ∃ k, w' = w.drewN k := by
  by_cases h1 : b ≤ a
  · by_cases h2 : a ≤ c
    · go_enter Tryz.func28, Tryz.ntmps28
      go_wp2
      all_goals (try go_region)
      all_goals (try go_wp2)
      all_goals go_ret
      all_goals exact ⟨by simp [h1, h2], by first | exact ⟨0, rfl⟩ | exact ⟨1, rfl⟩⟩
    · go_enter Tryz.func28, Tryz.ntmps28
      go_wp2
      all_goals (try go_region)
      all_goals (try go_wp2)
      all_goals go_ret
      all_goals exact ⟨by simp [h1, h2], by first | exact ⟨0, rfl⟩ | exact ⟨1, rfl⟩⟩
  · go_enter Tryz.func28, Tryz.ntmps28
    go_wp2
    all_goals (try go_region)
    all_goals (try go_wp2)
    all_goals go_ret
    all_goals exact ⟨by simp only [decide_eq_true_eq] <;> simp [h1] <;> intros <;> omega, by first | exact ⟨0, rfl⟩ | exact ⟨1, rfl⟩⟩
theorem pred_face (w : World) : PredAt Tryz.prog 50 #[] (Value.int .i64) faceOk w := fun W x _ => by
  show Calls Tryz.prog 50 #[.int .i64 x] W _
  unfold faceOk
  go_enter Tryz.func50, Tryz.ntmps50
  go_wp2_with (go_at_call 28; refine (within_own _ _ _ _).mono ?_; rintro e w' ⟨rfl, q, rfl⟩)
  go_ret
  exact ⟨by simp, q, rfl⟩
theorem pred_not_int (g : Nat) (eg : ∀ args w, (callFunc g args).run Tryz.prog w = .ok (.enter g args) w) (p : Int → Bool) (B : Nat) (w : World) (hB : B < w.heap.size) (hcell : w.cell? ⟨B, 0, none⟩ = some (.func (.func g) #[] #[])) (hp : PredAt Tryz.prog g #[] (Value.int .i64) p w) :
    PredAt Tryz.prog 60 #[.pointer (some ⟨B, 0, none⟩)] (Value.int .i64) (fun x => !p x) w := fun W x hb => by
  have hc : W.cell? ⟨B, 0, none⟩ = some (.func (.func g) #[] #[]) := (hb.cell (p := ⟨B, 0, none⟩) hB).trans hcell
  have hq : Calls Tryz.prog g #[.int .i64 x] W fun e w' => e = .returned (.bool (p x)) ∧ ∃ q, w' = W.drewN q := hp W x hb
  show Calls Tryz.prog 60 #[.int .i64 x, .pointer (some ⟨B, 0, none⟩)] W fun e w' => e = .returned (.bool (!p x)) ∧ ∃ q, w' = W.drewN q
  generalize p x = r at hq ⊢
  have Hq := Lib.hid hq
  clear hq hp hcell
  go_enter Tryz.func60, Tryz.ntmps60
  go_wp2_with (go_at_fn g; refine (Hq.out).mono ?_; rintro e w' ⟨rfl, q, rfl⟩)
  go_ret
  exact ⟨by simp, q, rfl⟩
set_option maxHeartbeats 1000000 in
theorem areAll_int (g : Nat) (eg : ∀ args w, (callFunc g args).run Tryz.prog w = .ok (.enter g args) w) (p : Int → Bool) (b off n c : Nat) (zs : List Int) (w : World) (hp : PredAt Tryz.prog g #[] (Value.int .i64) p w) (hz : zs.length = n) (hbig : n ≤ 9223372036854775807)
    (hc : ∀ j, j < zs.length → w.cell? ⟨b, off + j, none⟩ = some (.int .i64 zs[j]!)) :
    Calls Tryz.prog 49 #[.slice (some ⟨b, off, none⟩) n c, .func (.func g) #[] #[]] w fun e w' => e = .returned (.bool (zs.all p)) ∧ Below w.heap.size w w' := by
  have e1 : ∀ args w, (callFunc 60 args).run Tryz.prog w = .ok (.enter 60 args) w := enters_of Tryz.func60 (by kernel_rfl) rfl
  have hp2 : PredAt Tryz.prog g #[] (Value.int .i64) p (w.alloc (.cells #[.func (.func g) #[] #[]] 81)) := fun W x hb => hp W x (((Below.refl _ w).alloc (Nat.le_refl _) _).trans (hb.mono (by simp)))
  have hcon := AnyE.slices_ContainsFunc Tryz.cfInt (Value.int .i64) (fun x => !p x) 60 #[.pointer (some ⟨w.heap.size, 0, none⟩)] e1 b off n c zs (w.alloc (.cells #[.func (.func g) #[] #[]] 81))
    (pred_not_int g eg p w.heap.size _ (by simp) (by simp) hp2) (by omega) hbig (fun j hj => pw_cell_below ((Below.refl _ w).alloc (Nat.le_refl _) _) (hc j hj))
  change Calls Tryz.prog 59 _ _ _ at hcon
  rw [List.take_of_length_le (by omega)] at hcon
  have Hr := Lib.hid (all_not p zs)
  have Hc := Lib.hid hcon
  clear hc hcon hp hp2
  go_enter Tryz.func49, Tryz.ntmps49
  go_wp2_with (go_at_call 59; refine (Hc.out).mono ?_; rintro e w' ⟨rfl, q, rfl⟩)
  go_ret
  exact ⟨by rw [← Hr.out]; simp, pw_below_drewN ((Below.refl _ w).alloc (Nat.le_refl _) _) q⟩

def dieWorld (x : S63) (w : World) : World := w.alloc (.cells #[.int .i64 x.f0, .int .i64 x.f1, .int .i64 x.f2, .int .i64 x.f3, .int .i64 x.f4, .int .i64 x.f5] 63)
theorem die_cells (x : S63) (w : World) (j : Nat) (hj : j < (facesOf x).length) : (dieWorld x w).cell? ⟨w.heap.size, 0 + j, none⟩ = some (.int .i64 (facesOf x)[j]!) := by
  have hc := blk_cell (blk_new w (.cells #[.int .i64 x.f0, .int .i64 x.f1, .int .i64 x.f2, .int .i64 x.f3, .int .i64 x.f4, .int .i64 x.f5] 63)) (0 + j)
  rw [dieWorld, hc, Nat.zero_add]
  have hj' : j = 0 ∨ j = 1 ∨ j = 2 ∨ j = 3 ∨ j = 4 ∨ j = 5 := by simp [facesOf] at hj; omega
  rcases hj' with rfl | rfl | rfl | rfl | rfl | rfl <;> rfl
set_option maxHeartbeats 2000000 in
theorem die_own (x : S63) (w : World) :
    Calls Tryz.prog 39 #[.agg #[.int .i64 x.f0, .int .i64 x.f1, .int .i64 x.f2, .int .i64 x.f3, .int .i64 x.f4, .int .i64 x.f5]] w fun e w' => e = .returned (.bool (dieOk x)) ∧ Below w.heap.size w w' := by
  have hu := Tryz.underlying63
  have eg : ∀ args w, (callFunc 50 args).run Tryz.prog w = .ok (.enter 50 args) w := enters_of Tryz.func50 (by kernel_rfl) rfl
  have h1 := areAll_int 50 eg faceOk w.heap.size 0 6 6 (facesOf x) (dieWorld x w) (pred_face _) rfl (by decide) (fun j hj => die_cells x w j hj)
  have h2 : ∀ w2, Below (dieWorld x w).heap.size (dieWorld x w) w2 → Calls Tryz.prog 51 #[.slice (some ⟨w.heap.size, 0, none⟩) 6 6] w2 fun e w' => e = .returned (.bool (dieUp x)) ∧ ∃ q, w' = w2.drewN q := fun w2 hb =>
    AnyO.slices_IsSorted_int Tryz.sortedInt w.heap.size 0 6 #[x.f0, x.f1, x.f2, x.f3, x.f4, x.f5] w2 (fun i hi => (hb.cell (p := ⟨w.heap.size, 0 + i, none⟩) (by simp [dieWorld])).trans ((die_cells x w i hi).trans (by
      have hj' : i = 0 ∨ i = 1 ∨ i = 2 ∨ i = 3 ∨ i = 4 ∨ i = 5 := by simp at hi; omega
      rcases hj' with rfl | rfl | rfl | rfl | rfl | rfl <;> rfl))) (by simp)
  have hB : Below w.heap.size w (dieWorld x w) := (Below.refl _ w).alloc (Nat.le_refl _) _
  have hB2 : ∀ w2, Below (dieWorld x w).heap.size (dieWorld x w) w2 → Below w.heap.size w w2 := fun w2 hb => hB.trans (hb.mono (by simp [dieWorld]))
  unfold dieOk
  generalize (facesOf x).all faceOk = r1 at h1 ⊢
  generalize dieUp x = r2 at h2 ⊢
  unfold dieWorld at h1 h2 hB2
  have H1 := Lib.hid h1
  have H2 := Lib.hid h2
  have HB2 := Lib.hid hB2
  clear h1 h2 hB hB2
  cases r1
  · go_enter Tryz.func39, Tryz.ntmps39
    go_wp2_with (go_at_call 49; refine (H1.out).mono ?_; rintro e w2 ⟨rfl, hb⟩; have HB := Lib.hid hb; clear hb)
    go_ret
    exact ⟨by simp, HB2.out _ HB.out⟩
  · go_enter Tryz.func39, Tryz.ntmps39
    go_wp2_with (first | (go_at_call 49; refine (H1.out).mono ?_; rintro e w2 ⟨rfl, hb⟩; have HB := Lib.hid hb; clear hb) | (go_at_call 51; refine (H2.out _ HB.out).mono ?_; rintro e w3 ⟨rfl, q, rfl⟩))
    go_ret
    exact ⟨by simp, pw_below_drewN (HB2.out _ HB.out) _⟩
set_option maxRecDepth 100000 in
set_option maxHeartbeats 2000000 in
theorem pred_not_die (g : Nat) (eg : ∀ args w, (callFunc g args).run Tryz.prog w = .ok (.enter g args) w) (p : S63 → Bool) (hd : ∀ x W, Calls Tryz.prog g #[.agg #[.int .i64 x.f0, .int .i64 x.f1, .int .i64 x.f2, .int .i64 x.f3, .int .i64 x.f4, .int .i64 x.f5]] W fun e w' => e = .returned (.bool (p x)) ∧ Below W.heap.size W w')
    (B : Nat) (w : World) (hB : B < w.heap.size) (hcell : w.cell? ⟨B, 0, none⟩ = some (.func (.func g) #[] #[])) :
    PredBelow Tryz.prog 48 #[.pointer (some ⟨B, 0, none⟩)] (fun x => .agg (dieRow x).toArray) (fun x => !p x) w := fun W x hb => by
  have hb1 : Below W.heap.size W (dieWorld x W) := (Below.refl _ W).alloc (Nat.le_refl _) _
  have hb2 : Below w.heap.size w (dieWorld x W) := hb.trans (hb1.mono hb.size)
  have hc : (dieWorld x W).cell? ⟨B, 0, none⟩ = some (.func (.func g) #[] #[]) := (hb2.cell (p := ⟨B, 0, none⟩) hB).trans hcell
  have hu := Tryz.underlying63
  show Calls Tryz.prog 48 #[.agg #[.int .i64 x.f0, .int .i64 x.f1, .int .i64 x.f2, .int .i64 x.f3, .int .i64 x.f4, .int .i64 x.f5], .pointer (some ⟨B, 0, none⟩)] W fun e w' => e = .returned (.bool (!p x)) ∧ Below w.heap.size w w'
  have hd := hd x (dieWorld x W)
  generalize p x = r at hd ⊢
  unfold dieWorld at hd hc hb2
  have Hq := Lib.hid hd
  have HW := Lib.hid hb2
  clear hcell hb hd hb1 hb2
  go_enter Tryz.func48, Tryz.ntmps48
  go_wp2_with (go_at_fn g; refine (Hq.out).mono ?_; rintro e w' ⟨rfl, hb⟩; have HB := Lib.hid hb; clear hb)
  go_ret
  exact ⟨by simp, HW.out.trans (HB.out.mono HW.out.size)⟩
theorem all_not_die (l : List S63) : (!(l.any fun x => !dieOk x)) = l.all dieOk := by
  induction l with
  | nil => rfl
  | cons a l ih => simp only [List.any_cons, List.all_cons, Bool.not_or, Bool.not_not, ih]
set_option maxHeartbeats 1000000 in
theorem areAll_die (b off n c : Nat) (zs : List S63) (w : World) (hz : zs.length = n) (hbig : n ≤ 9223372036854775807) (hb : b < w.heap.size)
    (hc : ∀ j, j < zs.length → ∀ i v, (dieRow zs[j]!)[i]? = some v → w.cell? ⟨b, off + j * 6 + i, none⟩ = some v) :
    Calls Tryz.prog 38 #[.slice (some ⟨b, off, none⟩) n c, .func (.func 39) #[] #[]] w fun e w' => e = .returned (.bool (zs.all dieOk)) ∧ Below w.heap.size w w' := by
  have e1 : ∀ args w, (callFunc 48 args).run Tryz.prog w = .ok (.enter 48 args) w := enters_of Tryz.func48 (by kernel_rfl) rfl
  have eg : ∀ args w, (callFunc 39 args).run Tryz.prog w = .ok (.enter 39 args) w := enters_of Tryz.func39 (by kernel_rfl) rfl
  have hcon := AnyQ.slices_ContainsFunc Tryz.cfDie 6 Tryz.isAgg63 Tryz.sizeOf63 dieRow (fun _ => rfl) (fun x => !dieOk x) 48 #[.pointer (some ⟨w.heap.size, 0, none⟩)] e1 b off n c zs (w.alloc (.cells #[.func (.func 39) #[] #[]] 62))
    (pred_not_die 39 eg dieOk die_own w.heap.size _ (by simp) (by simp)) (by omega) hbig (by simp; omega) (fun j hj i v hv => pw_cell_below ((Below.refl _ w).alloc (Nat.le_refl _) _) (hc j hj i v hv))
  change Calls Tryz.prog 47 _ _ _ at hcon
  rw [List.take_of_length_le (by omega)] at hcon
  have Hr := Lib.hid (all_not_die zs)
  have Hc := Lib.hid hcon
  clear hc hcon
  go_enter Tryz.func38, Tryz.ntmps38
  go_wp2_with (go_at_call 47; refine (Hc.out).mono ?_; rintro e w' ⟨rfl, hb⟩; have HB := Lib.hid hb; clear hb)
  go_ret
  exact ⟨by rw [← Hr.out]; simp, ((Below.refl _ w).alloc (Nat.le_refl _) _).trans (HB.out.mono (by simp))⟩

def impl_IsPool.f (l0 : List S63) : Option Bool := some (decide (1 ≤ l0.length ∧ l0.length ≤ 4) && l0.all dieOk)
theorem k63_row {w : World} {ad : Addr} {l : List S63} (h : Kd.C k63 w (some ad) l.length l) (hn : 0 < l.length) :
    ad = ⟨ad.block, ad.off, none⟩ ∧ ad.block < w.heap.size ∧ ∀ j, j < l.length → ∀ i v, (dieRow l[j]!)[i]? = some v → w.cell? ⟨ad.block, ad.off + j * 6 + i, none⟩ = some v := by
  have hcell : ∀ j, j < l.length → ∀ i v, (dieRow l[j]!)[i]? = some v → w.cell? (ad.add (j * 6 + i)) = some v := by
    intro j hj i v hv
    obtain ⟨ad', c, he, _, hK, hc⟩ := Kd.C_get h z63 (j : Int) (by omega) (by omega)
    injection he with he
    subst he
    obtain rfl := k63_open hK
    have : l.getD (j : Int).toNat z63 = l[j]! := by simp [List.getD_eq_getElem?_getD, hj]
    rw [this] at hc
    exact hc i v hv
  have h0 := hcell 0 hn 0 _ rfl
  have hs : ad = ⟨ad.block, ad.off, none⟩ := by
    have : (0 : Nat) * 6 + 0 = 0 := rfl
    rw [this] at h0
    have ha : ad.add 0 = ad := rfl
    rw [ha] at h0
    unfold World.cell? at h0
    obtain ⟨b, o, s⟩ := ad
    cases s with
    | none => rfl
    | some s => simp at h0; split at h0 <;> simp at h0
  refine ⟨hs, Kd.C_lt h hn (by decide), fun j hj i v hv => ?_⟩
  have := hcell j hj i v hv
  rw [hs] at this
  by_cases hz : j * 6 + i = 0
  · rw [hz] at this
    have e : ad.off + j * 6 + i = ad.off := by omega
    rw [e]
    exact this
  · rw [show (Addr.mk ad.block ad.off none).add (j * 6 + i) = ⟨ad.block, ad.off + (j * 6 + i), none⟩ by unfold Addr.add; rw [if_neg hz], ← Nat.add_assoc] at this
    exact this
set_option maxHeartbeats 2000000 in
theorem impl_IsPool.calls (A0 : Option Addr) (c0 : Nat) (l0 : List S63) (r : Bool) (w : World) (hr0 : Kd.C k63 w A0 l0.length l0) (hc0 : l0.length ≤ c0) (h : impl_IsPool.f l0 = some r) :
    Calls Tryz.prog 27 #[.slice A0 l0.length c0] w fun e w' => e = .returned (.bool r) ∧ Below w.heap.size w w' := by
  simp only [impl_IsPool.f, Option.some.injEq] at h
  subst h
  have hin := fun W => within_own (l0.length : Int) 1 4 W
  have hd : decide ((1 : Int) ≤ (l0.length : Int) ∧ (l0.length : Int) ≤ 4) = decide (1 ≤ l0.length ∧ l0.length ≤ 4) := decide_eq_decide.mpr (by omega)
  rw [hd] at hin
  by_cases hn : 1 ≤ l0.length ∧ l0.length ≤ 4
  · rw [decide_eq_true hn] at hin ⊢
    obtain ⟨ad, rfl, -⟩ := hr0.2.2 (by omega)
    obtain ⟨hs, hlt, hc⟩ := k63_row hr0 (by omega)
    have hall := fun (W : World) (hb : Below w.heap.size w W) => areAll_die ad.block ad.off l0.length c0 l0 W rfl (by omega) (Nat.lt_of_lt_of_le hlt hb.size) (fun j hj i v hv => pw_cell_below hb (hc j hj i v hv))
    rw [← hs] at hall
    generalize l0.all dieOk = r at hall ⊢
    have Hi := Lib.hid hin
    have Ha := Lib.hid hall
    clear hr0 hin hd hall hs hc hn
    go_enter Tryz.func27, Tryz.ntmps27
    go_wp2_with (first | (go_at_call 28; refine (Hi.out _).mono ?_; rintro e w2 ⟨rfl, q, rfl⟩) | (go_at_call 38; refine (Ha.out _ (pw_below_drewN (Below.refl _ w) _)).mono ?_; rintro e w3 ⟨rfl, hb⟩; have HB := Lib.hid hb; clear hb))
    go_ret
    exact ⟨by simp, (pw_below_drewN (Below.refl _ w) _).trans (HB.out.mono (by simp))⟩
  · rw [decide_eq_false hn] at hin ⊢
    have Hi := Lib.hid hin
    clear hr0 hin hd hn
    go_enter Tryz.func27, Tryz.ntmps27
    go_wp2_with (first | (go_at_call 28; refine (Hi.out _).mono ?_; rintro e w2 ⟨rfl, q, rfl⟩))
    go_ret
    exact ⟨by simp, pw_below_drewN (Below.refl _ w) _⟩

/-! ### spec.l12Last -/
def hasAt (l0 : List S63) (l1 : List Int) (j : Nat) : Bool := (facesOf (l0.getD j z63)).contains (l1.getD j 0)
def lastOk (l0 : List S63) (l1 : List Int) : Bool := (List.range (min l1.length l0.length)).all (hasAt l0 l1) && decide (l1.length = l0.length)
def spec_l12Last.f (l0 : List S63) (l1 : List Int) : Option Bool := some (decide (l1.length = 0) || lastOk l0 l1)
theorem has_f (l : List Int) (x : Int) (hl : l.length ≤ 1000) : ∀ m i : Nat, i + m = l.length → spec_l1Has.l0 (m + 1) l x (i : Int) = some ((l.drop i).contains x)
  | 0, i, h => by
    have : ¬ (i : Int) < (l.length : Int) := by omega
    rw [spec_l1Has.l0, if_neg this, List.drop_of_length_le (by omega)]
    rfl
  | m + 1, i, h => by
    have h1 : (i : Int) < (l.length : Int) := by omega
    have h2 : wrap64 ((i : Int) + 1) = ((i + 1 : Nat) : Int) := by unfold wrap64; omega
    have hi : i < l.length := by omega
    have hr : rd l (i : Int) = l[i] := by simp [rd, List.getD_eq_getElem?_getD, hi]
    rw [spec_l1Has.l0, if_pos h1, if_pos (by omega), h2, has_f l x hl m (i + 1) (by omega), hr]
    have hdr := List.drop_eq_getElem_cons hi
    by_cases hx : l[i] = x
    · rw [if_pos hx, hdr]; simp [hx]
    · rw [if_neg hx, hdr]
      have : (x == l[i]) = false := by simpa using fun e => hx e.symm
      rw [List.contains_cons, this, Bool.false_or]
theorem has_own (b off c : Nat) (l : List Int) (x : Int) (w : World) (hl : l.length ≤ 1000) (hlc : l.length ≤ c) (hc : ∀ j, j < l.length → w.cell? ⟨b, off + j, none⟩ = some (.int .i64 l[j]!)) :
    Calls Tryz.prog 34 #[.slice (some ⟨b, off, none⟩) l.length c, .int .i64 x] w fun e w' => e = .returned (.bool (l.contains x)) ∧ ∃ k, w' = w.drewN k := by
  refine (spec_l1Has.calls (l.length + 1) (some ⟨b, off, none⟩) c l x (l.contains x) w ?_ hlc ?_).mono fun e w' hh => ⟨hh.1, ?_⟩
  · refine ⟨rfl, by omega, fun hn => ⟨_, rfl, fun j p hj => ⟨[.int .i64 p], rfl, rfl, fun i u hu => ?_⟩⟩⟩
    obtain ⟨hl, hp⟩ := List.getElem?_eq_some_iff.1 hj
    obtain ⟨hi, hq⟩ := List.getElem?_eq_some_iff.1 hu
    have hi0 : i = 0 := by simpa using hi
    subst hi0
    have hcj := hc j hl
    have e1 : l[j]! = p := by simp [hl, hp]
    rw [e1] at hcj
    have : (Addr.mk b off none).add (j * 1 + 0) = ⟨b, off + j, none⟩ := by
      unfold Addr.add
      by_cases hz : j * 1 + 0 = 0
      · rw [if_pos hz]; have : j = 0 := by omega
        subst this; rfl
      · rw [if_neg hz]; simp
    have hg : w.cell? ((Addr.mk b off none).add (j * 1 + 0)) = some u := by rw [this, hcj, ← hq]; rfl
    exact hg
  · exact has_f l x hl l.length 0 (by omega)
  · obtain ⟨k, hk⟩ := hh.2
    exact ⟨k, hk⟩

theorem lastOk_iff (l0 : List S63) (l1 : List Int) : lastOk l0 l1 = true ↔ (∀ j, j < l1.length → j < l0.length → hasAt l0 l1 j = true) ∧ l1.length = l0.length := by
  simp only [lastOk, Bool.and_eq_true, List.all_eq_true, List.mem_range, decide_eq_true_eq]
  exact ⟨fun h => ⟨fun j h1 h2 => h.1 j (by omega), h.2⟩, fun h => ⟨fun j hj => h.1 j (by omega) (by omega), h.2⟩⟩
set_option maxRecDepth 100000 in
set_option maxHeartbeats 4000000 in
theorem spec_l12Last.calls (A0 : Option Addr) (c0 : Nat) (l0 : List S63) (A1 : Option Addr) (c1 : Nat) (l1 : List Int) (r : Bool) (w : World) (hr0 : Kd.C k63 w A0 l0.length l0) (hc0 : l0.length ≤ c0) (hr1 : Kd.C (Kd.int .i64) w A1 l1.length l1) (hc1 : l1.length ≤ c1) (h : spec_l12Last.f l0 l1 = some r) :
    Calls Tryz.prog 23 #[.slice A0 l0.length c0, .slice A1 l1.length c1] w fun e w' => e = .returned (.bool r) ∧ Below w.heap.size w w' := by
  simp only [spec_l12Last.f, Option.some.injEq] at h
  have hu := Tryz.underlying63
  have hb0 : (l0.length : Int) ≤ 9223372036854775807 := by have := hr0.2.1; omega
  have hb1 : (l1.length : Int) ≤ 9223372036854775807 := by have := hr1.2.1; omega
  by_cases hz : l1.length = 0
  · have hr : r = true := by rw [← h, hz]; simp
    subst hr
    have hz' : (l1.length : Int) = 0 := by omega
    clear h hr0 hr1 hb0 hb1 hc0 hc1 hu
    go_enter Tryz.func23, Tryz.ntmps23
    go_wp2
    go_ret
    exact ⟨rfl, Below.refl _ _⟩
  · have hr : lastOk l0 l1 = r := by rw [← h, decide_eq_false hz, Bool.false_or]
    clear h
    have hz' : ((l1.length : Int) == 0) = false := beq_eq_false_iff_ne.mpr (by omega)
    have HR := Aside0.mk (And.intro hr (And.intro hb0 (And.intro hb1 (And.intro hr0 (And.intro hr1 (And.intro hc0 hc1))))))
    clear hr hb0 hb1 hr0 hr1 hc0 hc1 hz
    go_enter Tryz.func23, Tryz.ntmps23
    go_wp2
    go_loopw [5] (fun v5 wr => ∃ x : Int, v5 = .int .i64 x ∧ Aside0 (0 ≤ x ∧ x ≤ l1.length ∧ ∀ j : Nat, (j : Int) < x → j < l1.length → j < l0.length → hasAt l0 l1 j = true) ∧ ∃ k, wr = w.drewN k)
      (fun v5 wr => match v5 with | .int _ x => (l1.length - x).toNat | _ => 0)
    case atStart => exact ⟨0, rfl, ⟨by omega, by omega, fun j hj => by omega⟩, 0, rfl⟩
    case round =>
      obtain ⟨x, rfl, HX, k, rfl⟩ := hrel
      by_cases d1 : x < (l1.length : Int)
      · by_cases d2 : x < (l0.length : Int)
        · have hx0 := HX.out.1
          have p1 : decide (x < (l1.length : Int)) = true := decide_eq_true d1
          have p2 : decide (x < (l0.length : Int)) = true := decide_eq_true d2
          have p3 : decide (0 ≤ x) = true := decide_eq_true HX.out.1
          have q3 : (0 ≤ x) = True := eq_true HX.out.1
          have q1 : (x < (l1.length : Int)) = True := eq_true d1
          have q2 : (x < (l0.length : Int)) = True := eq_true d2
          obtain ⟨ad1, e1, hx1⟩ := Kd.at_int HR.out.2.2.2.2.1 x HX.out.1 d1
          have hq := HR.out.2.2.2.1
          obtain ⟨ad0, e0, -⟩ := at_T63 hq x HX.out.1 d2
          rw [e0] at hq
          obtain ⟨hs, -, hcs⟩ := k63_row hq (by omega)
          cases e1
          cases e0
          have hcon : ∀ K, Calls Tryz.prog 34 #[.slice (some ⟨ad0.block, ad0.off + x.toNat * 6, none⟩) 6 6, .int .i64 (rd l1 x)] (w.drewN K) fun e w' => e = .returned (.bool (hasAt l0 l1 x.toNat)) ∧ ∃ k, w' = (w.drewN K).drewN k := fun K => by
            have hl : x.toNat < l0.length := by omega
            have he : l0.getD x.toNat z63 = l0[x.toNat]! := by simp [List.getD_eq_getElem?_getD, hl]
            refine has_own ad0.block (ad0.off + x.toNat * 6) 6 (facesOf (l0.getD x.toNat z63)) (rd l1 x) (w.drewN K) (by simp [facesOf]) (by simp [facesOf]) (fun j hj => ?_)
            rw [he] at hj ⊢
            have hj' : j = 0 ∨ j = 1 ∨ j = 2 ∨ j = 3 ∨ j = 4 ∨ j = 5 := by simp [facesOf] at hj; omega
            have := hcs x.toNat hl j (.int .i64 (facesOf l0[x.toNat]!)[j]!) (by rcases hj' with rfl | rfl | rfl | rfl | rfl | rfl <;> rfl)
            simpa using this
          have had : ad0.add (x.toNat * 6) = ⟨ad0.block, ad0.off + x.toNat * 6, none⟩ := by
            rw [hs]; unfold Addr.add
            by_cases hz : x.toNat * 6 = 0
            · rw [if_pos hz]; simp [hz]
            · rw [if_neg hz]
          have hwr : wrap64 (x + 1) = x + 1 := by have := HR.out.2.2.1; unfold wrap64; omega
          clear hq hcs hs hx0
          cases hh : hasAt l0 l1 x.toNat
          · have HP := Aside0.mk (And.intro hh (And.intro d1 d2))
            rw [hh] at hcon
            have HC := Aside0.mk hcon
            clear hh hcon d1 d2
            go_wp2
            go_quiet (first | (go_at_call 34; exact (HC.out _).mono fun e w2 hh => ⟨hh.1, hh.2.elim fun k_ hw => ⟨_, hw.trans ((drewN_two _ _ _).trans (congrArg w.drewN (Nat.add_assoc _ _ _)))⟩⟩))
            all_goals go_wp2
            refine bodyPost_ret (results_tmp rfl _ _ _) rfl ?_
            refine ⟨?_, pw_below_drewN (pw_below_drewN (Below.refl _ w) _) _⟩
            have hn : ¬ lastOk l0 l1 = true := fun ho => by
              have := ((lastOk_iff l0 l1).1 ho).1 x.toNat (by have := HP.out.2.1; have := HX.out.1; omega) (by have := HP.out.2.2; have := HX.out.1; omega)
              rw [HP.out.1] at this
              cases this
            rw [← HR.out.1, Bool.eq_false_iff.mpr hn]
            rfl
          · have HP := Aside0.mk (And.intro hh (And.intro d1 d2))
            rw [hh] at hcon
            have HC := Aside0.mk hcon
            clear hh hcon d1 d2
            go_wp2
            go_quiet (first | (go_at_call 34; exact (HC.out _).mono fun e w2 hh => ⟨hh.1, hh.2.elim fun k_ hw => ⟨_, hw.trans ((drewN_two _ _ _).trans (congrArg w.drewN (Nat.add_assoc _ _ _)))⟩⟩))
            all_goals go_wp2
            go_roundw
            case rel =>
              refine ⟨x + 1, by rw [hwr], ⟨by have := HX.out.1; omega, by have := HP.out.2.1; omega, fun j hj h1 h2 => ?_⟩, _, by first | rfl | exact drewN_two _ _ _⟩
              by_cases he : (j : Int) = x
              · have : x.toNat = j := by omega
                rw [← this]; exact HP.out.1
              · exact HX.out.2.2 j (by omega) h1 h2
            case measure => have := HP.out.2.1; have := HX.out.1; simp [hwr]; omega
        · have p1 : decide (x < (l1.length : Int)) = true := decide_eq_true d1
          have p2 : decide (x < (l0.length : Int)) = false := decide_eq_false d2
          have HP := Aside0.mk (And.intro d1 d2)
          clear d1 d2
          go_wp2
          refine bodyPost_ret (results_tmp rfl _ _ _) rfl ?_
          refine ⟨?_, pw_below_drewN (Below.refl _ w) _⟩
          have hn : ¬ lastOk l0 l1 = true := fun ho => by have := ((lastOk_iff l0 l1).1 ho).2; have := HP.out; omega
          have he : ((l1.length : Int) == (l0.length : Int)) = false := beq_eq_false_iff_ne.mpr (by have := HP.out; omega)
          rw [← HR.out.1, Bool.eq_false_iff.mpr hn]
          simp only [he]
          rfl
      · have p1 : decide (x < (l1.length : Int)) = false := decide_eq_false d1
        have HP := Aside0.mk d1
        clear d1
        go_wp2
        refine bodyPost_ret (results_tmp rfl _ _ _) rfl ?_
        refine ⟨?_, pw_below_drewN (Below.refl _ w) _⟩
        have he : ((l1.length : Int) == (l0.length : Int)) = lastOk l0 l1 := by
          rw [Bool.eq_iff_iff, lastOk_iff, beq_iff_eq]
          exact ⟨fun h => ⟨fun j h1 h2 => HX.out.2.2 j (by have := HP.out; omega) h1 h2, by omega⟩, fun h => by omega⟩
        rw [← HR.out.1, ← he]
        rfl
