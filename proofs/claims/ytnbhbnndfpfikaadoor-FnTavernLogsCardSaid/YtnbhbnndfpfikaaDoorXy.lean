/- FnTavernLogs: the law's body, called with any bytes. -/
import Derived.Test.YtnbhbnndfpfikaaDoorXx
import Derived.Deep.RegionWith
import Derived.Deep.DrawnRows
import Derived.Deep.RegionHeld3
namespace Go.Proofs.YtnbhbnndfpfikaaDoor.X
open Go.RowKit Go.Proofs.YtnbhbnndfpfikaaDoorW.PrintWords Go.Proofs.YtnbhbnndfpfikaaDoorW.PrintLast Go.Proofs.YtnbhbnndfpfikaaDoorW.PrintMore
set_option linter.unusedVariables false
set_option linter.unusedSimpArgs false
attribute [local go_sem ↓] Go.wp_at_zero Go.wp_at_succ
theorem Ev.get {α : Type} {f : Nat → Option α} {r : α} (h : Ev f r) : ∃ k, f k = Option.some r := h.elim fun K hK => ⟨K, hK K (Nat.le_refl _)⟩
structure Now (w : World) (P : World → Prop) : Prop where
  out : ∀ w', Below w.heap.size w w' → P w'
theorem Now.here {w : World} {P : World → Prop} (h : Now w P) : P w := h.out w (qO _ _)
theorem Now.step {w w1 : World} {P : World → Prop} (h : Now w P) (hb : Below w.heap.size w w1) : Now w1 P := ⟨fun w' h' => h.out w' (hb.trans (h'.mono hb.size))⟩
theorem Now.bel {w W w1 : World} {P : World → Prop} (_ : Now w P) (h1 : Below w.heap.size w W) (h2 : Below W.heap.size W w1) : Below w.heap.size w w1 := h1.trans (h2.mono h1.size)
theorem Now.and {w : World} {P Q : World → Prop} (h : Now w P) (k : Now w Q) : Now w (fun W => P W ∧ Q W) := ⟨fun W hb => ⟨h.out W hb, k.out W hb⟩⟩
theorem Now.alloc1 {w : World} {P : World → Prop} (h : Now w P) : ∀ o, P (w.alloc o) := fun o => h.out _ ((qO _ w).alloc (Nat.le_refl _) o)
theorem Now.alloc2 {w : World} {P : World → Prop} (h : Now w P) : ∀ o p, P ((w.alloc o).alloc p) := fun o p => h.out _ (((qO _ w).alloc (Nat.le_refl _) o).alloc (by simp) p)
theorem cell_old {w w1 : World} {a : Addr} {v : Option Value} (hb : Below w.heap.size w w1) (ha : a.block < w.heap.size) (h : w.cell? a = v) : w1.cell? a = v := (hb.cell (p := a) ha).trans h
theorem box1 {w w1 : World} {cs : Array Value} {t : TypeId} (hb : Below (w.alloc (.cells cs t)).heap.size (w.alloc (.cells cs t)) w1) :
    Now w1 (fun W => W.cell? ⟨w.heap.size, 0, none⟩ = cs[0]? ∧ W.cell? ⟨w.heap.size, 1, none⟩ = cs[1]? ∧ W.cell? ⟨w.heap.size, 2, none⟩ = cs[2]?) :=
  ⟨fun W h => by
    have h2 := hb.trans (h.mono hb.size)
    have hs : w.heap.size < (w.alloc (.cells cs t)).heap.size := by simp
    exact ⟨cell_old h2 hs (zJ (blk_new _ _) 0), cell_old h2 hs (zJ (blk_new _ _) 1), cell_old h2 hs (zJ (blk_new _ _) 2)⟩⟩
theorem box2 {w w1 : World} {cs ds : Array Value} {t u : TypeId} (hb : Below ((w.alloc (.cells cs t)).alloc (.cells ds u)).heap.size ((w.alloc (.cells cs t)).alloc (.cells ds u)) w1) :
    Now w1 (fun W => (W.cell? ⟨w.heap.size, 0, none⟩ = cs[0]? ∧ W.cell? ⟨w.heap.size, 1, none⟩ = cs[1]? ∧ W.cell? ⟨w.heap.size, 2, none⟩ = cs[2]?) ∧ W.cell? ⟨w.heap.size + 1, 0, none⟩ = ds[0]? ∧ W.cell? ⟨w.heap.size + 1, 1, none⟩ = ds[1]? ∧ W.cell? ⟨w.heap.size + 1, 2, none⟩ = ds[2]?) := by
  have h1 := box1 hb
  rw [World.size_alloc] at h1
  have hb0 : Below (w.alloc (.cells cs t)).heap.size (w.alloc (.cells cs t)) w1 := ((qO _ (w.alloc (.cells cs t))).alloc (Nat.le_refl _) _).trans (hb.mono (by simp))
  exact (box1 hb0).and h1
theorem Now.right {w : World} {P Q : World → Prop} (h : Now w (fun W => P W ∧ Q W)) : Now w Q := ⟨fun W hb => (h.out W hb).2⟩
theorem now_list {w : World} {A : Option Addr} {l : List S} (h : Kd.C k36 w A l.length l) : Now w (fun W => Kd.C k36 W A l.length l) := ⟨fun _ hb => Kd.C_below h hb⟩
theorem now_take {w : World} {A : Option Addr} {l m : List S} (h : Now w (fun W => Kd.C k36 W A l.length l)) (hm : m.length ≤ l.length ∧ m = l.take m.length) : Now w (fun W => Kd.C k36 W A m.length m) :=
  ⟨fun W hb => by
    have := Kd.C_take (h.out W hb) hm.1
    rw [← hm.2] at this
    exact this⟩
theorem now_at {w : World} {A : Option Addr} {l m : List S} {g : S} (h : Now w (fun W => Kd.C k36 W A m.length m)) (hm : m = l ++ [g]) :
    ∃ ad, A = some ad ∧ Now w (fun W => W.cell? (ad.add (l.length * 2)) = some (.string g.f0) ∧ W.cell? ⟨(ad.add (l.length * 2)).block, (ad.add (l.length * 2)).off + 1, none⟩ = some (.string g.f1)) := by
  subst hm
  obtain ⟨ad, e, -⟩ := at_T36 h.here (l.length : Int) (by omega) (by rw [List.length_append, List.length_singleton]; omega)
  refine ⟨ad, e, ⟨fun W hb => ?_⟩⟩
  obtain ⟨ad', e', h1, h2⟩ := at_T36 (h.out W hb) (l.length : Int) (by omega) (by rw [List.length_append, List.length_singleton]; omega)
  rw [e] at e'
  cases e'
  have hr : rd_T36 (l ++ [g]) (l.length : Int) = g := by simp [rd_T36]
  rw [hr, Int.toNat_natCast] at h1 h2
  exact ⟨h1, h2⟩
theorem below0 {W : World} {f : FuncId} {args : Array Value} {v : Value} (h : Calls Tryd.prog f args W fun e w' => e = .returned v ∧ Drawn0 W w') :
    Calls Tryd.prog f args W fun e w' => e = .returned v ∧ Below W.heap.size W w' := h.mono fun e w' hh => ⟨hh.1, Drawn0.below hh.2⟩
theorem lists {W : World} {f : FuncId} {args : Array Value} {b : Bool} {l : List S} (h : Calls Tryd.prog f args W fun e w' => ∃ v0_ : Value, e = .returned (.tuple #[v0_, .bool b]) ∧ Kd.R k36 36 w' W.heap.size (fun _ => True) v0_ l ∧ Below W.heap.size W w') :
    Calls Tryd.prog f args W fun e w' => ∃ A c, e = .returned (.tuple #[.slice A l.length c, .bool b]) ∧ l.length ≤ c ∧ Kd.C k36 w' A l.length l ∧ Below W.heap.size W w' := h.mono fun e w' hh => by
  obtain ⟨v0, he, hR, hb⟩ := hh
  obtain ⟨A, c, rfl, hl, hC⟩ := Kd.R_reads hR
  exact ⟨A, c, he, hl, hC, hb⟩
section
variable {A0 : Option Addr} {c0 : Nat} {l0 : List Int} {w : World}
theorem cuts (hr0 : Kd.C (Kd.int .u8) w A0 l0.length l0) (hc0 : l0.length ≤ c0) (i : Nat) (hi : i ≤ 100) (W : World) (hW : Below w.heap.size w W) :
    Calls Tryd.prog 37 #[.slice A0 l0.length c0, .int .i64 (i : Int)] W fun e w' => ∃ A c, e = .returned (.slice A (l0.drop (min i l0.length)).length c) ∧ (l0.drop (min i l0.length)).length ≤ c ∧ Kd.C (Kd.int .u8) w' A (l0.drop (min i l0.length)).length (l0.drop (min i l0.length)) ∧ Below W.heap.size W w' := by
  refine (laws_rCut.calls (fun k => k < W.heap.size) A0 c0 l0 (i : Int) (l0.drop (min i l0.length)) W (Kd.V_mk hc0 (Kd.C_F (Kd.heap_int .u8) (Kd.C_below hr0 hW))) (rCut_eq l0 i hi)).mono fun e w' hh => ?_
  obtain ⟨v0, he, hV, hb⟩ := hh
  obtain ⟨A, c, rfl⟩ := Kd.V_slice hV
  obtain ⟨-, hl, hC⟩ := Kd.V_reads' hV
  exact ⟨A, c, he, hl, hC, hb⟩
end
set_option maxRecDepth 100000 in
set_option maxHeartbeats 16000000 in
theorem laws_FnTavernLogs.calls (A0 : Option Addr) (c0 : Nat) (l0 : List Int) (w : World) (hG : Glob w) (hr0 : Kd.C (Kd.int .u8) w A0 l0.length l0) (hc0 : l0.length ≤ c0) (hb : Bytes l0) :
    Calls Tryd.prog 7 #[.slice A0 l0.length c0] w fun e w' => e = .returned (.bool true) ∧ Below w.heap.size w w' := by
  have HB : Now w (fun W => Below w.heap.size w W) := ⟨fun _ h => h⟩
  have HK : Now w (fun _ => True) := ⟨fun _ _ => trivial⟩
  have hC : ∀ W, Below w.heap.size w W → Kd.C (Kd.int .u8) W A0 l0.length l0 := fun W h => Kd.C_below hr0 h
  by_cases hbig : l0.length ≤ 65536
  case neg =>
    have h0 := Lib.hid (fun W (hW : Below w.heap.size w W) => below0 (laws_rBig.calls A0 c0 l0 true W (hC W hW) hc0 (by unfold laws_rBig.f; rw [qE (by omega)])))
    clear hG hr0 hC hb hbig
    go_enter Tryd.func7, Tryd.ntmps7
    go_wp2_with (go_at_call 34; with_reducible refine (h0.out _ HB.here).mono ?_; rintro e w1 ⟨rfl, hb⟩; have HB2 := HB.step hb; clear HB; have HB := HB2; clear HB2; clear hb)
    go_ret
    exact ⟨rfl, HB.here⟩
  have h0 := Lib.hid (fun W (hW : Below w.heap.size w W) => below0 (laws_rBig.calls A0 c0 l0 false W (hC W hW) hc0 (by unfold laws_rBig.f; rw [qG (by omega)])))
  have sub : ∀ i, Bytes (l0.drop (min i l0.length)) := fun i b hb' => hb b (List.mem_of_mem_drop hb')
  have kcut1 : ∀ W, Below w.heap.size w W → Calls Tryd.prog 37 #[.slice A0 l0.length c0, .int .i64 1] W fun e w' => ∃ A c, e = .returned (.slice A (l0.drop (min 1 l0.length)).length c) ∧ (l0.drop (min 1 l0.length)).length ≤ c ∧ Kd.C (Kd.int .u8) w' A (l0.drop (min 1 l0.length)).length (l0.drop (min 1 l0.length)) ∧ Below W.heap.size W w' := fun W hW => cuts hr0 hc0 1 (by decide) W hW
  have hcut1 := Lib.hid kcut1
  clear kcut1
  have kcut2 : ∀ W, Below w.heap.size w W → Calls Tryd.prog 37 #[.slice A0 l0.length c0, .int .i64 2] W fun e w' => ∃ A c, e = .returned (.slice A (l0.drop (min 2 l0.length)).length c) ∧ (l0.drop (min 2 l0.length)).length ≤ c ∧ Kd.C (Kd.int .u8) w' A (l0.drop (min 2 l0.length)).length (l0.drop (min 2 l0.length)) ∧ Below W.heap.size W w' := fun W hW => cuts hr0 hc0 2 (by decide) W hW
  have hcut2 := Lib.hid kcut2
  clear kcut2
  have kcut3 : ∀ W, Below w.heap.size w W → Calls Tryd.prog 37 #[.slice A0 l0.length c0, .int .i64 3] W fun e w' => ∃ A c, e = .returned (.slice A (l0.drop (min 3 l0.length)).length c) ∧ (l0.drop (min 3 l0.length)).length ≤ c ∧ Kd.C (Kd.int .u8) w' A (l0.drop (min 3 l0.length)).length (l0.drop (min 3 l0.length)) ∧ Below W.heap.size W w' := fun W hW => cuts hr0 hc0 3 (by decide) W hW
  have hcut3 := Lib.hid kcut3
  clear kcut3
  have kcut4 : ∀ W, Below w.heap.size w W → Calls Tryd.prog 37 #[.slice A0 l0.length c0, .int .i64 4] W fun e w' => ∃ A c, e = .returned (.slice A (l0.drop (min 4 l0.length)).length c) ∧ (l0.drop (min 4 l0.length)).length ≤ c ∧ Kd.C (Kd.int .u8) w' A (l0.drop (min 4 l0.length)).length (l0.drop (min 4 l0.length)) ∧ Below W.heap.size W w' := fun W hW => cuts hr0 hc0 4 (by decide) W hW
  have hcut4 := Lib.hid kcut4
  clear kcut4
  have s1 := sub 1
  have s2 := sub 2
  have s3 := sub 3
  have s4 := sub 4
  generalize l0.drop (min 1 l0.length) = l1 at hcut1 s1
  generalize l0.drop (min 2 l0.length) = l2 at hcut2 s2
  generalize l0.drop (min 3 l0.length) = l3 at hcut3 s3
  generalize l0.drop (min 4 l0.length) = l4 at hcut4 s4
  obtain ⟨ec, er, ee, hec, her⟩ := drawValid l0 hb
  obtain ⟨kn, fc, fr, ef, hk0, hk1, hfc, hfr⟩ := drawEncode l1 s1
  obtain ⟨D, P, n, gc, gr_, Em, hm, hgc, hgr⟩ := drawAppend l2 s2
  obtain ⟨E, Q, q, keep, torn, El, hl, hkp0, hkp1⟩ := drawCrash l3 s3
  obtain ⟨text, Et, ht⟩ := drawRecover l4 s4
  obtain ⟨k2, Em⟩ := Em.get
  obtain ⟨k3, El⟩ := El.get
  obtain ⟨k4, Et⟩ := Et.get
  have hd0 := Lib.hid (fun W (hW : Below w.heap.size w W) => spec_DrawIsValidRecord.calls A0 c0 l0 ec er W (hC W hW) hc0 ee)
  have hd1 := Lib.hid (fun A c W (h : l1.length ≤ c ∧ Kd.C (Kd.int .u8) W A l1.length l1) (_ : Below w.heap.size w W) => spec_DrawEncodeRecord.calls A c l1 kn fc fr W h.2 h.1 ef)
  have hd2 := Lib.hid (fun A c W (h : l2.length ≤ c ∧ Kd.C (Kd.int .u8) W A l2.length l2) (_ : Below w.heap.size w W) => spec_DrawAppendRecord.calls k2 A c l2 D P n gc gr_ W h.2 h.1 Em)
  have hd3 := Lib.hid (fun A c W (h : l3.length ≤ c ∧ Kd.C (Kd.int .u8) W A l3.length l3) (_ : Below w.heap.size w W) => spec_DrawCrashLog.calls k3 A c l3 E Q q keep torn W h.2 h.1 El)
  have hd4 := Lib.hid (fun A c W (h : l4.length ≤ c ∧ Kd.C (Kd.int .u8) W A l4.length l4) (_ : Below w.heap.size w W) => spec_DrawRecoverLog.calls k4 A c l4 text W h.2 h.1 Et)
  obtain ⟨s, ok, hs⟩ : ∃ s ok, encodeV kn fc fr = (s, ok) := ⟨_, _, rfl⟩
  obtain ⟨j1, J1⟩ := (impl_EncodeRecord_ev' kn fc fr (by omega) (by omega)).get
  obtain ⟨j2, J2⟩ := (spec_EncodeRecord_ev kn fc fr (by omega) (by omega)).get
  have he1 := Lib.hid (fun W (hW : Below w.heap.size w W) => impl_EncodeRecord.calls j1 kn fc fr s ok W (hG.below hW) (by rw [J1, hs]))
  have he2 := Lib.hid (fun W (_ : Below w.heap.size w W) => spec_EncodeRecord.calls j2 kn fc fr s ok W (by rw [J2, hs]))
  obtain ⟨j3, J3⟩ := (spec_IsValidRecord_ev ec er (by omega) (by omega)).get
  have hi1 := Lib.hid (fun W (_ : Below w.heap.size w W) => impl_IsValidRecord.calls ec er (good ec er) W (impl_IsValidRecord_eq ec er (by omega) (by omega)))
  have hi2 := Lib.hid (fun W (_ : Below w.heap.size w W) => spec_IsValidRecord.calls j3 ec er (good ec er) W J3)
  generalize good ec er = vr at hi1 hi2
  obtain ⟨D1, P1, n1, st, ha⟩ : ∃ D1 P1 n1 st, appended D P n gc gr_ = (D1, P1, n1, st) := ⟨_, _, _, _, rfl⟩
  obtain ⟨j4, J4⟩ := (impl_AppendRecord_ev D P n gc gr_ (by omega) (by omega) (by omega)).get
  obtain ⟨j5, J5⟩ := (spec_AppendRecord_ev D P n gc gr_ (by omega) (by omega) (by omega)).get
  have ha1 := Lib.hid (fun W (hW : Below w.heap.size w W) => impl_AppendRecord.calls j4 D P n gc gr_ D1 P1 n1 st W (hG.below hW) (by rw [J4, ha]))
  have ha2 := Lib.hid (fun W (_ : Below w.heap.size w W) => spec_AppendRecord.calls j5 D P n gc gr_ D1 P1 n1 st W (by rw [J5, ha]))
  obtain ⟨D2, P2, n2, one, hy⟩ : ∃ D2 P2 n2 one, (if validL D P n = true then (D ++ P, (⟨#[]⟩ : ByteArray), n, true) else ((⟨#[]⟩ : ByteArray), (⟨#[]⟩ : ByteArray), 0, false)) = (D2, P2, n2, one) := ⟨_, _, _, _, rfl⟩
  obtain ⟨j6, J6⟩ := (impl_SyncLog_ev D P n (by omega)).get
  obtain ⟨j7, J7⟩ := (spec_SyncLog_ev D P n (by omega)).get
  have hs1 := Lib.hid (fun W (hW : Below w.heap.size w W) => impl_SyncLog.calls j6 D P n D2 P2 n2 one W (hG.below hW) (by rw [J6, hy]))
  have hs2 := Lib.hid (fun W (_ : Below w.heap.size w W) => spec_SyncLog.calls j7 D P n D2 P2 n2 one W (by rw [J7, hy]))
  have hone : one = validL D P n := by
    by_cases hv : validL D P n = true
    · rw [if_pos hv] at hy; simp only [Prod.mk.injEq] at hy; rw [hv]; exact hy.2.2.2.symm
    · rw [if_neg hv] at hy; simp only [Prod.mk.injEq] at hy; rw [Bool.eq_false_iff.mpr hv]; exact hy.2.2.2.symm
  have isValid : ∀ (D' P' : ByteArray) (n' : Int), D'.size + P'.size ≤ 1000000 → ∃ k, impl_IsValidLog.f k D' P' n' = some (validL D' P' n') := fun D' P' n' h => (impl_IsValidLog_ev D' P' n' (by omega)).get
  obtain ⟨j8, J8⟩ := isValid D P n (by omega)
  have hv1 := Lib.hid (fun W (hW : Below w.heap.size w W) => impl_IsValidLog.calls j8 D P n one W (hG.below hW) (by rw [J8, hone]))
  obtain ⟨la, tw, hla⟩ : ∃ la tw, recorded D P n = (la, tw) := ⟨_, _, rfl⟩
  have htw : tw = one := by have := recorded_snd D P n; rw [hla] at this; rw [hone]; exact this
  rw [htw] at hla
  clear htw
  have hl_la : la.length ≤ 1000 := by have := recorded_le D P n; rw [hla] at this; show la.length ≤ 1000; have h2 : la.length ≤ 60 := this; omega
  have recd : ∀ (D' P' : ByteArray) (n' : Int), D'.size + P'.size ≤ 1000000 → ∃ k, impl_LogRecords.f k D' P' n' = some (recorded D' P' n') := fun D' P' n' h => (impl_LogRecords_ev D' P' n' (by omega)).get
  obtain ⟨j9, J9⟩ := recd D P n (by omega)
  obtain ⟨j10, J10⟩ := (spec_LogRecords_ev D P n (by omega)).get
  have hl1 := Lib.hid (fun W (hW : Below w.heap.size w W) => lists (impl_LogRecords.calls j9 D P n la one W (hG.below hW) (by rw [J9, hla])))
  have hl2 := Lib.hid (fun W (_ : Below w.heap.size w W) => lists (spec_LogRecords.calls j10 D P n la one W (by rw [J10, hla])))
  have hRR := Lib.hid (fun (l : List S) (hl : l.length ≤ 1000) W A c B d (h1 : l.length ≤ c) (h2 : Kd.C k36 W A l.length l) (h3 : l.length ≤ d) (h4 : Kd.C k36 W B l.length l) => below0 ((rRecords_ev l hl).get.elim fun k hk => laws_rRecords.calls k A c l B d l true W h2 h1 h4 h3 hk))
  obtain ⟨left, three, hcr⟩ : ∃ left three, crashV E Q q keep torn = (left, three) := ⟨_, _, rfl⟩
  obtain ⟨j11, J11⟩ := (impl_CrashLog_ev E Q q keep torn (by omega)).get
  obtain ⟨j12, J12⟩ := (spec_CrashLog_ev E Q q keep torn (by omega)).get
  have hc1 := Lib.hid (fun W (hW : Below w.heap.size w W) => impl_CrashLog.calls j11 E Q q keep torn left three W (hG.below hW) (by rw [J11, hcr]))
  have hc2 := Lib.hid (fun W (_ : Below w.heap.size w W) => spec_CrashLog.calls j12 E Q q keep torn left three W (by rw [J12, hcr]))
  obtain ⟨t1, t2, t3, at_, four, hrv⟩ : ∃ t1 t2 t3 at_ four, recoverV text = (t1, t2, t3, at_, four) := ⟨_, _, _, _, _, rfl⟩
  obtain ⟨j13, J13⟩ := (impl_RecoverLog_ev text (by omega)).get
  obtain ⟨j14, J14⟩ := (spec_RecoverLog_ev text (by omega)).get
  have hr1 := Lib.hid (fun W (hW : Below w.heap.size w W) => impl_RecoverLog.calls j13 text t1 t2 t3 at_ four W (hG.below hW) (by rw [J13, hrv]))
  have hr2 := Lib.hid (fun W (_ : Below w.heap.size w W) => spec_RecoverLog.calls j14 text t1 t2 t3 at_ four W (by rw [J14, hrv]))
  obtain ⟨i36, hi36, -, -, -⟩ := info_parts info36
  have H4 : four = false ∨ (four = true ∧ t2 = ⟨#[]⟩ ∧ 0 ≤ at_ ∧ at_ ≤ (text.size : Int) ∧ text.extract 0 at_.toNat = t1 ∧ ∃ k, impl_IsValidLog.f k t1 t2 t3 = some true) := by
    cases four with
    | false => exact .inl rfl
    | true =>
      obtain ⟨h1, h2, h3, h4, h5, h6, h7, h8⟩ := recover_facts hrv
      obtain ⟨k, hk⟩ := isValid t1 t2 t3 (by have := (valid_iff h3).1; omega)
      exact .inr ⟨rfl, h2, h4, h5, h6, k, by rw [hk, h3]⟩
  have H3 : three = false ∨ (three = true ∧ ∃ (f1 f2 : ByteArray) (f3 f4 : Int) (lo lw : List S), (∃ k, impl_RecoverLog.f k left = some (f1, f2, f3, f4, true)) ∧ (∃ k, impl_LogRecords.f k f1 f2 f3 = some (lo, true)) ∧ (∃ k, impl_LogRecords.f k E Q q = some (lw, true)) ∧ (lo.length ≤ lw.length ∧ lo = lw.take lo.length) ∧ lo.length ≤ 1000 ∧ E.size ≤ f1.size) := by
    cases three with
    | false => exact .inl rfl
    | true =>
      obtain ⟨h1, h2, ⟨j, h3⟩, h4⟩ := crash_facts hcr
      obtain ⟨r1, r2, r3⟩ := recovered left h2
      refine .inr ⟨rfl, left.extract 0 (endOf left), ⟨#[]⟩, ((recs left).length : Int), (endOf left : Int), recs left, recs (E ++ Q), ?_, ?_, ?_, ?_, ?_, ?_⟩
      · obtain ⟨k, hk⟩ := (impl_RecoverLog_ev left (by omega)).get
        exact ⟨k, by rw [hk, recover_small h2]⟩
      · have hz := (valid_iff r3).1
        obtain ⟨k, hk⟩ := recd _ _ ((recs left).length : Int) (Nat.le_trans hz (by decide))
        exact ⟨k, by rw [hk, recorded_yes r3, app_nil, r2]⟩
      · obtain ⟨k, hk⟩ := recd E Q q (by omega)
        exact ⟨k, by rw [hk, recorded_yes h1]⟩
      · have hlen : (recs left).length = min j (recs (E ++ Q)).length := by rw [h3, List.length_take]
        refine ⟨by omega, ?_⟩
        rw [hlen, h3]
        by_cases hj : j ≤ (recs (E ++ Q)).length
        · rw [Nat.min_eq_left hj]
        · rw [Nat.min_eq_right (by omega), List.take_of_length_le (Nat.le_refl _), List.take_of_length_le (by omega)]
      · have := (recs_le left).2; omega
      · rw [ByteArray.size_extract]; omega
  have Hs : (one = false ∧ (st == 0) = false ∧ (st != 0) = true ∧ D1 = D ∧ P1 = P ∧ n1 = n) ∨ (one = true ∧ P2 = ⟨#[]⟩ ∧ (∃ k, impl_LogRecords.f k D2 P2 n2 = some (la, true)) ∧ (((st == 0) = false ∧ (st != 0) = true ∧ D1 = D ∧ P1 = P ∧ n1 = n) ∨ (st = 0 ∧ (∃ k, impl_IsValidLog.f k D1 P1 n1 = some true) ∧ ∃ k, impl_LogRecords.f k D1 P1 n1 = some (la ++ [⟨gc, gr_⟩], true)))) := by
    by_cases hv : validL D P n = true
    · have hs2' := synced hv
      rw [if_pos hv] at hy
      simp only [Prod.mk.injEq] at hy
      obtain ⟨rfl, rfl, rfl, rfl⟩ := hy
      have hz := (valid_iff hv).1
      have hrec : la = recs (D ++ P) := by rw [recorded_yes hv] at hla; exact (Prod.mk.inj hla).1.symm
      refine .inr ⟨rfl, rfl, ?_, ?_⟩
      · obtain ⟨k, hk⟩ := recd (D ++ P) ⟨#[]⟩ n (by rw [ByteArray.size_append]; show D.size + P.size + 0 ≤ _; omega)
        exact ⟨k, by rw [hk, recorded_yes hs2', app_nil, hrec]⟩
      · unfold appended at ha
        by_cases hg : validL D P n = true ∧ good gc gr_ = true
        · rw [if_pos hg] at ha
          by_cases h60 : n = 60
          · rw [if_pos h60] at ha
            simp only [Prod.mk.injEq] at ha
            obtain ⟨rfl, rfl, rfl, rfl⟩ := ha
            exact .inl ⟨by decide, by decide, rfl, rfl, rfl⟩
          · rw [if_neg h60] at ha
            have hn := valid_count hv
            have hw : wrap64 (n + 1) = n + 1 := w64 _ (by omega) (by omega)
            rw [hw] at ha
            simp only [Prod.mk.injEq] at ha
            obtain ⟨rfl, rfl, rfl, rfl⟩ := ha
            obtain ⟨h1, h2⟩ := one_more hv hg.2 h60
            have hz2 := (valid_iff h1).1
            refine .inr ⟨rfl, ?_, ?_⟩
            · obtain ⟨k, hk⟩ := isValid D (P ++ recLine n gc gr_) (n + 1) (by omega)
              exact ⟨k, by rw [hk, h1]⟩
            · obtain ⟨k, hk⟩ := recd D (P ++ recLine n gc gr_) (n + 1) (by omega)
              exact ⟨k, by rw [hk, recorded_yes h1, h2, hrec]⟩
        · rw [if_neg hg] at ha
          simp only [Prod.mk.injEq] at ha
          obtain ⟨rfl, rfl, rfl, rfl⟩ := ha
          exact .inl ⟨by decide, by decide, rfl, rfl, rfl⟩
    · rw [if_neg hv] at hy
      simp only [Prod.mk.injEq] at hy
      unfold appended at ha
      rw [if_neg (fun h => hv h.1)] at ha
      simp only [Prod.mk.injEq] at ha
      obtain ⟨rfl, rfl, rfl, rfl⟩ := ha
      exact .inl ⟨hy.2.2.2.symm, by decide, by decide, rfl, rfl, rfl⟩
  have HG := Lib.hid (fun W (hW : Below w.heap.size w W) => hG.below hW)
  clear hs J1 J2 ha J4 J5 hy J6 J7 hone J8 hla J9 J10 hcr J11 J12 hrv J13 J14 recd isValid ee ef Em El Et hec her hk0 hk1 hfc hfr hm hgc hgr hl hkp0 hkp1 ht hG hC hr0 hc0 hb hbig sub s1 s2 s3 s4 J3
  obtain ⟨gr, hgr⟩ : ∃ gr : S, gr = ⟨gc, gr_⟩ := ⟨_, rfl⟩
  have hg0 : gr.f0 = gc := by rw [hgr]
  have hg1 : gr.f1 = gr_ := by rw [hgr]
  rw [← hgr] at Hs
  clear hgr
  have HA := Lib.hid hl_la
  have HLA := HA.out
  go_enter Tryd.func7, Tryd.ntmps7
  go_upto_region 7 with ((first
    | (go_at_call 34; with_reducible refine (h0.out _ ?bq).mono ?_; (case bq => exact (HB.out _ (by repeat (first | exact qO _ _ | apply zD | apply zB | apply zC)))); rintro e w1 ⟨rfl, hb⟩)
    | (go_at_call 35; with_reducible refine (hd0.out _ ?bq).mono ?_; (case bq => exact (HB.out _ (by repeat (first | exact qO _ _ | apply zD | apply zB | apply zC)))); rintro e wR ⟨rfl, hb⟩)
    | (go_at_call 37; with_reducible refine (hcut1.out _ ?bq).mono ?_; (case bq => exact (HB.out _ (by repeat (first | exact qO _ _ | apply zD | apply zB | apply zC)))); rintro e w1 ⟨Ac, cc, rfl, hcc, hC, hb⟩; have HY := box1 hb; have HR0 := HY; have HD := Lib.hid (And.intro hcc hC); clear hcc hC)
    | (go_at_call 37; with_reducible refine (hcut2.out _ ?bq).mono ?_; (case bq => exact (HB.out _ (by repeat (first | exact qO _ _ | apply zD | apply zB | apply zC)))); rintro e w1 ⟨Ac, cc, rfl, hcc, hC, hb⟩; have HD := Lib.hid (And.intro hcc hC); clear hcc hC)
    | (go_at_call 37; with_reducible refine (hcut3.out _ ?bq).mono ?_; (case bq => exact (HB.out _ (by repeat (first | exact qO _ _ | apply zD | apply zB | apply zC)))); rintro e w1 ⟨Ac, cc, rfl, hcc, hC, hb⟩; have HD := Lib.hid (And.intro hcc hC); clear hcc hC)
    | (go_at_call 37; with_reducible refine (hcut4.out _ ?bq).mono ?_; (case bq => exact (HB.out _ (by repeat (first | exact qO _ _ | apply zD | apply zB | apply zC)))); rintro e w1 ⟨Ac, cc, rfl, hcc, hC, hb⟩; have HD := Lib.hid (And.intro hcc hC); clear hcc hC)
    | (go_at_call 36; with_reducible refine (hd1.out _ _ _ HC.out ?bq).mono ?_; (case bq => exact HB.here); rintro e w1 ⟨rfl, hb⟩)
    | (go_at_call 42; with_reducible refine (hd2.out _ _ _ HC.out ?bq).mono ?_; (case bq => exact HB.here); rintro e wA ⟨rfl, hb⟩)
    | (go_at_call 45; with_reducible refine (hd3.out _ _ _ HC.out ?bq).mono ?_; (case bq => exact HB.here); rintro e w1 ⟨rfl, hb⟩)
    | (go_at_call 48; with_reducible refine (hd4.out _ _ _ HC.out ?bq).mono ?_; (case bq => exact HB.here); rintro e w1 ⟨rfl, hb⟩)
    | (go_at_call 38; with_reducible refine (he1.out _ ?bq).mono ?_; (case bq => exact (HB.out _ (by repeat (first | exact qO _ _ | apply zD | apply zB | apply zC)))); rintro e w1 ⟨rfl, hb⟩; have HY := box1 hb)
    | (go_at_call 39; with_reducible refine (he2.out _ ?bq).mono ?_; (case bq => exact (HB.out _ (by repeat (first | exact qO _ _ | apply zD | apply zB | apply zC)))); rintro e w1 ⟨rfl, hb⟩)
    | (go_at_call 40; with_reducible refine (hi1.out _ ?bq).mono ?_; (case bq => exact (HB.out _ (by repeat (first | exact qO _ _ | apply zD | apply zB | apply zC)))); rintro e w1 ⟨rfl, hb⟩)
    | (go_at_call 41; with_reducible refine (hi2.out _ ?bq).mono ?_; (case bq => exact (HB.out _ (by repeat (first | exact qO _ _ | apply zD | apply zB | apply zC)))); rintro e w1 ⟨rfl, hb⟩)
    | (go_at_call 16; with_reducible refine (ha1.out _ ?bq).mono ?_; (case bq => exact (HB.out _ (by repeat (first | exact qO _ _ | apply zD | apply zB | apply zC)))); rintro e wB ⟨rfl, hb⟩; have HY := box2 hb; have HR1 := HY.right)
    | (go_at_call 14; with_reducible refine (ha2.out _ ?bq).mono ?_; (case bq => exact (HB.out _ (by repeat (first | exact qO _ _ | apply zD | apply zB | apply zC)))); rintro e w1 ⟨rfl, hb⟩; have HY := box1 hb; have HR2 := HY)
    | (go_at_call 11; with_reducible refine (hs1.out _ ?bq).mono ?_; (case bq => exact (HB.out _ (by repeat (first | exact qO _ _ | apply zD | apply zB | apply zC)))); rintro e w1 ⟨rfl, hb⟩; have HY := box1 hb)
    | (go_at_call 9; with_reducible refine (hs2.out _ ?bq).mono ?_; (case bq => exact (HB.out _ (by repeat (first | exact qO _ _ | apply zD | apply zB | apply zC)))); rintro e w1 ⟨rfl, hb⟩; have HY := box1 hb)
    | (go_at_call 43; with_reducible refine (hv1.out _ ?bq).mono ?_; (case bq => exact (HB.out _ (by repeat (first | exact qO _ _ | apply zD | apply zB | apply zC)))); rintro e w1 ⟨rfl, hb⟩; have HY := box1 hb)
    | (go_at_call 18; with_reducible refine (hl1.out _ ?bq).mono ?_; (case bq => exact (HB.out _ (by repeat (first | exact qO _ _ | apply zD | apply zB | apply zC)))); rintro e w1 ⟨Aa, ca, rfl, hl, hC, hb⟩; have HNa := now_list hC; have HCa := Lib.hid hl; clear hC hl)
    | (go_at_call 17; with_reducible refine (hl2.out _ ?bq).mono ?_; (case bq => exact (HB.out _ (by repeat (first | exact qO _ _ | apply zD | apply zB | apply zC)))); rintro e w1 ⟨Ab, cb, rfl, hl, hC, hb⟩; have HNb := now_list hC; have HCb := Lib.hid hl; clear hC hl)
    | (go_at_call 44; with_reducible refine (hRR.out la HLA _ _ _ _ _ HCa.out ?bx HCb.out ?by_).mono ?_; (case bx => exact HNa.out _ (by repeat (first | exact qO _ _ | apply zD | apply zB | apply zC))); (case by_ => exact HNb.out _ (by repeat (first | exact qO _ _ | apply zD | apply zB | apply zC))); rintro e w1 ⟨rfl, hb⟩)
    | (go_at_call 46; with_reducible refine (hc1.out _ ?bq).mono ?_; (case bq => exact (HB.out _ (by repeat (first | exact qO _ _ | apply zD | apply zB | apply zC)))); rintro e w1 ⟨rfl, hb⟩; have HY := box1 hb)
    | (go_at_call 47; with_reducible refine (hc2.out _ ?bq).mono ?_; (case bq => exact (HB.out _ (by repeat (first | exact qO _ _ | apply zD | apply zB | apply zC)))); rintro e w1 ⟨rfl, hb⟩)
    | (go_at_call 49; with_reducible refine (hr1.out _ ?bq).mono ?_; (case bq => exact (HB.out _ (by repeat (first | exact qO _ _ | apply zD | apply zB | apply zC)))); rintro e wL ⟨rfl, hb⟩)
    | (go_at_call 50; with_reducible refine (hr2.out _ ?bq).mono ?_; (case bq => exact (HB.out _ (by repeat (first | exact qO _ _ | apply zD | apply zB | apply zC)))); rintro e w1 ⟨rfl, hb⟩; have HY := box1 hb; have HR5 := HY)); (have q_ := HB.bel (by repeat (first | exact qO _ _ | apply zD | apply zB | apply zC)) hb; replace HB := HB.step q_; replace HK := HK.step q_; (try replace HNa := HNa.step q_); (try replace HNb := HNb.step q_); (try replace HNo := HNo.step q_); (try replace HNw := HNw.step q_); (try replace HNg := HNg.step q_); (try replace HNm := HNm.step q_); (try replace HW := HW.step q_); (try replace HR0 := HR0.step q_); (try replace HR1 := HR1.step q_); (try replace HR2 := HR2.step q_); (try replace HR5 := HR5.step q_); (try replace HX := HX.step q_); (try (replace HK := HK.and HY; clear HY)); (try clear HC); (try (have HC := HD; clear HD)); (try clear hk hk1 hk2); have hk := HK.here; have hk1 := HK.alloc1; have hk2 := HK.alloc2; (try dsimp only at hk hk1 hk2); clear hb q_))
  have HW : Now w1 (fun W => Below w1.heap.size w1 W) := ⟨fun _ h => h⟩
  go_cut [85] (fun vs wc => vs = .bool false ∧ Aside0 (Below w1.heap.size w1 wc))
  case first =>
    as_aux_lemma =>
      have HS : Now w1 (fun w' => w'.cell? ⟨wR.heap.size, 0, none⟩ = some (.string ec) ∧ w'.cell? ⟨wR.heap.size, 1, none⟩ = some (.string er)) := ⟨fun W hb => ⟨(HR0.out W hb).1, (HR0.out W hb).2.1⟩⟩
      (try clear h0); (try clear hcut1); (try clear hcut2); (try clear hcut3); (try clear hcut4); (try clear hd0); (try clear hd1); (try clear hd2); (try clear hd3); (try clear hd4); (try clear he1); (try clear he2); (try clear ha1); (try clear ha2); (try clear hs1); (try clear hs2); (try clear hv1); (try clear hl1); (try clear hl2); (try clear hc1); (try clear hc2); (try clear hr1); (try clear hr2); (try clear hl5); (try clear hl6); (try clear HG); (try clear hr3); (try clear hl3); (try clear hl4); (try clear HR0); (try clear HR1); (try clear HR2); (try clear HR5); (try clear HX); (try clear HK); (try clear hk); (try clear hk1); (try clear hk2); (try clear HNb); (try clear HCb); (try clear hv2); (try clear hv3); (try clear hRR); (try clear HTK); (try clear HLO); (try clear H3); (try clear Hs)
      go_region_held3 (fun w' => w'.cell? ⟨wR.heap.size, 0, none⟩ = some (.string ec) ∧ w'.cell? ⟨wR.heap.size, 1, none⟩ = some (.string er)) (exact HS.out _ (by repeat (first | exact qO _ _ | apply zD | apply zB | apply zC))) (first | (go_at_call 40; with_reducible refine (hi1.out _ ?bq).mono ?_; (case bq => exact (HB.out _ (by repeat (first | exact qO _ _ | apply zD | apply zB | apply zC)))); rintro e w1 ⟨rfl, hb⟩; (try replace HW := HW.step (HB.bel (by repeat (first | exact qO _ _ | apply zD | apply zB | apply zC)) hb)); have q_ := HB.bel (by repeat (first | exact qO _ _ | apply zD | apply zB | apply zC)) hb; replace HB := HB.step q_; replace HS := HS.step q_; clear hb q_) | (go_at_call 41; with_reducible refine (hi2.out _ ?bq).mono ?_; (case bq => exact (HB.out _ (by repeat (first | exact qO _ _ | apply zD | apply zB | apply zC)))); rintro e w1 ⟨rfl, hb⟩; (try replace HW := HW.step (HB.bel (by repeat (first | exact qO _ _ | apply zD | apply zB | apply zC)) hb)); have q_ := HB.bel (by repeat (first | exact qO _ _ | apply zD | apply zB | apply zC)) hb; replace HB := HB.step q_; replace HS := HS.step q_; clear hb q_))
      all_goals (first | go_meet | (go_wp2; go_meet))
      all_goals exact ⟨rfl, ⟨HW.out _ (by repeat (first | exact qO _ _ | apply zD | apply zB | apply zC))⟩⟩
  obtain ⟨rfl, hq⟩ := hcut
  replace HB := HB.step hq.out; replace HK := HK.step hq.out; (try replace HR0 := HR0.step hq.out); (try replace HR1 := HR1.step hq.out); (try replace HR2 := HR2.step hq.out); (try replace HR5 := HR5.step hq.out);
  (try clear hk hk1 hk2); have hk := HK.here; have hk1 := HK.alloc1; have hk2 := HK.alloc2; (try dsimp only at hk hk1 hk2); clear HW hq
  as_aux_lemma =>
    go_upto_region 32 with ((first
      | (go_at_call 34; with_reducible refine (h0.out _ ?bq).mono ?_; (case bq => exact (HB.out _ (by repeat (first | exact qO _ _ | apply zD | apply zB | apply zC)))); rintro e w1 ⟨rfl, hb⟩)
      | (go_at_call 35; with_reducible refine (hd0.out _ ?bq).mono ?_; (case bq => exact (HB.out _ (by repeat (first | exact qO _ _ | apply zD | apply zB | apply zC)))); rintro e wR ⟨rfl, hb⟩)
      | (go_at_call 37; with_reducible refine (hcut1.out _ ?bq).mono ?_; (case bq => exact (HB.out _ (by repeat (first | exact qO _ _ | apply zD | apply zB | apply zC)))); rintro e w1 ⟨Ac, cc, rfl, hcc, hC, hb⟩; have HY := box1 hb; have HR0 := HY; have HD := Lib.hid (And.intro hcc hC); clear hcc hC)
      | (go_at_call 37; with_reducible refine (hcut2.out _ ?bq).mono ?_; (case bq => exact (HB.out _ (by repeat (first | exact qO _ _ | apply zD | apply zB | apply zC)))); rintro e w1 ⟨Ac, cc, rfl, hcc, hC, hb⟩; have HD := Lib.hid (And.intro hcc hC); clear hcc hC)
      | (go_at_call 37; with_reducible refine (hcut3.out _ ?bq).mono ?_; (case bq => exact (HB.out _ (by repeat (first | exact qO _ _ | apply zD | apply zB | apply zC)))); rintro e w1 ⟨Ac, cc, rfl, hcc, hC, hb⟩; have HD := Lib.hid (And.intro hcc hC); clear hcc hC)
      | (go_at_call 37; with_reducible refine (hcut4.out _ ?bq).mono ?_; (case bq => exact (HB.out _ (by repeat (first | exact qO _ _ | apply zD | apply zB | apply zC)))); rintro e w1 ⟨Ac, cc, rfl, hcc, hC, hb⟩; have HD := Lib.hid (And.intro hcc hC); clear hcc hC)
      | (go_at_call 36; with_reducible refine (hd1.out _ _ _ HC.out ?bq).mono ?_; (case bq => exact HB.here); rintro e w1 ⟨rfl, hb⟩)
      | (go_at_call 42; with_reducible refine (hd2.out _ _ _ HC.out ?bq).mono ?_; (case bq => exact HB.here); rintro e wA ⟨rfl, hb⟩)
      | (go_at_call 45; with_reducible refine (hd3.out _ _ _ HC.out ?bq).mono ?_; (case bq => exact HB.here); rintro e w1 ⟨rfl, hb⟩)
      | (go_at_call 48; with_reducible refine (hd4.out _ _ _ HC.out ?bq).mono ?_; (case bq => exact HB.here); rintro e w1 ⟨rfl, hb⟩)
      | (go_at_call 38; with_reducible refine (he1.out _ ?bq).mono ?_; (case bq => exact (HB.out _ (by repeat (first | exact qO _ _ | apply zD | apply zB | apply zC)))); rintro e w1 ⟨rfl, hb⟩; have HY := box1 hb)
      | (go_at_call 39; with_reducible refine (he2.out _ ?bq).mono ?_; (case bq => exact (HB.out _ (by repeat (first | exact qO _ _ | apply zD | apply zB | apply zC)))); rintro e w1 ⟨rfl, hb⟩)
      | (go_at_call 40; with_reducible refine (hi1.out _ ?bq).mono ?_; (case bq => exact (HB.out _ (by repeat (first | exact qO _ _ | apply zD | apply zB | apply zC)))); rintro e w1 ⟨rfl, hb⟩)
      | (go_at_call 41; with_reducible refine (hi2.out _ ?bq).mono ?_; (case bq => exact (HB.out _ (by repeat (first | exact qO _ _ | apply zD | apply zB | apply zC)))); rintro e w1 ⟨rfl, hb⟩)
      | (go_at_call 16; with_reducible refine (ha1.out _ ?bq).mono ?_; (case bq => exact (HB.out _ (by repeat (first | exact qO _ _ | apply zD | apply zB | apply zC)))); rintro e wB ⟨rfl, hb⟩; have HY := box2 hb; have HR1 := HY.right)
      | (go_at_call 14; with_reducible refine (ha2.out _ ?bq).mono ?_; (case bq => exact (HB.out _ (by repeat (first | exact qO _ _ | apply zD | apply zB | apply zC)))); rintro e w1 ⟨rfl, hb⟩; have HY := box1 hb; have HR2 := HY)
      | (go_at_call 11; with_reducible refine (hs1.out _ ?bq).mono ?_; (case bq => exact (HB.out _ (by repeat (first | exact qO _ _ | apply zD | apply zB | apply zC)))); rintro e w1 ⟨rfl, hb⟩; have HY := box1 hb)
      | (go_at_call 9; with_reducible refine (hs2.out _ ?bq).mono ?_; (case bq => exact (HB.out _ (by repeat (first | exact qO _ _ | apply zD | apply zB | apply zC)))); rintro e w1 ⟨rfl, hb⟩; have HY := box1 hb)
      | (go_at_call 43; with_reducible refine (hv1.out _ ?bq).mono ?_; (case bq => exact (HB.out _ (by repeat (first | exact qO _ _ | apply zD | apply zB | apply zC)))); rintro e w1 ⟨rfl, hb⟩; have HY := box1 hb)
      | (go_at_call 18; with_reducible refine (hl1.out _ ?bq).mono ?_; (case bq => exact (HB.out _ (by repeat (first | exact qO _ _ | apply zD | apply zB | apply zC)))); rintro e w1 ⟨Aa, ca, rfl, hl, hC, hb⟩; have HNa := now_list hC; have HCa := Lib.hid hl; clear hC hl)
      | (go_at_call 17; with_reducible refine (hl2.out _ ?bq).mono ?_; (case bq => exact (HB.out _ (by repeat (first | exact qO _ _ | apply zD | apply zB | apply zC)))); rintro e w1 ⟨Ab, cb, rfl, hl, hC, hb⟩; have HNb := now_list hC; have HCb := Lib.hid hl; clear hC hl)
      | (go_at_call 44; with_reducible refine (hRR.out la HLA _ _ _ _ _ HCa.out ?bx HCb.out ?by_).mono ?_; (case bx => exact HNa.out _ (by repeat (first | exact qO _ _ | apply zD | apply zB | apply zC))); (case by_ => exact HNb.out _ (by repeat (first | exact qO _ _ | apply zD | apply zB | apply zC))); rintro e w1 ⟨rfl, hb⟩)
      | (go_at_call 46; with_reducible refine (hc1.out _ ?bq).mono ?_; (case bq => exact (HB.out _ (by repeat (first | exact qO _ _ | apply zD | apply zB | apply zC)))); rintro e w1 ⟨rfl, hb⟩; have HY := box1 hb)
      | (go_at_call 47; with_reducible refine (hc2.out _ ?bq).mono ?_; (case bq => exact (HB.out _ (by repeat (first | exact qO _ _ | apply zD | apply zB | apply zC)))); rintro e w1 ⟨rfl, hb⟩)
      | (go_at_call 49; with_reducible refine (hr1.out _ ?bq).mono ?_; (case bq => exact (HB.out _ (by repeat (first | exact qO _ _ | apply zD | apply zB | apply zC)))); rintro e wL ⟨rfl, hb⟩)
      | (go_at_call 50; with_reducible refine (hr2.out _ ?bq).mono ?_; (case bq => exact (HB.out _ (by repeat (first | exact qO _ _ | apply zD | apply zB | apply zC)))); rintro e w1 ⟨rfl, hb⟩; have HY := box1 hb; have HR5 := HY)); (have q_ := HB.bel (by repeat (first | exact qO _ _ | apply zD | apply zB | apply zC)) hb; replace HB := HB.step q_; replace HK := HK.step q_; (try replace HNa := HNa.step q_); (try replace HNb := HNb.step q_); (try replace HNo := HNo.step q_); (try replace HNw := HNw.step q_); (try replace HNg := HNg.step q_); (try replace HNm := HNm.step q_); (try replace HW := HW.step q_); (try replace HR0 := HR0.step q_); (try replace HR1 := HR1.step q_); (try replace HR2 := HR2.step q_); (try replace HR5 := HR5.step q_); (try replace HX := HX.step q_); (try (replace HK := HK.and HY; clear HY)); (try clear HC); (try (have HC := HD; clear HD)); (try clear hk hk1 hk2); have hk := HK.here; have hk1 := HK.alloc1; have hk2 := HK.alloc2; (try dsimp only at hk hk1 hk2); clear hb q_))
    have HW : Now w1 (fun W => Below w1.heap.size w1 W) := ⟨fun _ h => h⟩
    go_cut [235] (fun vs wc => vs = .bool false ∧ Aside0 (Below w1.heap.size w1 wc))
    case first =>
      as_aux_lemma =>
        rcases H4 with rfl | ⟨rfl, rfl, ha0, ha1, htx, k5, hk5⟩
        · (try clear HS)
          go_region
          all_goals (first | go_meet | (go_wp2; go_meet))
          all_goals exact ⟨rfl, ⟨HW.out _ (by repeat (first | exact qO _ _ | apply zD | apply zB | apply zC))⟩⟩
        · have hv2 := Lib.hid (fun W (hW : Below w.heap.size w W) => impl_IsValidLog.calls k5 t1 ⟨#[]⟩ t3 true W (HG.out W hW) hk5)
          have qa0 : (0 ≤ at_) = True := eq_true ha0; have qa1 : (at_ ≤ (text.size : Int)) = True := eq_true ha1; clear hk5
          have HS : Now w1 (fun w' => w'.cell? ⟨wL.heap.size, 0, none⟩ = some (.string t1) ∧ w'.cell? ⟨wL.heap.size, 1, none⟩ = some (.string ⟨#[]⟩) ∧ w'.cell? ⟨wL.heap.size, 2, none⟩ = some (.int .i64 t3)) := ⟨fun W hb => ⟨(HR5.out W hb).1, (HR5.out W hb).2.1, (HR5.out W hb).2.2⟩⟩
          (try clear h0); (try clear hcut1); (try clear hcut2); (try clear hcut3); (try clear hcut4); (try clear hd0); (try clear hd1); (try clear hd2); (try clear hd3); (try clear hd4); (try clear he1); (try clear he2); (try clear hi1); (try clear hi2); (try clear ha1); (try clear ha2); (try clear hs1); (try clear hs2); (try clear hv1); (try clear hl1); (try clear hl2); (try clear hc1); (try clear hc2); (try clear hr1); (try clear hr2); (try clear hl5); (try clear hl6); (try clear HG); (try clear hr3); (try clear hl3); (try clear hl4); (try clear HR0); (try clear HR1); (try clear HR2); (try clear HR5); (try clear HX); (try clear HK); (try clear hk); (try clear hk1); (try clear hk2); (try clear HNb); (try clear HCb); (try clear hv3); (try clear hRR); (try clear HTK); (try clear HLO); (try clear H3); (try clear Hs)
          go_region_held3 (fun w' => w'.cell? ⟨wL.heap.size, 0, none⟩ = some (.string t1) ∧ w'.cell? ⟨wL.heap.size, 1, none⟩ = some (.string ⟨#[]⟩) ∧ w'.cell? ⟨wL.heap.size, 2, none⟩ = some (.int .i64 t3)) (exact HS.out _ (by repeat (first | exact qO _ _ | apply zD | apply zB | apply zC))) (first | (go_at_call 43; with_reducible refine (hv2.out _ ?bq).mono ?_; (case bq => exact (HB.out _ (by repeat (first | exact qO _ _ | apply zD | apply zB | apply zC)))); rintro e w1 ⟨rfl, hb⟩; (try replace HW := HW.step (HB.bel (by repeat (first | exact qO _ _ | apply zD | apply zB | apply zC)) hb)); have q_ := HB.bel (by repeat (first | exact qO _ _ | apply zD | apply zB | apply zC)) hb; replace HB := HB.step q_; replace HS := HS.step q_; clear hb q_))
          all_goals (first | go_meet | (go_wp2; go_meet))
          all_goals exact ⟨rfl, ⟨HW.out _ (by repeat (first | exact qO _ _ | apply zD | apply zB | apply zC))⟩⟩
    obtain ⟨rfl, hq⟩ := hcut
    replace HB := HB.step hq.out; replace HK := HK.step hq.out; replace HNa := HNa.step hq.out; (try replace HR0 := HR0.step hq.out); (try replace HR1 := HR1.step hq.out); (try replace HR2 := HR2.step hq.out); (try replace HR5 := HR5.step hq.out);
    (try clear hk hk1 hk2); have hk := HK.here; have hk1 := HK.alloc1; have hk2 := HK.alloc2; (try dsimp only at hk hk1 hk2); clear HW hq
    clear H4
    as_aux_lemma =>
      rcases H3 with rfl | ⟨rfl, f1, f2, f3, f4, lo, lw, ⟨k6, hk6⟩, ⟨k7, hk7⟩, ⟨k8, hk8⟩, htk, hl_lo, hEf⟩
      all_goals rcases Hs with ⟨rfl, hst1, hst2, rfl, rfl, rfl⟩ | ⟨rfl, rfl, ⟨k9, hk9⟩, ⟨hst1, hst2, rfl, rfl, rfl⟩ | ⟨rfl, ⟨k10, hk10⟩, ⟨k11, hk11⟩⟩⟩
      all_goals (try have hr3 := Lib.hid (fun W (hW : Below w.heap.size w W) => impl_RecoverLog.calls k6 left f1 f2 f3 f4 true W (HG.out W hW) hk6))
      all_goals (try have hl3 := Lib.hid (fun W (hW : Below w.heap.size w W) => lists (impl_LogRecords.calls k7 f1 f2 f3 lo true W (HG.out W hW) hk7)))
      all_goals (try have hl4 := Lib.hid (fun W (hW : Below w.heap.size w W) => lists (impl_LogRecords.calls k8 E Q q lw true W (HG.out W hW) hk8)))
      all_goals (try (have hlow2 := htk.1; have hlow : (lo.length : Int) ≤ (lw.length : Int) := (by omega); have qo1 : decide ((lw.length : Int) < (lo.length : Int)) = false := qG (by omega); have qo2 : decide ((f1.size : Int) < (E.size : Int)) = false := qG (by omega); have qo3 : (lw.length < lo.length) = False := eq_false (by omega); have qo4 : (f1.size < E.size) = False := eq_false (by omega); have qo5 : (lo.length ≤ lw.length) = True := eq_true (by omega); have qo6 : (E.size ≤ f1.size) = True := eq_true (by omega); have HTK := Lib.hid htk; have HLO := Lib.hid (And.intro hlow hlow2); clear hk6 hk7 hk8 htk hlow hlow2 hEf))
      all_goals (try have hl5 := Lib.hid (fun W (hW : Below w.heap.size w W) => lists (impl_LogRecords.calls k9 D2 ⟨#[]⟩ n2 la true W (HG.out W hW) hk9)))
      all_goals (try clear hk9)
      all_goals (try have hv3 := Lib.hid (fun W (hW : Below w.heap.size w W) => impl_IsValidLog.calls k10 D1 P1 n1 true W (HG.out W hW) hk10))
      all_goals (try (obtain ⟨lm, hlm⟩ : ∃ lm, lm = la ++ [gr] := ⟨_, rfl⟩; rw [← hlm] at hk11; have hll : lm.length = la.length + 1 := (by rw [hlm]; simp); have hl6 := Lib.hid (fun W (hW : Below w.heap.size w W) => lists (impl_LogRecords.calls k11 D1 P1 n1 lm true W (HG.out W hW) hk11)); have HTM := Lib.hid (show la.length ≤ lm.length ∧ la = lm.take la.length from ⟨by omega, by rw [hlm]; simp⟩); have qm1 : ((la.length : Int) < (lm.length : Int)) = True := eq_true (by omega); have qm2 : ((la.length : Int) ≤ (lm.length : Int)) = True := eq_true (by omega); have qm3 : wrap64 ((la.length : Int) + 1) = (lm.length : Int) := (by rw [w64 _ (by omega) (by omega)]; omega); have qm4 : IntKind.i64.wrap ((la.length : Int) + 1) = (lm.length : Int) := (by rw [IntWalk.i64_in _ (by omega)]; omega); have HLM := Lib.hid (And.intro hlm (show (la.length : Int) ≤ (lm.length : Int) by omega)); clear hk10 hk11 hlm hll))
      all_goals clear hl_la
      all_goals (have HLA := HA.out)
      all_goals
        as_aux_lemma =>
          go_wp2_with ((first
            | (go_at_call 49; with_reducible refine (hr3.out _ ?bq).mono ?_; (case bq => exact (HB.out _ (by repeat (first | exact qO _ _ | apply zD | apply zB | apply zC)))); rintro e w1 ⟨rfl, hb⟩)
            | (go_at_call 18; with_reducible refine (hl3.out _ ?bq).mono ?_; (case bq => exact (HB.out _ (by repeat (first | exact qO _ _ | apply zD | apply zB | apply zC)))); rintro e w1 ⟨Ao, co, rfl, hl, hC, hb⟩; have HNo := now_list hC; have HCo := Lib.hid hl; clear hC hl; have HY := box1 hb)
            | (go_at_call 18; with_reducible refine (hl4.out _ ?bq).mono ?_; (case bq => exact (HB.out _ (by repeat (first | exact qO _ _ | apply zD | apply zB | apply zC)))); rintro e w1 ⟨Aw, cw, rfl, hl, hC, hb⟩; have HNw0 := now_list hC; have HCw := Lib.hid hl; clear hC hl; have HNw := now_take HNw0 HTK.out; clear HNw0; have hcutw := cut_to (P := Tryd.prog) 39 36 .i64 Tryd.underlying39 hi36 Aw lw.length cw (lo.length : Int) (Int.natCast_nonneg _) HLO.out.1 HCw.out; have HCw2 := Lib.hid (Nat.le_trans HLO.out.2 HCw.out); clear HCw; have HCw := HCw2; clear HCw2)
            | (go_at_call 44; with_reducible refine (hRR.out lo hl_lo _ _ _ _ _ HCo.out ?bx HCw.out ?by_).mono ?_; (case bx => exact HNo.out _ (by repeat (first | exact qO _ _ | apply zD | apply zB | apply zC))); (case by_ => exact HNw.out _ (by repeat (first | exact qO _ _ | apply zD | apply zB | apply zC))); rintro e w1 ⟨rfl, hb⟩)
            | (go_at_call 18; with_reducible refine (hl5.out _ ?bq).mono ?_; (case bq => exact (HB.out _ (by repeat (first | exact qO _ _ | apply zD | apply zB | apply zC)))); rintro e w1 ⟨Ag, cg, rfl, hl, hC, hb⟩; have HNg := now_list hC; have HCg := Lib.hid hl; clear hC hl)
            | (go_at_call 44; with_reducible refine (hRR.out la HLA _ _ _ _ _ HCg.out ?bx HCa.out ?by_).mono ?_; (case bx => exact HNg.out _ (by repeat (first | exact qO _ _ | apply zD | apply zB | apply zC))); (case by_ => exact HNa.out _ (by repeat (first | exact qO _ _ | apply zD | apply zB | apply zC))); rintro e w1 ⟨rfl, hb⟩)
            | (go_at_call 18; with_reducible refine (hl6.out _ ?bq).mono ?_; (case bq => exact (HB.out _ (by repeat (first | exact qO _ _ | apply zD | apply zB | apply zC)))); rintro e w1 ⟨Am, cm, rfl, hl, hC, hb⟩; have HNm0 := now_list hC; have HCm := Lib.hid hl; clear hC hl; have HNm := now_take HNm0 HTM.out; have HX0 := now_at HNm0 HLM.out.1; obtain ⟨adm, rfl, HX⟩ := HX0; clear HNm0; have hcutm := cut_to (P := Tryd.prog) 39 36 .i64 Tryd.underlying39 hi36 (some adm) lm.length cm (la.length : Int) (Int.natCast_nonneg _) HLM.out.2 HCm.out; have HCm2 := Lib.hid (Nat.le_trans HTM.out.1 HCm.out); clear HCm; have HCm := HCm2; clear HCm2)
            | (go_at_call 44; with_reducible refine (hRR.out la HLA _ _ _ _ _ HCm.out ?bx HCa.out ?by_).mono ?_; (case bx => exact HNm.out _ (by repeat (first | exact qO _ _ | apply zD | apply zB | apply zC))); (case by_ => exact HNa.out _ (by repeat (first | exact qO _ _ | apply zD | apply zB | apply zC))); rintro e w1 ⟨rfl, hb⟩)
            | (go_at_call 43; with_reducible refine (hv3.out _ ?bq).mono ?_; (case bq => exact (HB.out _ (by repeat (first | exact qO _ _ | apply zD | apply zB | apply zC)))); rintro e w1 ⟨rfl, hb⟩)); (have q_ := HB.bel (by repeat (first | exact qO _ _ | apply zD | apply zB | apply zC)) hb; replace HB := HB.step q_; replace HK := HK.step q_; (try replace HNa := HNa.step q_); (try replace HNb := HNb.step q_); (try replace HNo := HNo.step q_); (try replace HNw := HNw.step q_); (try replace HNg := HNg.step q_); (try replace HNm := HNm.step q_); (try replace HW := HW.step q_); (try replace HR0 := HR0.step q_); (try replace HR1 := HR1.step q_); (try replace HR2 := HR2.step q_); (try replace HR5 := HR5.step q_); (try replace HX := HX.step q_); (try (replace HK := HK.and HY; clear HY)); (try clear HC); (try (have HC := HD; clear HD)); (try clear hk hk1 hk2); have hk := HK.here; have hk1 := HK.alloc1; have hk2 := HK.alloc2; (try dsimp only at hk hk1 hk2); clear hb q_))
          try
            as_aux_lemma =>
              have HS : Now w1 (fun w' => w'.cell? ⟨wB.heap.size, 0, none⟩ = some (.string D1) ∧ w'.cell? ⟨wB.heap.size, 1, none⟩ = some (.string P1) ∧ w'.cell? ⟨wB.heap.size, 2, none⟩ = some (.int .i64 n1) ∧ w'.cell? ⟨wA.heap.size + 1, 0, none⟩ = some (.string gc) ∧ w'.cell? ⟨wA.heap.size + 1, 1, none⟩ = some (.string gr_) ∧ w'.cell? (adm.add (la.length * 2)) = some (.string gr.f0) ∧ w'.cell? ⟨(adm.add (la.length * 2)).block, (adm.add (la.length * 2)).off + 1, none⟩ = some (.string gr.f1)) := ⟨fun W hb => ⟨(HR2.out W hb).1, (HR2.out W hb).2.1, (HR2.out W hb).2.2, (HR1.out W hb).1, (HR1.out W hb).2.1, (HX.out W hb).1, (HX.out W hb).2⟩⟩
              (try clear h0); (try clear hcut1); (try clear hcut2); (try clear hcut3); (try clear hcut4); (try clear hd0); (try clear hd1); (try clear hd2); (try clear hd3); (try clear hd4); (try clear he1); (try clear he2); (try clear hi1); (try clear hi2); (try clear ha1); (try clear ha2); (try clear hs1); (try clear hs2); (try clear hv1); (try clear hl1); (try clear hl2); (try clear hc1); (try clear hc2); (try clear hr1); (try clear hr2); (try clear hl5); (try clear hl6); (try clear HG); (try clear hr3); (try clear hl3); (try clear hl4); (try clear HR0); (try clear HR1); (try clear HR2); (try clear HR5); (try clear HX); (try clear HK); (try clear hk); (try clear hk1); (try clear hk2); (try clear HNb); (try clear HCb); (try clear hv2); (try clear HTK); (try clear HLO); (try clear H3); (try clear Hs)
              go_region_held3 (fun w' => w'.cell? ⟨wB.heap.size, 0, none⟩ = some (.string D1) ∧ w'.cell? ⟨wB.heap.size, 1, none⟩ = some (.string P1) ∧ w'.cell? ⟨wB.heap.size, 2, none⟩ = some (.int .i64 n1) ∧ w'.cell? ⟨wA.heap.size + 1, 0, none⟩ = some (.string gc) ∧ w'.cell? ⟨wA.heap.size + 1, 1, none⟩ = some (.string gr_) ∧ w'.cell? (adm.add (la.length * 2)) = some (.string gr.f0) ∧ w'.cell? ⟨(adm.add (la.length * 2)).block, (adm.add (la.length * 2)).off + 1, none⟩ = some (.string gr.f1)) (exact HS.out _ (by repeat (first | exact qO _ _ | apply zD | apply zB | apply zC))) (first | (go_at_call 43; with_reducible refine (hv3.out _ ?bq).mono ?_; (case bq => exact (HB.out _ (by repeat (first | exact qO _ _ | apply zD | apply zB | apply zC)))); rintro e w1 ⟨rfl, hb⟩; (try replace HW := HW.step (HB.bel (by repeat (first | exact qO _ _ | apply zD | apply zB | apply zC)) hb)); have q_ := HB.bel (by repeat (first | exact qO _ _ | apply zD | apply zB | apply zC)) hb; replace HB := HB.step q_; replace HS := HS.step q_; replace HNa := HNa.step q_; replace HNm := HNm.step q_; clear hb q_) | (go_at_call 44; with_reducible refine (hRR.out la HLA _ _ _ _ _ HCm.out ?bx HCa.out ?by_).mono ?_; (case bx => exact HNm.out _ (by repeat (first | exact qO _ _ | apply zD | apply zB | apply zC))); (case by_ => exact HNa.out _ (by repeat (first | exact qO _ _ | apply zD | apply zB | apply zC))); rintro e w1 ⟨rfl, hb⟩; have q_ := HB.bel (by repeat (first | exact qO _ _ | apply zD | apply zB | apply zC)) hb; replace HB := HB.step q_; replace HS := HS.step q_; replace HNa := HNa.step q_; replace HNm := HNm.step q_; clear hb q_))
              go_wp2
              all_goals go_ret
              all_goals exact ⟨by first | rfl | (simp; done) | (simp [*]; done), HB.here⟩
          try go_ret
          all_goals exact ⟨by first | rfl | (simp; done) | (simp [*]; done), HB.here⟩
end Go.Proofs.YtnbhbnndfpfikaaDoor.X
