/- FnStrings: the law's body, called with any bytes. -/
import Derived.Test.YtnbhbnndfpfikaaDoorXk
import Derived.Deep.RegionWith
namespace Go.Proofs.YtnbhbnndfpfikaaDoor.X
open Go.RowKit Go.Proofs.YtnbhbnndfpfikaaDoorW.PrintWords Go.Proofs.YtnbhbnndfpfikaaDoorW.PrintLast Go.Proofs.YtnbhbnndfpfikaaDoorW.PrintMore
set_option linter.unusedVariables false
set_option linter.unusedSimpArgs false

theorem Ev.get {α : Type} {f : Nat → Option α} {r : α} (h : Ev f r) : ∃ k, f k = Option.some r := h.elim fun K hK => ⟨K, hK K (Nat.le_refl _)⟩
theorem bytes_frozen (W : World) (e : TypeId) (s : ByteArray) (j : Nat) (hj : j < s.size) : (Lib.bytesWorld W e s).frozen? ⟨W.heap.size, j, none⟩ = false := by
  have h := Lib.bytesWorld_at_new W e s
  have hc : s.size ≤ (Lib.bytesCells W e s).size := by
    have h2 := Lib.bytesWorld_cell W e s (s.size - 1) (by omega)
    unfold World.cell? at h2
    rw [h] at h2
    have := (Array.getElem?_eq_some_iff.1 (show (Lib.bytesCells W e s)[s.size - 1]? = _ from h2)).1
    omega
  unfold World.frozen?
  rw [h]
  simp
  omega
theorem bytes_set (W : World) (b : Nat) (s : ByteArray) (j : Nat) (hj : j < s.size) (hs : s.size ≤ 9223372036854775807) (x : Int) (hW : ∀ i, i < s.size → W.cell? ⟨b, i, none⟩ = some (.int .u8 ((bytesOf s).getD i 0))) :
    ReadsInt (W.setCell ⟨b, j, none⟩ (.int .u8 x)) .u8 (some ⟨b, 0, none⟩) s.size ((bytesOf s).set j x) := by
  refine ⟨by rw [List.length_set, bytesOf_length], hs, fun _ => ⟨_, rfl, fun i hi => ?_⟩⟩
  rw [add_plain]
  by_cases hij : i = j
  · subst hij
    rw [World.cell?_setCell_same' _ _ _ (by rw [hW i hi]; rfl)]
    simp [bytesOf_length, hi, List.getD_eq_getElem?_getD]
  · rw [World.cell?_setCell_other _ _ _ _ (by simp [hij]), hW i hi]
    simp [List.getD_eq_getElem?_getD, List.getElem?_set_ne (Ne.symm hij)]
theorem strOf_row (A : Option Addr) (n c : Nat) (xs : List Int) (W : World) (h : ReadsInt W .u8 A n xs) : (convert 44 9 (.slice A n c)).run Tryd.prog W = .ok (.string (strOfNums xs)) W :=
  string_of_reads Tryd.underlying44 Tryd.underlying5 Tryd.underlying9 h
theorem bytes_cell (W : World) (e : TypeId) (s : ByteArray) (i : Nat) (hi : i < s.size) : (Lib.bytesWorld W e s).cell? ⟨W.heap.size, i, none⟩ = some (.int .u8 ((bytesOf s).getD i 0)) := by
  have h2 := Lib.bytesWorld_cell W e s i hi
  have h' : i < s.data.toList.length := by rw [data_length]; exact hi
  rw [h2]
  simp [bytesOf, List.getD_eq_getElem?_getD, List.getElem?_eq_getElem h']
theorem bytesOf_strOf (l : List Int) (h : ∀ b ∈ l, byte b) : bytesOf (strOfNums l) = l := by
  show ((l.map fun n => UInt8.ofNat n.toNat).toArray.toList).map (fun c => (c.toNat : Int)) = l
  rw [List.map_map]
  have : ∀ b ∈ l, ((fun c : UInt8 => (c.toNat : Int)) ∘ fun n : Int => UInt8.ofNat n.toNat) b = b := by
    intro b hb
    have := h b hb
    show ((UInt8.ofNat b.toNat).toNat : Int) = b
    have h2 : b.toNat < 256 := by have := this.2; omega
    rw [UInt8.toNat_ofNat', Nat.mod_eq_of_lt h2]
    have := this.1
    omega
  rw [List.map_congr_left this]
  simp
/-- A call's contract, its end told from the law's beginning. -/
theorem from_ {w W : World} {f : FuncId} {args : Array Value} {v : Value} (hW : Below w.heap.size w W) (h : Calls Tryd.prog f args W fun e w' => e = .returned v ∧ Below W.heap.size W w') :
    Calls Tryd.prog f args W fun e w' => e = .returned v ∧ Below w.heap.size w w' := h.mono fun e w' hh => ⟨hh.1, hW.trans (hh.2.mono hW.size)⟩
theorem from0 {w W : World} {f : FuncId} {args : Array Value} {v : Value} (hW : Below w.heap.size w W) (h : Calls Tryd.prog f args W fun e w' => e = .returned v ∧ Drawn0 W w') :
    Calls Tryd.prog f args W fun e w' => e = .returned v ∧ Below w.heap.size w w' := h.mono fun e w' hh => ⟨hh.1, hW.trans ((Drawn0.below hh.2).mono hW.size)⟩
set_option maxRecDepth 100000 in
set_option maxHeartbeats 1000000 in
theorem laws_FnStrings.calls (A0 : Option Addr) (c0 : Nat) (l0 : List Int) (w : World) (hG : Glob w) (hr0 : Kd.C (Kd.int .u8) w A0 l0.length l0) (hc0 : l0.length ≤ c0) (hb : Bytes l0) :
    Calls Tryd.prog 6 #[.slice A0 l0.length c0] w fun e w' => e = .returned (.bool true) ∧ Below w.heap.size w w' := by
  have hB : Below w.heap.size w w := Below.refl _ _
  have hC : ∀ W, Below w.heap.size w W → Kd.C (Kd.int .u8) W A0 l0.length l0 := fun W h => Kd.C_below hr0 h
  by_cases hbig : l0.length ≤ 65536
  case neg =>
    have h1 := Lib.hid (fun W (hW : Below w.heap.size w W) => from0 hW (laws_vBig.calls A0 c0 l0 true W (hC W hW) hc0 (by unfold laws_vBig.f; rw [decide_eq_true (by omega)])))
    have HB := Lib.hid hB
    clear hG hr0 hC hb hbig hB
    go_enter Tryd.func6, Tryd.ntmps6
    go_wp2_with (go_at_call 22; with_reducible refine (h1.out _ HB.out).mono ?_; rintro e w1 ⟨rfl, hb⟩; clear HB; have HB := Lib.hid hb; clear hb)
    go_ret
    exact ⟨rfl, HB.out⟩
  have h1 := Lib.hid (fun W (hW : Below w.heap.size w W) => from0 hW (laws_vBig.calls A0 c0 l0 false W (hC W hW) hc0 (by unfold laws_vBig.f; rw [decide_eq_false (by omega)])))
  obtain ⟨n, en, n0, n1⟩ := drawFormat l0 hb
  obtain ⟨t, et, ht⟩ := drawParse l0 hb
  obtain ⟨x, ex, hx⟩ := drawSum l0 hb
  obtain ⟨a9, e9, p9, q9⟩ := vAt_ok l0 hb 9 (by decide) (by decide) hbig
  obtain ⟨a10, e10, p10, q10⟩ := vAt_ok l0 hb 10 (by decide) (by decide) hbig
  have h2 := Lib.hid (fun W (hW : Below w.heap.size w W) => from_ hW (spec_DrawFormatInt.calls A0 c0 l0 n W (hC W hW) hc0 en))
  have h3 := Lib.hid (fun W (hW : Below w.heap.size w W) => from_ hW (spec_DrawParseInt.calls A0 c0 l0 t W (hC W hW) hc0 et))
  have h4 := Lib.hid (fun W (hW : Below w.heap.size w W) => from_ hW (spec_DrawAppendChecksum.calls A0 c0 l0 x W (hC W hW) hc0 ex))
  have g5 := fun W (hW : Below w.heap.size w W) => laws_vAt.calls A0 c0 l0 9 a9 W (hC W hW) hc0 e9
  have g6 := fun W (hW : Below w.heap.size w W) => laws_vAt.calls A0 c0 l0 10 a10 W (hC W hW) hc0 e10
  obtain ⟨s, ok, hs⟩ : ∃ s ok, formatV n = (s, ok) := ⟨_, _, rfl⟩
  have h7 := Lib.hid (fun W (hW : Below w.heap.size w W) => from_ hW (impl_FormatInt.calls n s ok W (hG.below hW) (by rw [impl_FormatInt_eq, hs])))
  have h8 := Lib.hid (fun W (hW : Below w.heap.size w W) => from_ hW (spec_FormatInt.calls n s ok W (by rw [spec_FormatInt_eq, hs])))
  have hss : s.size ≤ 20 := by
    have : s = (formatV n).1 := by rw [hs]
    rw [this]; unfold formatV; split
    · exact numB_size n (by omega) (by omega)
    · exact Nat.zero_le _
  obtain ⟨m, fine, hm⟩ : ∃ m fine, parseV t = (m, fine) := ⟨_, _, rfl⟩
  obtain ⟨k1, hk1⟩ := (spec_ParseInt_ev t (by omega)).get
  have h9 := Lib.hid (fun W (hW : Below w.heap.size w W) => from_ hW (impl_ParseInt.calls t m fine W (hG.below hW) (by unfold impl_ParseInt.f; rw [if_pos (by omega), hm])))
  have h10 := Lib.hid (fun W (hW : Below w.heap.size w W) => from_ hW (spec_ParseInt.calls k1 t m fine W (by rw [hk1, hm])))
  obtain ⟨back, there, hbk⟩ : ∃ back there, parseV s = (back, there) := ⟨_, _, rfl⟩
  have h11 := Lib.hid (fun W (hW : Below w.heap.size w W) => from_ hW (impl_ParseInt.calls s back there W (hG.below hW) (by unfold impl_ParseInt.f; rw [if_pos (by omega), hbk])))
  obtain ⟨y, sealed, hy⟩ : ∃ y sealed, sealV x = (y, sealed) := ⟨_, _, rfl⟩
  obtain ⟨k2, hk2⟩ := (impl_AppendChecksum_ev x (by omega)).get
  obtain ⟨k3, hk3⟩ := (spec_AppendChecksum_ev x (by omega)).get
  have h12 := Lib.hid (fun W (hW : Below w.heap.size w W) => from_ hW (impl_AppendChecksum.calls k2 x y sealed W (hG.below hW) (by rw [hk2, hy])))
  have h13 := Lib.hid (fun W (hW : Below w.heap.size w W) => from_ hW (spec_AppendChecksum.calls k3 x y sealed W (by rw [hk3, hy])))
  have hys : y.size ≤ 4000 ∧ (sealed = true → 0 < y.size) := by
    unfold sealV at hy
    split at hy
    · rename_i hc
      have hz := sealB_size x
      have := (Prod.mk.inj hy).1
      subst this
      exact ⟨hc.2.2, fun _ => by omega⟩
    · have := (Prod.mk.inj hy).1
      subst this
      exact ⟨Nat.zero_le _, fun h => by rw [h] at hy; exact absurd (Prod.mk.inj hy).2 (by decide)⟩
  obtain ⟨kv, hkv⟩ := (impl_VerifyChecksum_ev y (by omega)).get
  have kb := fun W => print_bytes (P := Tryd.prog) 9 44 5 Tryd.underlying9 Tryd.underlying44 Tryd.underlying5 y W
  have hback : ok = true → there = true ∧ back = n := fun h => by
    rw [h] at hs
    have := parse_format hs
    rw [hbk] at this
    exact ⟨(Prod.mk.inj this).2, (Prod.mk.inj this).1⟩
  cases sealed with
  | false =>
    have hy0 : y = ⟨#[]⟩ := by
      unfold sealV at hy
      split at hy
      · exact absurd (Prod.mk.inj hy).2 (by decide)
      · exact (Prod.mk.inj hy).1.symm
    subst hy0
    cases ok with
    | true =>
      obtain ⟨rfl, rfl⟩ := hback rfl
      have HB := Lib.hid hB
      clear hG hr0 hC hb hbig hB en et ex e9 e10 hs hm hk1 hbk hy hk2 hk3 hback hc0 hss ht hx n0 n1
      go_enter Tryd.func6, Tryd.ntmps6
      go_wp2_with (first
          | (go_at_call 22; with_reducible refine (h1.out _ HB.out).mono ?_; rintro e w1 ⟨rfl, hb⟩; clear HB; have HB := Lib.hid hb; clear hb)
          | (go_at_call 23; with_reducible refine (h2.out _ HB.out).mono ?_; rintro e w1 ⟨rfl, hb⟩; clear HB; have HB := Lib.hid hb; clear hb)
          | (go_at_call 26; with_reducible refine (h3.out _ HB.out).mono ?_; rintro e w1 ⟨rfl, hb⟩; clear HB; have HB := Lib.hid hb; clear hb)
          | (go_at_call 29; with_reducible refine (h4.out _ HB.out).mono ?_; rintro e w1 ⟨rfl, hb⟩; clear HB; have HB := Lib.hid hb; clear hb)
          | (go_at_call 24; with_reducible refine (h7.out _ HB.out).mono ?_; rintro e w1 ⟨rfl, hb⟩; clear HB; have HB := Lib.hid hb; clear hb)
          | (go_at_call 25; with_reducible refine (h8.out _ HB.out).mono ?_; rintro e w1 ⟨rfl, hb⟩; clear HB; have HB := Lib.hid hb; clear hb)
          | (go_at_call 27; with_reducible refine (h9.out _ HB.out).mono ?_; rintro e w1 ⟨rfl, hb⟩; clear HB; have HB := Lib.hid hb; clear hb)
          | (go_at_call 27; with_reducible refine (h11.out _ HB.out).mono ?_; rintro e w1 ⟨rfl, hb⟩; clear HB; have HB := Lib.hid hb; clear hb)
          | (go_at_call 28; with_reducible refine (h10.out _ HB.out).mono ?_; rintro e w1 ⟨rfl, hb⟩; clear HB; have HB := Lib.hid hb; clear hb)
          | (go_at_call 30; with_reducible refine (h12.out _ HB.out).mono ?_; rintro e w1 ⟨rfl, hb⟩; clear HB; have HB := Lib.hid hb; clear hb)
          | (go_at_call 31; with_reducible refine (h13.out _ HB.out).mono ?_; rintro e w1 ⟨rfl, hb⟩; clear HB; have HB := Lib.hid hb; clear hb))
      go_ret
      exact ⟨rfl, HB.out⟩
    | false =>
      have HB := Lib.hid hB
      clear hG hr0 hC hb hbig hB en et ex e9 e10 hs hm hk1 hbk hy hk2 hk3 hback hc0 hss ht hx n0 n1
      go_enter Tryd.func6, Tryd.ntmps6
      go_wp2_with (first
          | (go_at_call 22; with_reducible refine (h1.out _ HB.out).mono ?_; rintro e w1 ⟨rfl, hb⟩; clear HB; have HB := Lib.hid hb; clear hb)
          | (go_at_call 23; with_reducible refine (h2.out _ HB.out).mono ?_; rintro e w1 ⟨rfl, hb⟩; clear HB; have HB := Lib.hid hb; clear hb)
          | (go_at_call 26; with_reducible refine (h3.out _ HB.out).mono ?_; rintro e w1 ⟨rfl, hb⟩; clear HB; have HB := Lib.hid hb; clear hb)
          | (go_at_call 29; with_reducible refine (h4.out _ HB.out).mono ?_; rintro e w1 ⟨rfl, hb⟩; clear HB; have HB := Lib.hid hb; clear hb)
          | (go_at_call 24; with_reducible refine (h7.out _ HB.out).mono ?_; rintro e w1 ⟨rfl, hb⟩; clear HB; have HB := Lib.hid hb; clear hb)
          | (go_at_call 25; with_reducible refine (h8.out _ HB.out).mono ?_; rintro e w1 ⟨rfl, hb⟩; clear HB; have HB := Lib.hid hb; clear hb)
          | (go_at_call 27; with_reducible refine (h9.out _ HB.out).mono ?_; rintro e w1 ⟨rfl, hb⟩; clear HB; have HB := Lib.hid hb; clear hb)
          | (go_at_call 27; with_reducible refine (h11.out _ HB.out).mono ?_; rintro e w1 ⟨rfl, hb⟩; clear HB; have HB := Lib.hid hb; clear hb)
          | (go_at_call 28; with_reducible refine (h10.out _ HB.out).mono ?_; rintro e w1 ⟨rfl, hb⟩; clear HB; have HB := Lib.hid hb; clear hb)
          | (go_at_call 30; with_reducible refine (h12.out _ HB.out).mono ?_; rintro e w1 ⟨rfl, hb⟩; clear HB; have HB := Lib.hid hb; clear hb)
          | (go_at_call 31; with_reducible refine (h13.out _ HB.out).mono ?_; rintro e w1 ⟨rfl, hb⟩; clear HB; have HB := Lib.hid hb; clear hb))
      go_ret
      exact ⟨rfl, HB.out⟩
  | true =>
    have h14 := Lib.hid (fun W (hW : Below w.heap.size w W) => from_ hW (impl_VerifyChecksum.calls kv y x true W (hG.below hW) (by rw [hkv, verify_sealed hy])))
    have hpos := hys.2 rfl
    have hlen : y.size ≤ 4000 := hys.1
    have hc0' : 0 ≤ Int.tmod a10 255 ∧ Int.tmod a10 255 ≤ 254 := by rw [Int.tmod_eq_emod_of_nonneg p10]; omega
    obtain ⟨x10, he10⟩ : ∃ e, IntKind.u8.wrap (IntKind.i64.wrap (1 + Int.tmod a10 255)) = e := ⟨_, rfl⟩
    have her : 1 ≤ x10 ∧ x10 ≤ 255 := by rw [← he10, IntWalk.i64_in _ (by omega), u8_id _ (by omega) (by omega)]; omega
    obtain ⟨j, hj⟩ := Int.eq_ofNat_of_zero_le (Int.emod_nonneg a9 (show (y.size : Int) ≠ 0 by omega))
    have hjl : j < y.size := by have := Int.emod_lt_of_pos a9 (show (0 : Int) < (y.size : Int) by omega); omega
    have qe : ((y.size : Int) = 0) = False := eq_false (by omega)
    have qf : (y.size = 0) = False := eq_false (by omega)
    have qg : ((j : Int) < (y.size : Int)) = True := eq_true (by omega)
    have qh : (j < y.size) = True := eq_true hjl
    have qi : (y = ByteArray.empty) = False := eq_false (fun h => by rw [h] at hpos; exact absurd hpos (by decide))
    obtain ⟨v0, hv0⟩ : ∃ v0, (bytesOf y).getD j 0 = v0 := ⟨_, rfl⟩
    have hjb : j < (bytesOf y).length := by rw [bytesOf_length]; exact hjl
    have hv0e : (bytesOf y)[j] = v0 := by rw [← hv0, List.getD_eq_getElem?_getD, List.getElem?_eq_getElem hjb]; rfl
    have hvb : byte v0 := by rw [← hv0e]; exact bytes_bytes y _ (List.getElem_mem hjb)
    have kc : ∀ W, (Lib.bytesWorld W 5 y).cell? ⟨W.heap.size, j, none⟩ = some (.int .u8 v0) := fun W => by rw [bytes_cell W _ y j hjl, hv0]
    have kf : ∀ W, (Lib.bytesWorld W 5 y).frozen? ⟨W.heap.size, j, none⟩ = false := fun W => bytes_frozen W _ y j hjl
    obtain ⟨hx1, hx2⟩ := xor_byte v0 x10 hvb her.1 her.2
    obtain ⟨z, hz⟩ : ∃ z, strOfNums ((bytesOf y).set j (Go.bits .xor .u8 v0 x10)) = z := ⟨_, rfl⟩
    have hzs : z.size ≤ 1000000 := by rw [← hz, strOf_size, List.length_set, bytesOf_length]; omega
    have hzb : bytesOf z = (bytesOf y).set j (Go.bits .xor .u8 v0 x10) := by rw [← hz]; exact bytesOf_strOf _ (fun b hb => by
      rcases List.mem_or_eq_of_mem_set hb with h | h
      · exact bytes_bytes y b h
      · rw [h]; exact hx1)
    obtain ⟨kz, hkz⟩ := (impl_VerifyChecksum_ev z hzs).get
    have h15 := Lib.hid (fun W (hW : Below w.heap.size w W) => from_ hW (impl_VerifyChecksum.calls kz z ⟨#[]⟩ false W (hG.below hW) (by rw [hkz, verify_changed hy j _ hjb hx1 (by rw [hv0e]; exact hx2) hzb])))
    have kt : ∀ (W : World) (q c : Nat), (convert 44 9 (.slice (some ⟨W.heap.size, 0, none⟩) y.size c)).run Tryd.prog (((Lib.bytesWorld W 5 y).drewN q).setCell ⟨W.heap.size, j, none⟩ (.int .u8 (Go.bits .xor .u8 v0 x10))) = .ok (.string z) (((Lib.bytesWorld W 5 y).drewN q).setCell ⟨W.heap.size, j, none⟩ (.int .u8 (Go.bits .xor .u8 v0 x10))) := fun W q c => by
      have := strOf_row (some ⟨W.heap.size, 0, none⟩) y.size c _ _ (bytes_set ((Lib.bytesWorld W 5 y).drewN q) W.heap.size y j hjl (by omega) (Go.bits .xor .u8 v0 x10) (fun i hi => by rw [World.cell?_drewN]; exact bytes_cell W _ y i hi))
      rwa [hz] at this
    have HX := Lib.hid hvb
    clear hvb hx1 hx2 hz hzb hv0 hv0e hjb hjl hpos hlen hkz hzs her hc0' hys
    cases ok with
    | true =>
      obtain ⟨rfl, rfl⟩ := hback rfl
      have HB := Lib.hid hB
      clear hG hr0 hC hb hbig hB en et ex e9 e10 hs hm hk1 hbk hy hk2 hk3 hback hc0 hss ht hx n0 n1 hkv
      go_enter Tryd.func6, Tryd.ntmps6
      go_wp2_with (first
          | (go_at_call 22; with_reducible refine (h1.out _ HB.out).mono ?_; rintro e w1 ⟨rfl, hb⟩; clear HB; have HB := Lib.hid hb; clear hb)
          | (go_at_call 23; with_reducible refine (h2.out _ HB.out).mono ?_; rintro e w1 ⟨rfl, hb⟩; clear HB; have HB := Lib.hid hb; clear hb)
          | (go_at_call 26; with_reducible refine (h3.out _ HB.out).mono ?_; rintro e w1 ⟨rfl, hb⟩; clear HB; have HB := Lib.hid hb; clear hb)
          | (go_at_call 29; with_reducible refine (h4.out _ HB.out).mono ?_; rintro e w1 ⟨rfl, hb⟩; clear HB; have HB := Lib.hid hb; clear hb)
          | (go_at_call 24; with_reducible refine (h7.out _ HB.out).mono ?_; rintro e w1 ⟨rfl, hb⟩; clear HB; have HB := Lib.hid hb; clear hb)
          | (go_at_call 25; with_reducible refine (h8.out _ HB.out).mono ?_; rintro e w1 ⟨rfl, hb⟩; clear HB; have HB := Lib.hid hb; clear hb)
          | (go_at_call 27; with_reducible refine (h9.out _ HB.out).mono ?_; rintro e w1 ⟨rfl, hb⟩; clear HB; have HB := Lib.hid hb; clear hb)
          | (go_at_call 27; with_reducible refine (h11.out _ HB.out).mono ?_; rintro e w1 ⟨rfl, hb⟩; clear HB; have HB := Lib.hid hb; clear hb)
          | (go_at_call 28; with_reducible refine (h10.out _ HB.out).mono ?_; rintro e w1 ⟨rfl, hb⟩; clear HB; have HB := Lib.hid hb; clear hb)
          | (go_at_call 30; with_reducible refine (h12.out _ HB.out).mono ?_; rintro e w1 ⟨rfl, hb⟩; clear HB; have HB := Lib.hid hb; clear hb)
          | (go_at_call 31; with_reducible refine (h13.out _ HB.out).mono ?_; rintro e w1 ⟨rfl, hb⟩; clear HB; have HB := Lib.hid hb; clear hb)
          | (go_at_call 32; with_reducible refine (h14.out _ HB.out).mono ?_; rintro e w1 ⟨rfl, hb⟩; clear HB; have HB := Lib.hid hb; clear hb)
          | (go_at_call 33; with_reducible refine (g5 _ (bytes_below HB.out HB.out.size _ _)).mono ?_; rintro e w2 ⟨rfl, ⟨nd, rfl⟩⟩))
      go_region_with (go_at_call 33; with_reducible refine (g6 _ ?_).mono ?_; (repeat (first | exact bytes_below HB.out HB.out.size _ _ | apply pw_below_drewN | apply below_drew1)); rintro e w3 ⟨rfl, ⟨nd3, rfl⟩⟩)
      all_goals (try simp only [he10])
      all_goals go_wp2_with (go_at_call 32; with_reducible refine (h15.out _ ?_).mono ?_; (first | exact (pw_below_drewN (bytes_below HB.out HB.out.size _ _) _).setCell (p := ⟨_, j, none⟩) HB.out.size _ | skip); rintro e w4 ⟨rfl, hb4⟩; have HB4 := Lib.hid hb4; clear hb4)
      all_goals go_ret
      all_goals exact ⟨rfl, HB4.out⟩
    | false =>
      have HB := Lib.hid hB
      clear hG hr0 hC hb hbig hB en et ex e9 e10 hs hm hk1 hbk hy hk2 hk3 hback hc0 hss ht hx n0 n1 hkv
      go_enter Tryd.func6, Tryd.ntmps6
      go_wp2_with (first
          | (go_at_call 22; with_reducible refine (h1.out _ HB.out).mono ?_; rintro e w1 ⟨rfl, hb⟩; clear HB; have HB := Lib.hid hb; clear hb)
          | (go_at_call 23; with_reducible refine (h2.out _ HB.out).mono ?_; rintro e w1 ⟨rfl, hb⟩; clear HB; have HB := Lib.hid hb; clear hb)
          | (go_at_call 26; with_reducible refine (h3.out _ HB.out).mono ?_; rintro e w1 ⟨rfl, hb⟩; clear HB; have HB := Lib.hid hb; clear hb)
          | (go_at_call 29; with_reducible refine (h4.out _ HB.out).mono ?_; rintro e w1 ⟨rfl, hb⟩; clear HB; have HB := Lib.hid hb; clear hb)
          | (go_at_call 24; with_reducible refine (h7.out _ HB.out).mono ?_; rintro e w1 ⟨rfl, hb⟩; clear HB; have HB := Lib.hid hb; clear hb)
          | (go_at_call 25; with_reducible refine (h8.out _ HB.out).mono ?_; rintro e w1 ⟨rfl, hb⟩; clear HB; have HB := Lib.hid hb; clear hb)
          | (go_at_call 27; with_reducible refine (h9.out _ HB.out).mono ?_; rintro e w1 ⟨rfl, hb⟩; clear HB; have HB := Lib.hid hb; clear hb)
          | (go_at_call 27; with_reducible refine (h11.out _ HB.out).mono ?_; rintro e w1 ⟨rfl, hb⟩; clear HB; have HB := Lib.hid hb; clear hb)
          | (go_at_call 28; with_reducible refine (h10.out _ HB.out).mono ?_; rintro e w1 ⟨rfl, hb⟩; clear HB; have HB := Lib.hid hb; clear hb)
          | (go_at_call 30; with_reducible refine (h12.out _ HB.out).mono ?_; rintro e w1 ⟨rfl, hb⟩; clear HB; have HB := Lib.hid hb; clear hb)
          | (go_at_call 31; with_reducible refine (h13.out _ HB.out).mono ?_; rintro e w1 ⟨rfl, hb⟩; clear HB; have HB := Lib.hid hb; clear hb)
          | (go_at_call 32; with_reducible refine (h14.out _ HB.out).mono ?_; rintro e w1 ⟨rfl, hb⟩; clear HB; have HB := Lib.hid hb; clear hb)
          | (go_at_call 33; with_reducible refine (g5 _ (bytes_below HB.out HB.out.size _ _)).mono ?_; rintro e w2 ⟨rfl, ⟨nd, rfl⟩⟩))
      go_region_with (go_at_call 33; with_reducible refine (g6 _ ?_).mono ?_; (repeat (first | exact bytes_below HB.out HB.out.size _ _ | apply pw_below_drewN | apply below_drew1)); rintro e w3 ⟨rfl, ⟨nd3, rfl⟩⟩)
      all_goals (try simp only [he10])
      all_goals go_wp2_with (go_at_call 32; with_reducible refine (h15.out _ ?_).mono ?_; (first | exact (pw_below_drewN (bytes_below HB.out HB.out.size _ _) _).setCell (p := ⟨_, j, none⟩) HB.out.size _ | skip); rintro e w4 ⟨rfl, hb4⟩; have HB4 := Lib.hid hb4; clear hb4)
      all_goals go_ret
      all_goals exact ⟨rfl, HB4.out⟩
end Go.Proofs.YtnbhbnndfpfikaaDoor.X
