/- The plain laws of FnStrings, 2: sealed texts. -/
import Derived.Test.YtnbhbnndfpfikaaDoorXj
namespace Go.Proofs.YtnbhbnndfpfikaaDoor.X
open Go.RowKit Go.Proofs.YtnbhbnndfpfikaaDoorW.PrintWords Go.Proofs.YtnbhbnndfpfikaaDoorW.PrintLast Go.Proofs.YtnbhbnndfpfikaaDoorW.PrintMore
set_option linter.unusedVariables false
set_option linter.unusedSimpArgs false

def sealV (x : ByteArray) : ByteArray × Bool := if x.size ≤ 4000 ∧ (35 : Int) ∉ bytesOf x ∧ (sealB x).size ≤ 4000 then (sealB x, true) else ((⟨#[]⟩ : ByteArray), false)
theorem sealB_size (x : ByteArray) : (sealB x).size = x.size + 1 + (numB (chk x)).size := by
  unfold sealB
  rw [ByteArray.size_append, ByteArray.size_append, one_size]
theorem impl_AppendChecksum_ev (x : ByteArray) (hx : x.size ≤ 1000000) : Ev (fun k => impl_AppendChecksum.f k x) (sealV x) := by
  have hr := chk_range x
  have hn := chk_num x
  have hz := sealB_size x
  unfold impl_AppendChecksum.f sealV
  have hj : ∀ b : Bool, b = true ∨ b = false ∧ x.size ≤ 4000 ∧ (35 : Int) ∉ bytesOf x → Ev (fun k => impl_AppendChecksum.j0 k x b) (if b = false ∧ (sealB x).size ≤ 4000 then (sealB x, true) else ((⟨#[]⟩ : ByteArray), false)) := by
    intro b hb
    refine Ev.shift ?_
    unfold impl_AppendChecksum.j0
    cases b with
    | true => exact Ev.pos rfl (Ev.const _)
    | false =>
      refine Ev.neg (by decide) (Ev.pos (by omega) (Ev.bind (impl_checksum_ev x (by omega)) ?_))
      rw [strconv_Itoa_eq _ (by omega) (by omega)]
      refine Ev.bind (Ev.const _) (Ev.pos (by omega) ?_)
      by_cases h : (sealB x).size ≤ 4000
      · rw [show (if (false : Bool) = false ∧ (sealB x).size ≤ 4000 then (sealB x, true) else ((⟨#[]⟩ : ByteArray), false)) = (sealB x, true) from if_pos ⟨rfl, h⟩]
        exact Ev.neg (by omega) (Ev.const _)
      · rw [show (if (false : Bool) = false ∧ (sealB x).size ≤ 4000 then (sealB x, true) else ((⟨#[]⟩ : ByteArray), false)) = ((⟨#[]⟩ : ByteArray), false) from if_neg (fun hh => h hh.2)]
        exact Ev.pos (by omega) (Ev.const _)
  by_cases h1 : x.size ≤ 4000
  · refine Ev.neg (by omega) ?_
    unfold strings_Contains.f
    have e35 : hasByte x ((⟨#[35]⟩ : ByteArray).data.toList.headD 0) = decide ((35 : Int) ∈ bytesOf x) := hasByte_mem x 35
    rw [if_pos (one_size 35), e35]
    refine Ev.bind (Ev.const _) ?_
    by_cases h2 : (35 : Int) ∈ bytesOf x
    · rw [decide_eq_true h2, if_neg (fun hh => hh.2.1 h2)]
      exact hj true (.inl rfl)
    · rw [decide_eq_false h2]
      have := hj false (.inr ⟨rfl, h1, h2⟩)
      by_cases h3 : (sealB x).size ≤ 4000
      · rw [if_pos ⟨rfl, h3⟩] at this; rw [if_pos ⟨h1, h2, h3⟩]; exact this
      · rw [if_neg (fun hh => h3 hh.2)] at this; rw [if_neg (fun hh => h3 hh.2.2)]; exact this
  · rw [if_neg (fun hh => h1 hh.1)]
    exact Ev.pos (by omega) (hj true (.inl rfl))
theorem spec_AppendChecksum_ev (x : ByteArray) (hx : x.size ≤ 1000000) : Ev (fun k => spec_AppendChecksum.f k x) (sealV x) := by
  unfold spec_AppendChecksum.f sealV
  by_cases h1 : x.size ≤ 4000
  · refine Ev.neg (by omega) (Ev.bind (spec_l1Stands_ev x 35 (by omega)) ?_)
    by_cases h2 : (35 : Int) ∈ bytesOf x
    · rw [if_neg (fun hh => hh.2.1 h2)]
      exact Ev.pos (decide_eq_true h2) (Ev.const _)
    · refine Ev.neg (by simpa using h2) (Ev.bind (spec_l1Seal_ev x (by omega)) ?_)
      by_cases h3 : (sealB x).size ≤ 4000
      · rw [if_pos ⟨h1, h2, h3⟩]
        exact Ev.neg (by omega) (Ev.bind (spec_l1Seal_ev x (by omega)) (Ev.const _))
      · rw [if_neg (fun hh => h3 hh.2.2)]
        exact Ev.pos (by omega) (Ev.const _)
  · rw [if_neg (fun hh => h1 hh.1)]
    exact Ev.pos (by omega) (Ev.const _)
def verifyV (s : ByteArray) : ByteArray × Bool := if sealV (cutB s 35).1 = (s, true) then ((cutB s 35).1, true) else ((⟨#[]⟩ : ByteArray), false)
theorem impl_VerifyChecksum_ev (s : ByteArray) (hs : s.size ≤ 1000000) : Ev (fun k => impl_VerifyChecksum.f k s) (verifyV s) := by
  unfold impl_VerifyChecksum.f verifyV
  rw [cut_eq s 35 (by omega)]
  refine Ev.bind (Ev.const _) (Ev.bind (impl_AppendChecksum_ev _ (by have := (cutB_size s 35).1; omega)) ?_)
  by_cases h1 : (sealV (cutB s 35).1).2 = true
  · refine Ev.pos h1 ?_
    by_cases h2 : (sealV (cutB s 35).1).1 = s
    · rw [if_pos (Prod.ext h2 h1)]
      exact Ev.pos ((toList_eq_iff _ _).2 h2) (Ev.const _)
    · rw [if_neg (fun h => h2 (congrArg Prod.fst h))]
      exact Ev.neg (fun h => h2 ((toList_eq_iff _ _).1 h)) (Ev.const _)
  · rw [if_neg (fun h => h1 (congrArg Prod.snd h))]
    exact Ev.neg h1 (Ev.const _)
theorem seal_yes {x y : ByteArray} (h : sealV x = (y, true)) : x.size ≤ 4000 ∧ (35 : Int) ∉ bytesOf x ∧ y.size ≤ 4000 ∧ sealB x = y := by
  unfold sealV at h
  split at h
  · rename_i hc
    have := (Prod.mk.inj h).1
    subst this
    exact ⟨hc.1, hc.2.1, hc.2.2, rfl⟩
  · exact absurd (Prod.mk.inj h).2 (by decide)
theorem verify_sealed {x y : ByteArray} (h : sealV x = (y, true)) : verifyV y = (x, true) := by
  obtain ⟨h1, h2, h3, h4⟩ := seal_yes h
  have hc : cutB y 35 = (x, numB (chk x), true) := cutB_hit (by rw [← h4]; rfl) h2
  unfold verifyV
  rw [hc]
  exact if_pos h
theorem cut_no35 (s : ByteArray) : (35 : Int) ∉ bytesOf (cutB s 35).1 := by
  intro hm
  unfold cutB at hm
  split at hm
  · rename_i h0
    obtain ⟨o, ho⟩ := Int.eq_ofNat_of_zero_le h0
    have h1 := Lib.indexByte_some ho
    rw [ho] at hm
    have hm' : (35 : Int) ∈ bytesOf (s.extract 0 o) := hm
    rw [bytesOf_extract, List.drop_zero] at hm'
    obtain ⟨k, hk⟩ := List.mem_iff_getElem?.1 hm'
    rw [List.getElem?_take] at hk
    split at hk
    · rename_i hko
      apply h1.2 k hko
      simp only [bytesOf, List.getElem?_map, Option.map_eq_some_iff] at hk
      obtain ⟨c, hc, hcb⟩ := hk
      rw [hc]
      congr 1
      exact UInt8.toNat_inj.1 (Int.ofNat.inj hcb)
    · cases hk
  · rename_i h0
    have hm' : (35 : Int) ∈ bytesOf s := hm
    simp only [bytesOf, List.mem_map] at hm'
    obtain ⟨c, hc, hcb⟩ := hm'
    have : c = 35 := UInt8.toNat_inj.1 (Int.ofNat.inj hcb)
    subst this
    exact h0 ((mem_index _ _).1 hc)
theorem dec_bytes : ∀ (u : Nat), ∀ b ∈ Lib.decDigits u, 48 ≤ b.toNat ∧ b.toNat ≤ 57 := by
  intro u
  induction u using Nat.strongRecOn with
  | _ u ih =>
    have one : ∀ d, d < 10 → ∀ b ∈ [UInt8.ofNat (48 + d)], 48 ≤ b.toNat ∧ b.toNat ≤ 57 := by
      intro d hd b hb
      rw [List.mem_singleton] at hb
      subst hb
      have : d = 0 ∨ d = 1 ∨ d = 2 ∨ d = 3 ∨ d = 4 ∨ d = 5 ∨ d = 6 ∨ d = 7 ∨ d = 8 ∨ d = 9 := by omega
      rcases this with rfl | rfl | rfl | rfl | rfl | rfl | rfl | rfl | rfl | rfl <;> decide
    rw [Lib.decDigits]
    by_cases h : u < 10
    · rw [dif_pos h]; exact one u h
    · rw [dif_neg h]
      intro b hb
      rcases List.mem_append.1 hb with hb | hb
      · exact ih (u / 10) (by omega) b hb
      · exact one (u % 10) (by omega) b hb
theorem num_no35 (n : Int) : (35 : Int) ∉ bytesOf (numB n) := by
  rw [bytes_numB]
  intro hm
  obtain ⟨c, hc, hcb⟩ := List.mem_map.1 hm
  have hc35 : c.toNat = 35 := Int.ofNat.inj hcb
  unfold Lib.itoa at hc
  split at hc
  · rcases List.mem_cons.1 hc with h | h
    · subst h; exact absurd hc35 (by decide)
    · have := dec_bytes _ c h; omega
  · have := dec_bytes _ c hc; omega
theorem bytes_bytes (s : ByteArray) : ∀ b ∈ bytesOf s, byte b := by
  intro b hb
  obtain ⟨c, hc, rfl⟩ := List.mem_map.1 (show b ∈ s.data.toList.map (fun c => (c.toNat : Int)) from hb)
  have := c.toNat_lt
  exact ⟨by omega, by omega⟩
theorem bytes_seal (x : ByteArray) : bytesOf (sealB x) = bytesOf x ++ 35 :: bytesOf (numB ((bytesOf x).foldl st 7)) := by
  unfold sealB
  rw [bytesOf_append, bytesOf_append, List.append_assoc]
  rfl
/-- One byte changed: it is found. -/
theorem verify_changed {x y z : ByteArray} (h : sealV x = (y, true)) (k : Nat) (v : Int) (hk : k < (bytesOf y).length) (hv : byte v) (hne : (bytesOf y)[k] ≠ v) (hz : bytesOf z = (bytesOf y).set k v) : verifyV z = ((⟨#[]⟩ : ByteArray), false) := by
  obtain ⟨h1, h2, h3, h4⟩ := seal_yes h
  unfold verifyV
  refine if_neg (fun hs => ?_)
  obtain ⟨-, -, -, h5⟩ := seal_yes hs
  have e := congrArg bytesOf h5
  rw [bytes_seal, hz] at e
  subst h4
  have key := no_seal (fun n => bytesOf (numB n)) num_no35 (fun n m hh => numB_inj (bytesOf_inj hh)) (bytesOf x) (bytesOf (cutB z 35).1) (bytes_bytes x) h2 (cut_no35 z) k v hv
  have hb := bytes_seal x
  refine key (by have := hk; rw [hb] at this; exact this) ?_ ?_
  · intro hh
    apply hne
    rw [← hh]
    congr 1
  · rw [← hb]; exact e.symm
/-! ### the byte -/
theorem u8_id (n : Int) (h0 : 0 ≤ n) (h1 : n < 256) : IntKind.u8.wrap n = n := by
  unfold IntKind.wrap
  simp [IntKind.bits, IntKind.signed]
  omega
theorem xor_byte (b x : Int) (hb : byte b) (hx0 : 1 ≤ x) (hx1 : x ≤ 255) : byte (Go.bits .xor .u8 b x) ∧ b ≠ Go.bits .xor .u8 b x := by
  obtain ⟨m, rfl⟩ := Int.eq_ofNat_of_zero_le hb.1
  obtain ⟨n, rfl⟩ := Int.eq_ofNat_of_zero_le (show 0 ≤ x by omega)
  have hm : m < 256 := by have := hb.2; omega
  have hn : n < 256 := by omega
  have h1 : (BitVec.ofInt 8 (m : Int)) = BitVec.ofNat 8 m := by simp
  have h2 : (BitVec.ofInt 8 (n : Int)) = BitVec.ofNat 8 n := by simp
  have e : Go.bits .xor .u8 (m : Int) (n : Int) = (((BitVec.ofNat 8 m) ^^^ (BitVec.ofNat 8 n)).toNat : Int) := by
    show IntKind.u8.wrap (((BitVec.ofInt 8 (m : Int)) ^^^ (BitVec.ofInt 8 (n : Int))).toNat : Int) = _
    rw [h1, h2]
    have := ((BitVec.ofNat 8 m) ^^^ (BitVec.ofNat 8 n)).isLt
    exact u8_id _ (by omega) (by omega)
  rw [e]
  have hl := ((BitVec.ofNat 8 m) ^^^ (BitVec.ofNat 8 n)).isLt
  refine ⟨⟨by omega, by omega⟩, fun h => ?_⟩
  have h3 : (BitVec.ofNat 8 m).toNat = ((BitVec.ofNat 8 m) ^^^ (BitVec.ofNat 8 n)).toNat := by
    rw [BitVec.toNat_ofNat, Nat.mod_eq_of_lt hm]; exact Int.ofNat.inj h
  have h4 := BitVec.eq_of_toNat_eq h3
  have h5 : (BitVec.ofNat 8 m) ^^^ (BitVec.ofNat 8 m) = BitVec.ofNat 8 m ^^^ ((BitVec.ofNat 8 m) ^^^ (BitVec.ofNat 8 n)) := by rw [← h4]
  rw [BitVec.xor_self, ← BitVec.xor_assoc, BitVec.xor_self, BitVec.zero_xor] at h5
  have h6 := congrArg BitVec.toNat h5
  have h7 : (BitVec.ofNat 8 n).toNat = n := by rw [BitVec.toNat_ofNat, Nat.mod_eq_of_lt hn]
  rw [h7] at h6
  simp at h6
  omega
end Go.Proofs.YtnbhbnndfpfikaaDoor.X
