/- What the printed functions of the package crc that turn bits, and the reference, answer, in plain words. -/
import Derived.Test.YtjcpamclggbbdaaNEvs
import Derived.Lib.ItoaNum
namespace Go.Proofs.Ytjcpamclggbbdaa.Math
open Go.RowKit Go.Proofs.Ytjcpamclggbbdaa.PNgt Go.Proofs.YtjcpamclggbbdaaW.PrintWords Go.Proofs.YtjcpamclggbbdaaW.PrintMore

theorem shr_bit (mask i : Nat) (h : mask < 4294967296) (hi : i ≤ 32) : Go.bits .and .u32 (shr .u32 (mask : Int) (i : Int)) 1 = ((mask.testBit i).toNat : Int) := by
  have e3 : shr .u32 (mask : Int) (i : Int) = ((mask / 2 ^ i : Nat) : Int) := by
    show (mask : Int) / 2 ^ min ((i : Nat) : Int).toNat 32 = _
    rw [Int.toNat_natCast, Nat.min_eq_left (by omega)]
    rw [show (2 : Int) ^ i = ((2 ^ i : Nat) : Int) from (Int.natCast_pow 2 i).symm]
    rfl
  have h2 : mask / 2 ^ i ≤ mask := Nat.div_le_self _ _
  rw [e3]
  have := u32_and_nat (mask / 2 ^ i) 1 (by omega) (by decide)
  rw [Nat.and_one_is_mod, ← Nat.toNat_testBit] at this
  exact this
theorem flip_eq {x : List Int} (hb : Bytes x) {n : Nat} (hn : n < 8 * x.length) :
    x.set (((n / 8 : Nat) : Int)).toNat (Go.bits .xor .u8 (rd x ((n / 8 : Nat) : Int)) (shl .u8 1 ((n % 8 : Nat) : Int))) = flip x n := by
  have hi : n / 8 < x.length := by omega
  have h1 := hb _ (rd_mem hi)
  have hp : (2 : Nat) ^ (n % 8) < 2 ^ 8 := Nat.pow_lt_pow_right (by omega) (by omega)
  rw [show (2 : Nat) ^ 8 = 256 from rfl] at hp
  have e : shl .u8 1 ((n % 8 : Nat) : Int) = ((2 ^ (n % 8) : Nat) : Int) := by
    show IntKind.u8.wrap (1 * 2 ^ min ((n % 8 : Nat) : Int).toNat 8) = _
    rw [Int.toNat_natCast, Nat.min_eq_left (by omega), Int.one_mul, show (2 : Int) ^ (n % 8) = ((2 ^ (n % 8) : Nat) : Int) from (Int.natCast_pow 2 _).symm, IntKind.wrap_u8']
    exact Int.emod_eq_of_lt (Int.natCast_nonneg _) (Int.ofNat_lt.mpr hp)
  rw [e, u8_xor _ _ h1.1 h1.2 (Int.natCast_nonneg _) (Int.ofNat_lt.mpr hp)]
  rfl
theorem flip_len' (x : List Int) (n : Nat) : (flip x n).length = x.length := flip_len x n
/-- What Burst answers. -/
def burstS (x : List Int) (at_ mask : Int) : List Int :=
  if 0 ≤ at_ ∧ at_ + Lib.bitLen mask.toNat ≤ 8 * x.length then flips x at_.toNat mask.toNat (Lib.bitLen mask.toNat) else x
theorem bl_le {mask : Nat} (h : mask < 4294967296) : Lib.bitLen mask ≤ 32 := Lib.bitLen_le mask 32 (by omega) (by rw [show (2 : Nat) ^ 32 = 4294967296 from rfl]; exact h)
theorem bl_lt {mask : Nat} (h : mask < 4294967296) : mask < 2 ^ Lib.bitLen mask := by
  by_cases h0 : mask = 0
  · subst h0; exact Nat.two_pow_pos _
  · exact (Lib.bitLenAux_bounds 64 mask (by rw [show (2 : Nat) ^ 64 = 18446744073709551616 from rfl]; omega) h0).2.2
theorem bl_pos {mask : Nat} (h : mask < 4294967296) (h0 : mask ≠ 0) : 1 ≤ Lib.bitLen mask ∧ 2 ^ (Lib.bitLen mask - 1) ≤ mask := by
  have := Lib.bitLenAux_bounds 64 mask (by rw [show (2 : Nat) ^ 64 = 18446744073709551616 from rfl]; omega) h0
  exact ⟨this.1, this.2.1⟩
theorem bl_top {mask : Nat} (h : mask < 4294967296) (h0 : mask ≠ 0) : mask.testBit (Lib.bitLen mask - 1) = true := by
  have h1 := bl_pos h h0
  have h2 := bl_lt h
  have e : mask / 2 ^ (Lib.bitLen mask - 1) = 1 := by
    have e2 : 2 ^ Lib.bitLen mask = 2 ^ (Lib.bitLen mask - 1) * 2 := by rw [← Nat.pow_succ]; congr 1; omega
    rw [e2] at h2
    have := Nat.div_lt_of_lt_mul h2
    have h3 := (Nat.le_div_iff_mul_le (Nat.two_pow_pos (Lib.bitLen mask - 1))).mpr (by rw [Nat.one_mul]; exact h1.2)
    omega
  have := Nat.toNat_testBit mask (Lib.bitLen mask - 1)
  rw [e] at this
  cases hb : mask.testBit (Lib.bitLen mask - 1)
  · rw [hb] at this; exact absurd this (by decide)
  · rfl
theorem at_facts {a i len : Nat} (h : a + i < 8 * len) (hs : len < 140737488355328) :
    wrap64 ((a : Int) + (i : Int)) = ((a + i : Nat) : Int) ∧ wrap64 (Int.tdiv ((a + i : Nat) : Int) 8) = (((a + i) / 8 : Nat) : Int) ∧ Int.tmod ((a + i : Nat) : Int) 8 = (((a + i) % 8 : Nat) : Int) := by
  refine ⟨?_, ?_, ?_⟩
  · rw [w64 (by omega) (by omega)]; omega
  · rw [Int.tdiv_eq_ediv_of_nonneg (by omega), w64 (by omega) (by omega)]; omega
  · rw [Int.tmod_eq_emod_of_nonneg (by omega)]; omega
theorem burst_l0 {x : List Int} (hb : Bytes x) {a mask w : Nat} (hm : mask < 4294967296) (hw : w ≤ 32) (ha : a + w ≤ 8 * x.length) (hs : x.length < 140737488355328) (d : Nat) : ∀ i : Nat, i + d = w →
    Ev (fun k => crc_Burst.l0 k (a : Int) (mask : Int) (flips x a mask i) (w : Int) (i : Int)) (flips x a mask w) := by
  induction d with
  | zero =>
    intro i hi
    obtain rfl : i = w := by omega
    refine Ev.step (fun k => ?_) (Ev.now _)
    simp only [crc_Burst.l0]
    rw [if_neg (by omega)]
  | succ d ih =>
    intro i hi
    have e : wrap64 ((i : Int) + 1) = ((i + 1 : Nat) : Int) := by rw [w64 (by omega) (by omega)]; omega
    have h1 := ih (i + 1) (by omega)
    have hfb := flips_bytes hb a mask i (by omega)
    have hfl := flips_len x a mask i
    obtain ⟨g1, g2, g3⟩ := at_facts (a := a) (i := i) (len := x.length) (by omega) hs
    have e2 : flips x a mask (i + 1) = if mask.testBit i then flip (flips x a mask i) (a + i) else flips x a mask i := rfl
    rw [e2] at h1
    refine Ev.step (fun k => ?_) h1
    simp only [crc_Burst.l0]
    rw [if_pos (by omega), if_pos (by omega), shr_bit mask i hm (by omega), e]
    cases hbit : mask.testBit i
    · rw [if_neg (by decide)]
      rfl
    · rw [if_pos (by decide), g1, g2, g3, if_pos (by omega), if_pos (by rw [hfl]; omega), if_pos (by omega), flip_eq hfb (by rw [hfl]; omega)]
      rfl
theorem burst_ {x : List Int} (hb : Bytes x) (hs : x.length < 140737488355328) {at_ mask : Int} (h1 : -9223372036854775808 ≤ at_ ∧ at_ < 9223372036854775808) (hm : 0 ≤ mask ∧ mask < 4294967296) :
    Ev (fun k => crc_Burst.f k x at_ mask) (burstS x at_ mask) := by
  obtain ⟨m, rfl⟩ : ∃ m : Nat, mask = (m : Int) := ⟨mask.toNat, by omega⟩
  have hm32 : m < 4294967296 := by omega
  have hw := bl_le hm32
  unfold crc_Burst.f burstS bits_Len32.f
  rw [clone_ hs, if_pos ⟨by omega, by omega⟩]
  simp only [Option.bind_some, Int.toNat_natCast]
  have e1 : wrap64 (8 * (x.length : Int)) = 8 * (x.length : Int) := w64 (by omega) (by omega)
  have e2 : wrap64 (8 * (x.length : Int) - (Lib.bitLen m : Int)) = 8 * (x.length : Int) - (Lib.bitLen m : Int) := w64 (by omega) (by omega)
  rw [e1, e2]
  have bad : Ev (fun k => crc_Burst.j0 k at_ (m : Int) x (Lib.bitLen m : Int) true) x := Ev.step (fun k => by simp only [crc_Burst.j0]; exact if_pos trivial) (Ev.now _)
  by_cases h0 : at_ < 0
  · rw [if_neg (fun h => by omega)]
    exact Ev.congr (fun k => by rw [if_pos h0]) bad
  · obtain ⟨a, rfl⟩ : ∃ a : Nat, at_ = (a : Int) := ⟨at_.toNat, by omega⟩
    refine Ev.congr (fun k => if_neg h0) ?_
    by_cases hz : 0 < Lib.bitLen m
    · refine Ev.congr (fun k => by rw [if_pos (by omega)]) ?_
      by_cases hl : (a : Int) > 8 * (x.length : Int) - (Lib.bitLen m : Int)
      · rw [decide_eq_true hl, if_neg (fun h => by omega)]
        exact bad
      · rw [decide_eq_false hl, if_pos ⟨by omega, by omega⟩, Int.toNat_natCast]
        exact Ev.step (fun k => by simp only [crc_Burst.j0]; exact if_neg (by decide)) (burst_l0 hb hm32 hw (by omega) hs (Lib.bitLen m) 0 (by omega))
    · have hz0 : Lib.bitLen m = 0 := by omega
      refine Ev.congr (fun k => by rw [if_neg (by omega)]) ?_
      have er : (if 0 ≤ (a : Int) ∧ (a : Int) + (Lib.bitLen m : Int) ≤ 8 * (x.length : Int) then flips x (a : Int).toNat m (Lib.bitLen m) else x) = x := by
        rw [hz0]; split <;> rfl
      rw [er, hz0]
      refine Ev.step (fun k => by simp only [crc_Burst.j0]; exact if_neg (by decide)) (Ev.step (fun k => ?_) (Ev.now _))
      simp only [crc_Burst.l0]
      rw [if_neg (by omega)]
theorem burstS_len (x : List Int) (at_ mask : Int) : (burstS x at_ mask).length = x.length := by
  unfold burstS; split
  · exact flips_len _ _ _ _
  · rfl
theorem burstS_bytes {x : List Int} (hb : Bytes x) (at_ mask : Int) : Bytes (burstS x at_ mask) := by
  unfold burstS; split
  · exact flips_bytes hb _ _ _ (by omega)
  · exact hb
theorem burstS_twice {x : List Int} (hb : Bytes x) (at_ mask : Int) : burstS (burstS x at_ mask) at_ mask = x := by
  have e0 : ∀ y, burstS y at_ mask = if 0 ≤ at_ ∧ at_ + Lib.bitLen mask.toNat ≤ 8 * y.length then flips y at_.toNat mask.toNat (Lib.bitLen mask.toNat) else y := fun _ => rfl
  have e := e0 (burstS x at_ mask)
  rw [burstS_len] at e
  rw [e]
  by_cases h : 0 ≤ at_ ∧ at_ + Lib.bitLen mask.toNat ≤ 8 * x.length
  · rw [if_pos h]
    unfold burstS
    rw [if_pos h]
    exact flips_twice hb (by omega)
  · rw [if_neg h]
    unfold burstS
    rw [if_neg h]
/-- No burst is overlooked. -/
theorem burst_found {l : List Int} (hb : Bytes l) {at_ mask : Int} (hm : 0 ≤ mask ∧ mask < 4294967296) (h : burstS (sealS l) at_ mask ≠ sealS l) : openS (burstS (sealS l) at_ mask) = ([], 31) := by
  have hsb := sealS_bytes hb
  by_cases hc : 0 ≤ at_ ∧ at_ + Lib.bitLen mask.toNat ≤ 8 * (sealS l).length
  · have hm32 : mask.toNat < 4294967296 := by omega
    have hw := bl_lt hm32
    have h0 : mask.toNat ≠ 0 := by
      intro hz
      apply h
      unfold burstS
      rw [if_pos hc, hz]
      rfl
    refine open_bad (found (f := sealS l) (at_ := at_.toNat) (mask := mask.toNat) (m := 8 * (sealS l).length - at_.toNat) hsb (burstS_bytes hsb _ _) (burstS_len _ _ _) (Nat.lt_of_lt_of_le hw (Nat.pow_le_pow_right (by omega) (by omega))) (by omega) h0 hm32 ?_ (run_seal hb))
    intro i hi
    unfold burstS
    rw [if_pos hc, flips_bit (by omega)]
    congr 1
    unfold pat
    by_cases hlo : at_.toNat ≤ i
    · by_cases hhi : i < at_.toNat + Lib.bitLen mask.toNat
      · simp [hlo, hhi]
      · have : mask.toNat.testBit (i - at_.toNat) = false := Nat.testBit_lt_two_pow (Nat.lt_of_lt_of_le hw (Nat.pow_le_pow_right (by omega) (by omega)))
        rw [this]
        simp
    · simp [hlo]
  · exact absurd (by unfold burstS; rw [if_neg hc]) h

end Go.Proofs.Ytjcpamclggbbdaa.Math
