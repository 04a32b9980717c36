/- What the net's functions answer where the frames are bytes: a burst within forty rounds, a comparison within its length. -/
import Derived.Test.YtjcpamclggbbdaaNBits
import Derived.Test.YtjcpamclggbbdaaNet5
namespace Go.Proofs.Ytjcpamclggbbdaa.Math
open Go.RowKit Go.Proofs.Ytjcpamclggbbdaa.PNgt Go.Proofs.YtjcpamclggbbdaaW.PrintWords Go.Proofs.YtjcpamclggbbdaaW.PrintMore
theorem equal_k0 {a b : List Int} (hl : a.length = b.length) (hs : a.length < 9223372036854775807) (d : Nat) : ∀ i k : Nat, i + d = a.length → d < k →
    slices_Equal_byte_byte.l0 k a b (a.length : Int) (i : Int) = some (decide (a.drop i = b.drop i)) := by
  induction d with
  | zero =>
    intro i k hi hk
    obtain ⟨k, rfl⟩ : ∃ q, k = q + 1 := ⟨k - 1, by omega⟩
    simp only [slices_Equal_byte_byte.l0]
    rw [if_neg (by omega), List.drop_eq_nil_of_le (by omega), List.drop_eq_nil_of_le (by omega)]
    simp
  | succ d ih =>
    intro i k hi hk
    obtain ⟨k, rfl⟩ : ∃ q, k = q + 1 := ⟨k - 1, by omega⟩
    have hlt : i < a.length := by omega
    have e : wrap64 ((i : Int) + 1) = ((i + 1 : Nat) : Int) := by rw [w64 (by omega) (by omega)]; omega
    have h1 := ih (i + 1) k (by omega) (by omega)
    rw [rd_drop hlt, rd_drop (xs := b) (by omega)]
    simp only [slices_Equal_byte_byte.l0]
    rw [if_pos (by omega), if_pos (by omega), if_pos (by omega), if_pos (by omega)]
    by_cases h : rd a i = rd b i
    · have e2 : decide (rd a i :: a.drop (i + 1) = rd b i :: b.drop (i + 1)) = decide (a.drop (i + 1) = b.drop (i + 1)) := by rw [h]; simp
      rw [e2, if_pos h, e]
      exact h1
    · have e2 : decide (rd a i :: a.drop (i + 1) = rd b i :: b.drop (i + 1)) = false := by simp [h]
      rw [e2, if_neg h]
theorem equal_k {a b : List Int} (hs : a.length < 9223372036854775807) (k : Nat) (hk : a.length < k) : slices_Equal_byte_byte.f k a b = some (decide (a = b)) := by
  unfold slices_Equal_byte_byte.f
  by_cases h : a.length = b.length
  · rw [if_pos (by omega)]
    exact equal_k0 h hs a.length 0 k (by omega) hk
  · have e : decide (a = b) = false := by simp; intro hc; exact h (by rw [hc])
    rw [e, if_neg (by omega)]
theorem burst_k0 {x : List Int} (hb : Bytes x) {a mask w : Nat} (hm : mask < 4294967296) (hw : w ≤ 32) (ha : a + w ≤ 8 * x.length) (hs : x.length < 140737488355328) (d : Nat) : ∀ i k : Nat, i + d = w → d < k →
    crc_Burst.l0 k (a : Int) (mask : Int) (flips x a mask i) (w : Int) (i : Int) = some (flips x a mask w) := by
  induction d with
  | zero =>
    intro i k hi hk
    obtain ⟨k, rfl⟩ : ∃ q, k = q + 1 := ⟨k - 1, by omega⟩
    obtain rfl : i = w := by omega
    simp only [crc_Burst.l0]
    rw [if_neg (by omega)]
  | succ d ih =>
    intro i k hi hk
    obtain ⟨k, rfl⟩ : ∃ q, k = q + 1 := ⟨k - 1, by omega⟩
    have e : wrap64 ((i : Int) + 1) = ((i + 1 : Nat) : Int) := by rw [w64 (by omega) (by omega)]; omega
    have h1 := ih (i + 1) k (by omega) (by omega)
    have hfb := flips_bytes hb a mask i (by omega)
    have hfl := flips_len x a mask i
    obtain ⟨g1, g2, g3⟩ := at_facts (a := a) (i := i) (len := x.length) (by omega) hs
    have e2 : flips x a mask (i + 1) = if mask.testBit i then flip (flips x a mask i) (a + i) else flips x a mask i := rfl
    rw [e2] at h1
    rw [← h1]
    simp only [crc_Burst.l0]
    rw [if_pos (by omega), if_pos (by omega), shr_bit mask i hm (by omega), e]
    cases hbit : mask.testBit i
    · rw [if_neg (by decide)]
      rfl
    · rw [if_pos (by decide), g1, g2, g3, if_pos (by omega), if_pos (by rw [hfl]; omega), if_pos (by omega), flip_eq hfb (by rw [hfl]; omega)]
      rfl
theorem burst_k {x : List Int} (hb : Bytes x) (hs : x.length < 140737488355328) {at_ mask : Int} (h1 : -9223372036854775808 ≤ at_ ∧ at_ < 9223372036854775808) (hm : 0 ≤ mask ∧ mask < 4294967296) (k : Nat) (hk : 36 ≤ k) :
    crc_Burst.f k x at_ mask = some (burstS x at_ mask) := by
  obtain ⟨k, rfl⟩ : ∃ q, k = q + 2 := ⟨k - 2, by omega⟩
  obtain ⟨m, rfl⟩ : ∃ m : Nat, mask = (m : Int) := ⟨mask.toNat, by omega⟩
  have hm32 : m < 4294967296 := by omega
  have hw := bl_le hm32
  unfold crc_Burst.f burstS bits_Len32.f
  rw [clone_ hs, if_pos ⟨by omega, by omega⟩]
  simp only [Option.bind_some, Int.toNat_natCast]
  have e1 : wrap64 (8 * (x.length : Int)) = 8 * (x.length : Int) := w64 (by omega) (by omega)
  have e2 : wrap64 (8 * (x.length : Int) - (Lib.bitLen m : Int)) = 8 * (x.length : Int) - (Lib.bitLen m : Int) := w64 (by omega) (by omega)
  rw [e1, e2]
  have bad : crc_Burst.j0 (k + 2) at_ (m : Int) x (Lib.bitLen m : Int) true = some x := by
    simp only [crc_Burst.j0]
    exact if_pos trivial
  by_cases h0 : at_ < 0
  · rw [if_pos h0, if_neg (fun h => by omega)]
    exact bad
  · obtain ⟨a, rfl⟩ : ∃ a : Nat, at_ = (a : Int) := ⟨at_.toNat, by omega⟩
    rw [if_neg h0]
    by_cases hz : 0 < Lib.bitLen m
    · rw [if_pos (by omega)]
      by_cases hl : (a : Int) > 8 * (x.length : Int) - (Lib.bitLen m : Int)
      · rw [decide_eq_true hl, if_neg (fun h => by omega)]
        exact bad
      · rw [decide_eq_false hl, if_pos ⟨by omega, by omega⟩, Int.toNat_natCast]
        simp only [crc_Burst.j0]
        rw [if_neg (by decide)]
        exact burst_k0 hb hm32 hw (by omega) hs (Lib.bitLen m) 0 (k + 1) (by omega) (by omega)
    · have hz0 : Lib.bitLen m = 0 := by omega
      have er : (if 0 ≤ (a : Int) ∧ (a : Int) + (Lib.bitLen m : Int) ≤ 8 * (x.length : Int) then flips x (a : Int).toNat m (Lib.bitLen m) else x) = x := by
        rw [hz0]; split <;> rfl
      rw [if_neg (by omega)]
      rw [er, hz0]
      simp only [crc_Burst.j0]
      rw [if_neg (by decide)]
      simp only [crc_Burst.l0]
      exact if_neg (by omega)
end Go.Proofs.Ytjcpamclggbbdaa.Math
