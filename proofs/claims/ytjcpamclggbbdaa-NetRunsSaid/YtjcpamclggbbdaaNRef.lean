/- What the reference's Burst answers, beside a net. -/
import Derived.Test.YtjcpamclggbbdaaNPure
import Derived.Test.YtjcpamclggbbdaaNruB
namespace Go.Proofs.Ytjcpamclggbbdaa.Math
open Go.RowKit Go.Proofs.Ytjcpamclggbbdaa.PNgt Go.Proofs.Ytjcpamclggbbdaa.PNru Go.Proofs.YtjcpamclggbbdaaW.PrintWords Go.Proofs.YtjcpamclggbbdaaW.PrintMore
theorem str_inj {a b : List Int} (ha : Bytes a) (hb : Bytes b) (h : (strOfNums a).toList = (strOfNums b).toList) : a = b := by
  rw [Lib.strOfNums_toList, Lib.strOfNums_toList] at h
  unfold Lib.bytesOf at h
  have hm : ∀ l : List Int, Bytes l → (l.map fun n => UInt8.ofNat n.toNat).map (fun u => (u.toNat : Int)) = l := by
    intro l hl
    rw [List.map_map]
    conv => rhs; rw [← List.map_id l]
    apply List.map_congr_left
    intro x hx
    have := hl x hx
    simp only [Function.comp, UInt8.toNat_ofNat', id]
    omega
  rw [← hm a ha, ← hm b hb, h]
theorem rburst_bad {x : List Int} {at_ : Int} {mask w : Nat} (hm : mask < 4294967296) (hw : w < 32) (ht : mask.testBit w = true) (hs : x.length < 140737488355328) (h1 : -9223372036854775808 ≤ at_ ∧ at_ < 9223372036854775808) (h : ¬ (0 ≤ at_ ∧ at_ + w < 8 * x.length)) (d : Nat) :
    ∀ (i : Nat) (y : List Int), y.length = x.length → i + d = w → Ev (fun k => ropewayref03_Burst.l0 k x at_ (mask : Int) y (i : Int)) x := by
  have e8 := Aside0.mk (show wrap64 (8 * (x.length : Int)) = 8 * (x.length : Int) from w64 (by omega) (by omega))
  induction d with
  | zero =>
    intro i y _ hi
    obtain rfl : i = w := by omega
    have e9 := Aside0.mk (show wrap64 (8 * (x.length : Int) - (i : Int)) = 8 * (x.length : Int) - (i : Int) from w64 (by omega) (by omega))
    refine Ev.step (fun k => ?_) (Ev.now _)
    simp only [ropewayref03_Burst.l0]
    rw [if_pos (by omega), if_pos (by omega), shr_bit mask i hm (by omega), ht, if_neg (by decide), e8.out, e9.out]
    simp only [Option.bind_some, List.nil_append, List.length_nil, Nat.zero_add]
    by_cases h0 : at_ < 0
    · rw [if_pos h0, if_pos hs]
    · rw [if_neg h0, if_pos (by omega), if_pos hs]
  | succ d ih =>
    intro i y hy hi
    have e := Aside0.mk (show wrap64 ((i : Int) + 1) = ((i + 1 : Nat) : Int) from by rw [w64 (by omega) (by omega)]; omega)
    have e9 := Aside0.mk (show wrap64 (8 * (x.length : Int) - (i : Int)) = 8 * (x.length : Int) - (i : Int) from w64 (by omega) (by omega))
    cases hbit : mask.testBit i
    · refine Ev.step (fun k => ?_) (ih (i + 1) y hy (by omega))
      simp only [ropewayref03_Burst.l0]
      rw [if_pos (by omega), if_pos (by omega), shr_bit mask i hm (by omega), hbit, if_pos (by decide), e.out]
    · by_cases h0 : 0 ≤ at_ ∧ at_ + i < 8 * x.length
      · obtain ⟨a, rfl⟩ : ∃ a : Nat, at_ = (a : Int) := ⟨at_.toNat, by omega⟩
        have g := Aside0.mk (at_facts (a := a) (i := i) (len := x.length) (by omega) hs)
        refine Ev.step (fun k => ?_) (ih (i + 1) (y.set ((((a + i) / 8 : Nat) : Int)).toNat (Go.bits .xor .u8 (rd y (((a + i) / 8 : Nat) : Int)) (shl .u8 1 (((a + i) % 8 : Nat) : Int)))) (by simpa using hy) (by omega))
        simp only [ropewayref03_Burst.l0]
        rw [if_pos (by omega), if_pos (by omega), shr_bit mask i hm (by omega), hbit, if_neg (by decide), if_neg (by omega), e8.out, e9.out, if_neg (by omega), g.out.1, g.out.2.1, g.out.2.2, if_pos (by omega), if_pos (by omega), if_pos (by omega), e.out]
      · refine Ev.step (fun k => ?_) (Ev.now _)
        simp only [ropewayref03_Burst.l0]
        rw [if_pos (by omega), if_pos (by omega), shr_bit mask i hm (by omega), hbit, if_neg (by decide), e8.out, e9.out]
        simp only [Option.bind_some, List.nil_append, List.length_nil, Nat.zero_add]
        by_cases h0 : at_ < 0
        · rw [if_pos h0, if_pos hs]
        · rw [if_neg h0, if_pos (by omega), if_pos hs]
theorem rburst_ok {x : List Int} {at_ : Int} {mask : Nat} (hm : mask < 4294967296) (hs : x.length < 140737488355328) (h : mask = 0 ∨ (0 ≤ at_ ∧ at_ + Lib.bitLen mask ≤ 8 * x.length)) (d : Nat) : ∀ i : Nat, i + d = 32 →
    (∀ j, mask.testBit j = true → j < Lib.bitLen mask) → Bytes (flips x at_.toNat mask i) → Ev (fun k => ropewayref03_Burst.l0 k x at_ (mask : Int) (flips x at_.toNat mask i) (i : Int)) (flips x at_.toNat mask 32) := by
  have e8 := Aside0.mk (show wrap64 (8 * (x.length : Int)) = 8 * (x.length : Int) from w64 (by omega) (by omega))
  have hw := bl_le hm
  induction d with
  | zero =>
    intro i hi _ _
    obtain rfl : i = 32 := by omega
    refine Ev.step (fun k => ?_) (Ev.now _)
    simp only [ropewayref03_Burst.l0]
    rw [if_neg (by omega)]
  | succ d ih =>
    intro i hi hj hfb
    have e := Aside0.mk (show wrap64 ((i : Int) + 1) = ((i + 1 : Nat) : Int) from by rw [w64 (by omega) (by omega)]; omega)
    have e9 := Aside0.mk (show wrap64 (8 * (x.length : Int) - (i : Int)) = 8 * (x.length : Int) - (i : Int) from w64 (by omega) (by omega))
    have e2 : flips x at_.toNat mask (i + 1) = if mask.testBit i then flip (flips x at_.toNat mask i) (at_.toNat + i) else flips x at_.toNat mask i := rfl
    have hfl := flips_len x at_.toNat mask i
    have h1 := ih (i + 1) (by omega) hj
    rw [e2] at h1
    cases hbit : mask.testBit i
    · rw [hbit] at h1
      refine Ev.step (fun k => ?_) (h1 hfb)
      simp only [ropewayref03_Burst.l0]
      rw [if_pos (by omega), if_pos (by omega), shr_bit mask i hm (by omega), hbit, if_pos (by decide), e.out]
      rfl
    · rw [hbit] at h1
      have hji := hj i hbit
      have h' : 0 ≤ at_ ∧ at_ + Lib.bitLen mask ≤ 8 * x.length := by
        rcases h with h | h
        · rw [h, Nat.zero_testBit] at hbit
          cases hbit
        · exact h
      obtain ⟨a, rfl⟩ : ∃ a : Nat, at_ = (a : Int) := ⟨at_.toNat, by omega⟩
      simp only [Int.toNat_natCast] at h1 hfb hfl ⊢
      have g := Aside0.mk (at_facts (a := a) (i := i) (len := x.length) (by omega) hs)
      refine Ev.step (fun k => ?_) (h1 (flip_bytes hfb _ (by rw [hfl]; omega)))
      simp only [ropewayref03_Burst.l0]
      rw [if_pos (by omega), if_pos (by omega), shr_bit mask i hm (by omega), hbit, if_neg (by decide), if_neg (by omega), e8.out, e9.out, if_neg (by omega), g.out.1, g.out.2.1, g.out.2.2, if_pos (by omega), if_pos (by rw [hfl]; omega), if_pos (by omega), flip_eq hfb (by rw [hfl]; omega), e.out]
      rfl
theorem rburst_ {x : List Int} (hb : Bytes x) (hs : x.length < 140737488355328) {at_ mask : Int} (h1 : -9223372036854775808 ≤ at_ ∧ at_ < 9223372036854775808) (hm : 0 ≤ mask ∧ mask < 4294967296) :
    Ev (fun k => ropewayref03_Burst.f k x at_ mask) (burstS x at_ mask) := by
  obtain ⟨m, rfl⟩ : ∃ m : Nat, mask = (m : Int) := ⟨mask.toNat, by omega⟩
  have hm32 : m < 4294967296 := by omega
  have hw := bl_le hm32
  refine Ev.congr (f := fun k => ropewayref03_Burst.l0 k x at_ (m : Int) x 0) (fun k => ?_) ?_
  · unfold ropewayref03_Burst.f
    simp only [Option.bind_some, List.nil_append, List.length_nil, Nat.zero_add]
    rw [if_pos hs]
  · by_cases hc : m = 0 ∨ (0 ≤ at_ ∧ at_ + Lib.bitLen m ≤ 8 * x.length)
    · have hj : ∀ j, m.testBit j = true → j < Lib.bitLen m := by
        intro j hj
        rcases Nat.lt_or_ge j (Lib.bitLen m) with h | h
        · exact h
        · rw [Nat.testBit_lt_two_pow (Nat.lt_of_lt_of_le (bl_lt hm32) (Nat.pow_le_pow_right (by omega) h))] at hj
          cases hj
      have := rburst_ok hm32 hs hc 32 0 (by omega) hj hb
      have e : flips x at_.toNat m 32 = burstS x at_ (m : Int) := by
        have h2 := flips_more (x := x) (at_ := at_.toNat) (bl_lt hm32) (32 - Lib.bitLen m)
        rw [show Lib.bitLen m + (32 - Lib.bitLen m) = 32 by omega] at h2
        unfold burstS
        rw [Int.toNat_natCast]
        split
        · exact h2
        · rcases hc with hc | hc
          · rw [h2, hc]; rfl
          · rename_i hn; exact absurd hc hn
      rw [← e]
      exact this
    · have h0 : m ≠ 0 := fun h => hc (.inl h)
      have hn : ¬ (0 ≤ at_ ∧ at_ + Lib.bitLen m ≤ 8 * x.length) := fun h => hc (.inr h)
      have hp := bl_pos hm32 h0
      have e : burstS x at_ (m : Int) = x := by
        unfold burstS
        rw [Int.toNat_natCast, if_neg hn]
      rw [e]
      exact rburst_bad (w := Lib.bitLen m - 1) hm32 (by omega) (bl_top hm32 h0) hs h1 (fun h => hn ⟨h.1, by omega⟩) (Lib.bitLen m - 1) 0 x rfl (by omega)
end Go.Proofs.Ytjcpamclggbbdaa.Math
