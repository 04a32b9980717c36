/- What the printed functions of the reference of crc answer, in plain words. -/
import Derived.Test.YtjcpamclggbbdaaBits
namespace Go.Proofs.Ytjcpamclggbbdaa.Math
open Go.RowKit Go.Proofs.Ytjcpamclggbbdaa.PCrc Go.Proofs.YtjcpamclggbbdaaW.PrintWords Go.Proofs.YtjcpamclggbbdaaW.PrintMore

/-! The reference. -/
theorem bit_step {c : Nat} (h : c < 4294967296) (b : Bool) : (if Go.bits .xor .u32 (Go.bits .and .u32 (c : Int) 1) (b.toNat : Int) = 1 then Go.bits .xor .u32 ((c : Int) / 2) 3988292384 else (c : Int) / 2) = (L (c ^^^ b.toNat) : Nat) := by
  have e1 : Go.bits .and .u32 (c : Int) 1 = ((c % 2 : Nat) : Int) := by
    have := u32_and_nat c 1 h (by decide)
    rw [Nat.and_one_is_mod] at this
    exact this
  have hb : b.toNat < 2 := by cases b <;> decide
  rw [e1, u32_xor_nat (c % 2) b.toNat (by omega) (by omega)]
  have e2 : (c ^^^ b.toNat) % 2 = (c % 2) ^^^ b.toNat := by
    have := Nat.xor_mod_two_pow (a := c) (b := b.toNat) (n := 1)
    rw [Nat.pow_one, Nat.mod_eq_of_lt hb] at this
    exact this
  have e3 : (c ^^^ b.toNat) / 2 = c / 2 := by
    have := Nat.xor_div_two_pow (a := c) (b := b.toNat) (n := 1)
    rw [Nat.pow_one, Nat.div_eq_of_lt hb, Nat.xor_zero] at this
    exact this
  unfold L
  rw [e2, e3]
  by_cases hq : (c % 2) ^^^ b.toNat = 1
  · rw [if_pos (by rw [hq]; rfl), if_pos hq]
    exact u32_xor_nat (c / 2) 3988292384 (by omega) (by decide)
  · rw [if_neg (by omega), if_neg hq, Nat.xor_zero]
    omega
theorem rof_l0 {b : List Int} (hb : Bytes b) (hs : b.length < 140737488355328) (d : Nat) : ∀ i : Nat, i + d = 8 * b.length →
    Ev (fun k => ropewayref03_Of.l0 k b ((run F (bit b) i : Nat) : Int) (i : Int)) ((run F (bit b) (8 * b.length) ^^^ F : Nat) : Int) := by
  have hlt : ∀ i, run F (bit b) i < 4294967296 := by
    intro i
    induction i with
    | zero => show F < 4294967296; decide
    | succ i ih => exact L_lt (xor_lt ih (by cases bit b i <;> decide))
  have e8 : wrap64 (8 * (b.length : Int)) = 8 * (b.length : Int) := w64 (by omega) (by omega)
  induction d with
  | zero =>
    intro i hi
    obtain rfl : i = 8 * b.length := by omega
    refine Ev.step (fun k => ?_) (Ev.now _)
    simp only [ropewayref03_Of.l0]
    have h1 := hlt (8 * b.length)
    rw [e8, if_neg (by omega), not_xor h1]
    congr 1
    generalize run F (bit b) (8 * b.length) = c at h1 ⊢
    show ((4294967295 : Int) - c) % 4294967296 = ((4294967295 - c : Nat) : Int)
    clear e8 hlt
    omega
  | succ d ih =>
    intro i hi
    have hi8 : i / 8 < b.length := by omega
    have e : wrap64 ((i : Int) + 1) = ((i + 1 : Nat) : Int) := by rw [w64 (by omega) (by omega)]; omega
    have e1 : wrap64 (Int.tdiv (i : Int) 8) = ((i / 8 : Nat) : Int) := by rw [Int.tdiv_eq_ediv_of_nonneg (by omega), w64 (by omega) (by omega)]; omega
    have e2 : Int.tmod (i : Int) 8 = ((i % 8 : Nat) : Int) := by rw [Int.tmod_eq_emod_of_nonneg (by omega)]; omega
    have hx := hb _ (rd_mem hi8)
    have e3 : Go.bits .and .u32 ((shr .u8 (rd b ((i / 8 : Nat) : Int)) ((i % 8 : Nat) : Int)) % 4294967296) 1 = ((bit b i).toNat : Int) := by
      have hr : rd b ((i / 8 : Nat) : Int) = ((b.getD (i / 8) 0).toNat : Int) := by
        have : rd b ((i / 8 : Nat) : Int) = b.getD (i / 8) 0 := rfl
        omega
      have hq : shr .u8 (rd b ((i / 8 : Nat) : Int)) ((i % 8 : Nat) : Int) = (((b.getD (i / 8) 0).toNat / 2 ^ (i % 8) : Nat) : Int) := by
        rw [hr]
        show _ / 2 ^ min ((i % 8 : Nat) : Int).toNat 8 = _
        rw [Int.toNat_natCast, Nat.min_eq_left (by omega), show (2 : Int) ^ (i % 8) = ((2 ^ (i % 8) : Nat) : Int) from (Int.natCast_pow 2 _).symm]
        rfl
      have hdl : (b.getD (i / 8) 0).toNat / 2 ^ (i % 8) ≤ (b.getD (i / 8) 0).toNat := Nat.div_le_self _ _
      have hlt2 : (b.getD (i / 8) 0).toNat < 256 := by
        have : rd b ((i / 8 : Nat) : Int) = b.getD (i / 8) 0 := rfl
        omega
      have hlt3 : (b.getD (i / 8) 0).toNat / 2 ^ (i % 8) < 4294967296 := Nat.lt_of_le_of_lt hdl (by omega)
      rw [hq, show (((b.getD (i / 8) 0).toNat / 2 ^ (i % 8) : Nat) : Int) % 4294967296 = (((b.getD (i / 8) 0).toNat / 2 ^ (i % 8) : Nat) : Int) from Int.emod_eq_of_lt (Int.natCast_nonneg _) (Int.ofNat_lt.mpr hlt3)]
      have := u32_and_nat ((b.getD (i / 8) 0).toNat / 2 ^ (i % 8)) 1 hlt3 (by decide)
      rw [Nat.and_one_is_mod, ← Nat.toNat_testBit] at this
      exact this
    have h1 := ih (i + 1) (by omega)
    have e4 : run F (bit b) (i + 1) = L (run F (bit b) i ^^^ (bit b i).toNat) := rfl
    rw [e4, ← bit_step (hlt i) (bit b i)] at h1
    refine Ev.step (fun k => ?_) h1
    simp only [ropewayref03_Of.l0]
    rw [e8, if_pos (by omega), e1, if_pos (by omega), if_pos (by omega), e2, if_pos (by omega), e3, e]
    split <;> rfl
theorem rof_ {b : List Int} (hb : Bytes b) (hs : b.length < 140737488355328) : Ev (fun k => ropewayref03_Of.f k b) (crcS b : Nat) := by
  have := rof_l0 hb hs (8 * b.length) 0 (by omega)
  unfold crcS
  rw [runL_bits _ _ hb]
  exact this
theorem rseal_ {b : List Int} (hb : Bytes b) (hs : b.length + 4 < 140737488355328) : Ev (fun k => ropewayref03_Seal.f k b) (sealS b) := by
  unfold ropewayref03_Seal.f
  refine Ev.bind (rof_ hb (by omega)) (Ev.congr (fun k => ?_) (Ev.now _))
  have hc := crcS_lt hb
  simp only [Option.bind_some, List.nil_append]
  rw [if_pos (by simp; omega), if_pos (by simp; omega)]
  unfold sealS low4
  rw [Int.tmod_eq_emod_of_nonneg (by omega), Int.tdiv_eq_ediv_of_nonneg (by omega), Int.tdiv_eq_ediv_of_nonneg (by omega), Int.tdiv_eq_ediv_of_nonneg (by omega)]
  congr 2
  simp only [List.cons.injEq, and_true]
  refine ⟨by omega, by omega, by omega, by omega⟩
theorem str_inj {a b : List Int} (ha : Bytes a) (hb : Bytes b) (h : (strOfNums a).toList = (strOfNums b).toList) : a = b := by
  rw [Lib.strOfNums_toList, Lib.strOfNums_toList] at h
  unfold Lib.bytesOf at h
  have hm : ∀ l : List Int, Bytes l → (l.map fun n => UInt8.ofNat n.toNat).map (fun u => (u.toNat : Int)) = l := by
    intro l hl
    rw [List.map_map]
    conv => rhs; rw [← List.map_id l]
    apply List.map_congr_left
    intro x hx
    have := hl x hx
    simp only [Function.comp, UInt8.toNat_ofNat', id]
    omega
  rw [← hm a ha, ← hm b hb, h]
theorem ropen_ {b : List Int} (hb : Bytes b) (hs : b.length < 140737488355328) : Ev (fun k => ropewayref03_Open.f k b) (openS b) := by
  have e : wrap64 ((b.length : Int) - 4) = (b.length : Int) - 4 := w64 (by omega) (by omega)
  unfold ropewayref03_Open.f openS
  simp only [e]
  by_cases h : b.length < 4
  · rw [if_neg (fun hc => by omega)]
    exact Ev.congr (fun k => by rw [if_pos (by omega)]) (Ev.now _)
  · have et : ((b.length : Int) - 4).toNat = b.length - 4 := by omega
    simp only [et, Option.bind_some, List.nil_append]
    have hl : (b.take (b.length - 4)).length = b.length - 4 := by rw [List.length_take]; omega
    refine Ev.congr (fun k => by rw [if_neg (by omega), if_pos (by omega), if_pos (by omega), if_pos (by simp; omega)]) ?_
    refine Ev.bind (rseal_ (hb.take _) (by omega)) (Ev.congr (fun k => ?_) (Ev.now _))
    have hd := List.take_append_drop (b.length - 4) b
    by_cases hq : low4 (crcS (b.take (b.length - 4))) = b.drop (b.length - 4)
    · have he : sealS (b.take (b.length - 4)) = b := by unfold sealS; rw [hq, hd]
      rw [he, if_pos rfl, if_pos ⟨by omega, hq⟩]
    · rw [if_neg (fun hc => ?_), if_neg (fun hc => hq hc.2)]
      have he := str_inj (sealS_bytes (hb.take _)) hb hc
      apply hq
      have : sealS (b.take (b.length - 4)) = b.take (b.length - 4) ++ b.drop (b.length - 4) := by rw [hd]; exact he
      exact List.append_cancel_left this
theorem rburst_bad {x : List Int} {at_ : Int} {mask w : Nat} (hm : mask < 4294967296) (hw : w < 32) (ht : mask.testBit w = true) (hs : x.length < 140737488355328) (h1 : -9223372036854775808 ≤ at_ ∧ at_ < 9223372036854775808) (h : ¬ (0 ≤ at_ ∧ at_ + w < 8 * x.length)) (d : Nat) :
    ∀ (i : Nat) (y : List Int), y.length = x.length → i + d = w → Ev (fun k => ropewayref03_Burst.l0 k x at_ (mask : Int) y (i : Int)) x := by
  have e8 := Aside0.mk (show wrap64 (8 * (x.length : Int)) = 8 * (x.length : Int) from w64 (by omega) (by omega))
  induction d with
  | zero =>
    intro i y _ hi
    obtain rfl : i = w := by omega
    have e9 := Aside0.mk (show wrap64 (8 * (x.length : Int) - (i : Int)) = 8 * (x.length : Int) - (i : Int) from w64 (by omega) (by omega))
    refine Ev.step (fun k => ?_) (Ev.now _)
    simp only [ropewayref03_Burst.l0]
    rw [if_pos (by omega), if_pos (by omega), shr_bit mask i hm (by omega), ht, if_neg (by decide), e8.out, e9.out]
    simp only [Option.bind_some, List.nil_append, List.length_nil, Nat.zero_add]
    by_cases h0 : at_ < 0
    · rw [if_pos h0, if_pos hs]
    · rw [if_neg h0, if_pos (by omega), if_pos hs]
  | succ d ih =>
    intro i y hy hi
    have e := Aside0.mk (show wrap64 ((i : Int) + 1) = ((i + 1 : Nat) : Int) from by rw [w64 (by omega) (by omega)]; omega)
    have e9 := Aside0.mk (show wrap64 (8 * (x.length : Int) - (i : Int)) = 8 * (x.length : Int) - (i : Int) from w64 (by omega) (by omega))
    cases hbit : mask.testBit i
    · refine Ev.step (fun k => ?_) (ih (i + 1) y hy (by omega))
      simp only [ropewayref03_Burst.l0]
      rw [if_pos (by omega), if_pos (by omega), shr_bit mask i hm (by omega), hbit, if_pos (by decide), e.out]
    · by_cases h0 : 0 ≤ at_ ∧ at_ + i < 8 * x.length
      · obtain ⟨a, rfl⟩ : ∃ a : Nat, at_ = (a : Int) := ⟨at_.toNat, by omega⟩
        have g := Aside0.mk (at_facts (a := a) (i := i) (len := x.length) (by omega) hs)
        refine Ev.step (fun k => ?_) (ih (i + 1) (y.set ((((a + i) / 8 : Nat) : Int)).toNat (Go.bits .xor .u8 (rd y (((a + i) / 8 : Nat) : Int)) (shl .u8 1 (((a + i) % 8 : Nat) : Int)))) (by simpa using hy) (by omega))
        simp only [ropewayref03_Burst.l0]
        rw [if_pos (by omega), if_pos (by omega), shr_bit mask i hm (by omega), hbit, if_neg (by decide), if_neg (by omega), e8.out, e9.out, if_neg (by omega), g.out.1, g.out.2.1, g.out.2.2, if_pos (by omega), if_pos (by omega), if_pos (by omega), e.out]
      · refine Ev.step (fun k => ?_) (Ev.now _)
        simp only [ropewayref03_Burst.l0]
        rw [if_pos (by omega), if_pos (by omega), shr_bit mask i hm (by omega), hbit, if_neg (by decide), e8.out, e9.out]
        simp only [Option.bind_some, List.nil_append, List.length_nil, Nat.zero_add]
        by_cases h0 : at_ < 0
        · rw [if_pos h0, if_pos hs]
        · rw [if_neg h0, if_pos (by omega), if_pos hs]
theorem rburst_ok {x : List Int} {at_ : Int} {mask : Nat} (hm : mask < 4294967296) (hs : x.length < 140737488355328) (h : mask = 0 ∨ (0 ≤ at_ ∧ at_ + Lib.bitLen mask ≤ 8 * x.length)) (d : Nat) : ∀ i : Nat, i + d = 32 →
    (∀ j, mask.testBit j = true → j < Lib.bitLen mask) → Bytes (flips x at_.toNat mask i) → Ev (fun k => ropewayref03_Burst.l0 k x at_ (mask : Int) (flips x at_.toNat mask i) (i : Int)) (flips x at_.toNat mask 32) := by
  have e8 := Aside0.mk (show wrap64 (8 * (x.length : Int)) = 8 * (x.length : Int) from w64 (by omega) (by omega))
  have hw := bl_le hm
  induction d with
  | zero =>
    intro i hi _ _
    obtain rfl : i = 32 := by omega
    refine Ev.step (fun k => ?_) (Ev.now _)
    simp only [ropewayref03_Burst.l0]
    rw [if_neg (by omega)]
  | succ d ih =>
    intro i hi hj hfb
    have e := Aside0.mk (show wrap64 ((i : Int) + 1) = ((i + 1 : Nat) : Int) from by rw [w64 (by omega) (by omega)]; omega)
    have e9 := Aside0.mk (show wrap64 (8 * (x.length : Int) - (i : Int)) = 8 * (x.length : Int) - (i : Int) from w64 (by omega) (by omega))
    have e2 : flips x at_.toNat mask (i + 1) = if mask.testBit i then flip (flips x at_.toNat mask i) (at_.toNat + i) else flips x at_.toNat mask i := rfl
    have hfl := flips_len x at_.toNat mask i
    have h1 := ih (i + 1) (by omega) hj
    rw [e2] at h1
    cases hbit : mask.testBit i
    · rw [hbit] at h1
      refine Ev.step (fun k => ?_) (h1 hfb)
      simp only [ropewayref03_Burst.l0]
      rw [if_pos (by omega), if_pos (by omega), shr_bit mask i hm (by omega), hbit, if_pos (by decide), e.out]
      rfl
    · rw [hbit] at h1
      have hji := hj i hbit
      have h' : 0 ≤ at_ ∧ at_ + Lib.bitLen mask ≤ 8 * x.length := by
        rcases h with h | h
        · rw [h, Nat.zero_testBit] at hbit
          cases hbit
        · exact h
      obtain ⟨a, rfl⟩ : ∃ a : Nat, at_ = (a : Int) := ⟨at_.toNat, by omega⟩
      simp only [Int.toNat_natCast] at h1 hfb hfl ⊢
      have g := Aside0.mk (at_facts (a := a) (i := i) (len := x.length) (by omega) hs)
      refine Ev.step (fun k => ?_) (h1 (flip_bytes hfb _ (by rw [hfl]; omega)))
      simp only [ropewayref03_Burst.l0]
      rw [if_pos (by omega), if_pos (by omega), shr_bit mask i hm (by omega), hbit, if_neg (by decide), if_neg (by omega), e8.out, e9.out, if_neg (by omega), g.out.1, g.out.2.1, g.out.2.2, if_pos (by omega), if_pos (by rw [hfl]; omega), if_pos (by omega), flip_eq hfb (by rw [hfl]; omega), e.out]
      rfl
theorem rburst_ {x : List Int} (hb : Bytes x) (hs : x.length < 140737488355328) {at_ mask : Int} (h1 : -9223372036854775808 ≤ at_ ∧ at_ < 9223372036854775808) (hm : 0 ≤ mask ∧ mask < 4294967296) :
    Ev (fun k => ropewayref03_Burst.f k x at_ mask) (burstS x at_ mask) := by
  obtain ⟨m, rfl⟩ : ∃ m : Nat, mask = (m : Int) := ⟨mask.toNat, by omega⟩
  have hm32 : m < 4294967296 := by omega
  have hw := bl_le hm32
  refine Ev.congr (f := fun k => ropewayref03_Burst.l0 k x at_ (m : Int) x 0) (fun k => ?_) ?_
  · unfold ropewayref03_Burst.f
    simp only [Option.bind_some, List.nil_append, List.length_nil, Nat.zero_add]
    rw [if_pos hs]
  · by_cases hc : m = 0 ∨ (0 ≤ at_ ∧ at_ + Lib.bitLen m ≤ 8 * x.length)
    · have hj : ∀ j, m.testBit j = true → j < Lib.bitLen m := by
        intro j hj
        rcases Nat.lt_or_ge j (Lib.bitLen m) with h | h
        · exact h
        · rw [Nat.testBit_lt_two_pow (Nat.lt_of_lt_of_le (bl_lt hm32) (Nat.pow_le_pow_right (by omega) h))] at hj
          cases hj
      have := rburst_ok hm32 hs hc 32 0 (by omega) hj hb
      have e : flips x at_.toNat m 32 = burstS x at_ (m : Int) := by
        have h2 := flips_more (x := x) (at_ := at_.toNat) (bl_lt hm32) (32 - Lib.bitLen m)
        rw [show Lib.bitLen m + (32 - Lib.bitLen m) = 32 by omega] at h2
        unfold burstS
        rw [Int.toNat_natCast]
        split
        · exact h2
        · rcases hc with hc | hc
          · rw [h2, hc]; rfl
          · rename_i hn; exact absurd hc hn
      rw [← e]
      exact this
    · have h0 : m ≠ 0 := fun h => hc (.inl h)
      have hn : ¬ (0 ≤ at_ ∧ at_ + Lib.bitLen m ≤ 8 * x.length) := fun h => hc (.inr h)
      have hp := bl_pos hm32 h0
      have e : burstS x at_ (m : Int) = x := by
        unfold burstS
        rw [Int.toNat_natCast, if_neg hn]
      rw [e]
      exact rburst_bad (w := Lib.bitLen m - 1) hm32 (by omega) (bl_top hm32 h0) hs h1 (fun h => hn ⟨h.1, by omega⟩) (Lib.bitLen m - 1) 0 x rfl (by omega)
end Go.Proofs.Ytjcpamclggbbdaa.Math
