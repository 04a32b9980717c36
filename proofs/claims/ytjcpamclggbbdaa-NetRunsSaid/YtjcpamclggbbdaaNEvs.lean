/- What the printed functions of the package crc, and of its reference, answer, in plain words (from some number of rounds on). -/
import Derived.Test.YtjcpamclggbbdaaPNgtx0
import Derived.Test.YtjcpamclggbbdaaNetA
import Derived.Test.YtjcpamclggbbdaaPNgtx3
import Derived.Test.YtjcpamclggbbdaaPNgtx4
import Derived.Test.YtjcpamclggbbdaaMath
import Derived.Lib.Bytes
namespace Go.Proofs.Ytjcpamclggbbdaa.Math
open Go.RowKit Go.Proofs.Ytjcpamclggbbdaa.PNgt Go.Proofs.YtjcpamclggbbdaaW.PrintWords Go.Proofs.YtjcpamclggbbdaaW.PrintMore

theorem w64 {x : Int} (h0 : -9223372036854775808 ≤ x) (h1 : x < 9223372036854775808) : wrap64 x = x := by unfold wrap64; omega
theorem wf_u8 {x : Int} (h : (Lit.int .u8 x).wf = true) : 0 ≤ x ∧ x < 256 := by
  simp [Lit.wf, IntKind.min, IntKind.max, IntKind.signed, IntKind.bits] at h
  omega
theorem wf_u32 {x : Int} (h : (Lit.int .u32 x).wf = true) : 0 ≤ x ∧ x < 4294967296 := by
  simp [Lit.wf, IntKind.min, IntKind.max, IntKind.signed, IntKind.bits] at h
  omega
theorem wf_i64 {x : Int} (h : (Lit.int .i64 x).wf = true) : -9223372036854775808 ≤ x ∧ x < 9223372036854775808 := by
  simp [Lit.wf, IntKind.min, IntKind.max, IntKind.signed, IntKind.bits] at h
  omega
theorem rd_drop {xs : List Int} {i : Nat} (h : i < xs.length) : xs.drop i = rd xs i :: xs.drop (i + 1) := by
  rw [List.drop_eq_getElem_cons h]
  congr 1
  simp [rd, List.getD_eq_getElem?_getD, h]
theorem rd_mem {xs : List Int} {i : Nat} (h : i < xs.length) : rd xs i ∈ xs := by
  have : rd xs i = xs[i] := by simp [rd, List.getD_eq_getElem?_getD, h]
  rw [this]
  exact List.getElem_mem h
theorem rdL_drop {xs : List (List Int)} {i : Nat} (h : i < xs.length) : xs.drop i = rd_L1 xs i :: xs.drop (i + 1) := by
  rw [List.drop_eq_getElem_cons h]
  congr 1
  simp [rd_L1, List.getD_eq_getElem?_getD, h]
theorem rdL_mem {xs : List (List Int)} {i : Nat} (h : i < xs.length) : rd_L1 xs i ∈ xs := by
  have : rd_L1 xs i = xs[i] := by simp [rd_L1, List.getD_eq_getElem?_getD, h]
  rw [this]
  exact List.getElem_mem h
theorem step_L (c : Nat) (h : c < 4294967296) : Go.bits .xor .u32 ((c : Int) / 2) (Go.bits .and .u32 3988292384 ((-(Go.bits .and .u32 (c : Int) 1)) % 4294967296)) = (L c : Nat) := by
  have e1 : Go.bits .and .u32 (c : Int) 1 = ((c % 2 : Nat) : Int) := by
    have := u32_and_nat c 1 h (by decide)
    rw [Nat.and_one_is_mod] at this
    exact this
  rw [e1]
  unfold L
  by_cases hc : c % 2 = 1
  · rw [if_pos hc, hc]
    have e2 : Go.bits .and .u32 3988292384 ((-((1 : Nat) : Int)) % 4294967296) = 3988292384 := by decide
    rw [e2]
    exact u32_xor_nat (c / 2) 3988292384 (by omega) (by decide)
  · rw [if_neg hc, show c % 2 = 0 by omega]
    have e2 : Go.bits .and .u32 3988292384 ((-((0 : Nat) : Int)) % 4294967296) = 0 := by decide
    rw [e2]
    exact u32_xor_nat (c / 2) 0 (by omega) (by decide)
theorem Ln_succ' (n c : Nat) : Ln (n + 1) c = Ln n (L c) := Ln_add n 1 c
theorem of_l2 {x8 : List (List Int)} {x9 x10 : Int} {x14 : List Int} {x15 x16 : Int} {r : Int} (d : Nat) : ∀ c : Nat, c < 4294967296 → d ≤ 8 →
    Ev (fun k => crc_Of.l1 k (Ln d c : Nat) x8 x9 x10 x14 x15 (wrap64 (x16 + 1))) r → Ev (fun k => crc_Of.l2 k (c : Int) x8 x9 x10 x14 x15 x16 ((8 - d : Nat) : Int)) r := by
  induction d with
  | zero =>
    intro c hc _ h
    refine Ev.step (fun k => ?_) h
    simp only [crc_Of.l2]
    rw [if_neg (by omega)]
    rfl
  | succ d ih =>
    intro c hc h8 h
    rw [Ln_succ'] at h
    refine Ev.step (fun k => ?_) (ih (L c) (L_lt hc) (by omega) h)
    simp only [crc_Of.l2]
    rw [if_pos (by omega), step_L c hc, w64 (by omega) (by omega)]
    congr 1
    omega
theorem of_l1 {x8 : List (List Int)} {x9 x10 : Int} {x14 : List Int} {r : Int} (hb : Bytes x14) (hs : x14.length < 9223372036854775807) (d : Nat) : ∀ (i c : Nat), c < 4294967296 → i + d = x14.length →
    Ev (fun k => crc_Of.l0 k (runL c (x14.drop i) : Nat) x8 x9 (wrap64 (x10 + 1))) r → Ev (fun k => crc_Of.l1 k (c : Int) x8 x9 x10 x14 (x14.length : Int) (i : Int)) r := by
  induction d with
  | zero =>
    intro i c hc hi h
    rw [List.drop_eq_nil_of_le (by omega), runL_nil] at h
    refine Ev.step (fun k => ?_) h
    simp only [crc_Of.l1]
    rw [if_neg (by omega)]
  | succ d ih =>
    intro i c hc hi h
    have hlt : i < x14.length := by omega
    have hx := hb _ (rd_mem hlt)
    rw [rd_drop hlt, runL_cons] at h
    have e : wrap64 ((i : Int) + 1) = ((i + 1 : Nat) : Int) := by rw [w64 (by omega) (by omega)]; omega
    have hc2 : c ^^^ (rd x14 i).toNat < 4294967296 := xor_lt hc (by omega)
    have h1 := ih (i + 1) (Ln 8 (c ^^^ (rd x14 i).toNat)) (Ln_lt 8 hc2) (by omega) h
    refine Ev.step (fun k => ?_) (of_l2 (x16 := (i : Int)) (x15 := (x14.length : Int)) 8 (c ^^^ (rd x14 i).toNat) hc2 (Nat.le_refl _) (by rw [e]; exact h1))
    simp only [crc_Of.l1]
    rw [if_pos (by omega), if_pos (by omega), if_pos (by omega), Int.emod_eq_of_lt hx.1 (by omega), u32_xor (c : Int) _ (by omega) (by omega) hx.1 (by omega), Int.toNat_natCast]
    rfl
theorem of_l0 {ps : List (List Int)} (hb : ∀ p ∈ ps, Bytes p ∧ p.length < 9223372036854775807) (hs : ps.length < 9223372036854775807) (d : Nat) : ∀ (i c : Nat), c < 4294967296 → i + d = ps.length →
    Ev (fun k => crc_Of.l0 k (c : Int) ps (ps.length : Int) (i : Int)) ((runL c (ps.drop i).flatten ^^^ F : Nat) : Int) := by
  induction d with
  | zero =>
    intro i c hc hi
    refine Ev.step (fun k => ?_) (Ev.now _)
    simp only [crc_Of.l0]
    rw [if_neg (by omega), List.drop_eq_nil_of_le (by omega), List.flatten_nil, runL_nil, Nat.xor_comm]
    congr 1
    exact u32_xor_nat 4294967295 c (by decide) hc
  | succ d ih =>
    intro i c hc hi
    have hlt : i < ps.length := by omega
    have hx := hb _ (rdL_mem hlt)
    rw [rdL_drop hlt, List.flatten_cons, runL_app]
    have e : wrap64 ((i : Int) + 1) = ((i + 1 : Nat) : Int) := by rw [w64 (by omega) (by omega)]; omega
    have h1 := ih (i + 1) (runL c (rd_L1 ps i)) (runL_lt hx.1 hc) (by omega)
    refine Ev.step (fun k => ?_) (of_l1 (x8 := ps) (x9 := (ps.length : Int)) (x10 := (i : Int)) hx.1 hx.2 (rd_L1 ps i).length 0 c hc (by omega) (by rw [e]; exact h1))
    simp only [crc_Of.l0]
    rw [if_pos (by omega), if_pos (by omega), if_pos (by omega)]
    rfl
theorem of_ {ps : List (List Int)} (hb : ∀ p ∈ ps, Bytes p ∧ p.length < 9223372036854775807) (hs : ps.length < 9223372036854775807) : Ev (fun k => crc_Of.f k ps) (crcS ps.flatten : Nat) := by
  have := of_l0 hb hs ps.length 0 F (by decide) (by omega)
  exact this
theorem of_one {b : List Int} (hb : Bytes b) (hs : b.length < 9223372036854775807) : Ev (fun k => crc_Of.f k [b]) (crcS b : Nat) := by
  have := of_ (ps := [b]) (by intro p hp; simp at hp; subst hp; exact ⟨hb, hs⟩) (by simp)
  simpa using this
theorem tail_step (k : Nat) (s : Nat) (l : List Int) (i : Nat) (hi : i < 4) (hl : l.length < 140737488355328) : crc_tail.l0 (k + 1) (s : Int) l (i : Int) = crc_tail.l0 k (s : Int) (l ++ [((s / 2 ^ (8 * i) % 256 : Nat) : Int)]) ((i + 1 : Nat) : Int) := by
  have e1 : wrap64 (8 * (i : Int)) = ((8 * i : Nat) : Int) := by rw [w64 (by omega) (by omega)]; omega
  have e2 : wrap64 ((i : Int) + 1) = ((i + 1 : Nat) : Int) := by rw [w64 (by omega) (by omega)]; omega
  have e3 : shr .u32 (s : Int) ((8 * i : Nat) : Int) % 256 = ((s / 2 ^ (8 * i) % 256 : Nat) : Int) := by
    show (s : Int) / 2 ^ min ((8 * i : Nat) : Int).toNat 32 % 256 = _
    rw [Int.toNat_natCast, Nat.min_eq_left (by omega)]
    rw [show (2 : Int) ^ (8 * i) = ((2 ^ (8 * i) : Nat) : Int) from (Int.natCast_pow 2 (8 * i)).symm]
    rfl
  simp only [crc_tail.l0]
  rw [if_pos (by omega), e1, if_pos (by omega), if_pos hl, e2, e3]
theorem tail_ (s : Nat) : Ev (fun k => crc_tail.f k (s : Int)) (low4 s) := by
  refine Ev.step (fun k => tail_step k s [] 0 (by omega) (by simp)) (Ev.step (fun k => tail_step k s _ 1 (by omega) (by simp)) (Ev.step (fun k => tail_step k s _ 2 (by omega) (by simp)) (Ev.step (fun k => tail_step k s _ 3 (by omega) (by simp)) (Ev.step (fun k => ?_) (Ev.now _)))))
  simp only [crc_tail.l0]
  rw [if_neg (by omega)]
  simp [low4]
theorem equal_l0 {a b : List Int} (hl : a.length = b.length) (hs : a.length < 9223372036854775807) (d : Nat) : ∀ i : Nat, i + d = a.length →
    Ev (fun k => slices_Equal_byte_byte.l0 k a b (a.length : Int) (i : Int)) (decide (a.drop i = b.drop i)) := by
  induction d with
  | zero =>
    intro i hi
    refine Ev.step (fun k => ?_) (Ev.now _)
    simp only [slices_Equal_byte_byte.l0]
    rw [if_neg (by omega), List.drop_eq_nil_of_le (by omega), List.drop_eq_nil_of_le (by omega)]
    simp
  | succ d ih =>
    intro i hi
    have hlt : i < a.length := by omega
    have e : wrap64 ((i : Int) + 1) = ((i + 1 : Nat) : Int) := by rw [w64 (by omega) (by omega)]; omega
    have h1 := ih (i + 1) (by omega)
    rw [rd_drop hlt, rd_drop (xs := b) (by omega)]
    by_cases h : rd a i = rd b i
    · have e2 : decide (rd a i :: a.drop (i + 1) = rd b i :: b.drop (i + 1)) = decide (a.drop (i + 1) = b.drop (i + 1)) := by rw [h]; simp
      rw [e2]
      refine Ev.step (fun k => ?_) h1
      simp only [slices_Equal_byte_byte.l0]
      rw [if_pos (by omega), if_pos (by omega), if_pos (by omega), if_pos (by omega), if_pos h, e]
    · have e2 : decide (rd a i :: a.drop (i + 1) = rd b i :: b.drop (i + 1)) = false := by simp [h]
      rw [e2]
      refine Ev.step (fun k => ?_) (Ev.now _)
      simp only [slices_Equal_byte_byte.l0]
      rw [if_pos (by omega), if_pos (by omega), if_pos (by omega), if_pos (by omega), if_neg h]
theorem equal_ {a b : List Int} (hs : a.length < 9223372036854775807) : Ev (fun k => slices_Equal_byte_byte.f k a b) (decide (a = b)) := by
  by_cases h : a.length = b.length
  · have := equal_l0 h hs a.length 0 (by omega)
    refine Ev.congr (fun k => ?_) this
    unfold slices_Equal_byte_byte.f
    rw [if_pos (by omega)]
    rfl
  · have e : decide (a = b) = false := by simp; intro hc; exact h (by rw [hc])
    rw [e]
    refine Ev.congr (fun k => ?_) (Ev.now _)
    unfold slices_Equal_byte_byte.f
    rw [if_neg (by omega)]
theorem clone_ {b : List Int} (h : b.length < 140737488355328) : slices_Clone_byte_byte.f b = some b := by
  unfold slices_Clone_byte_byte.f
  rw [if_pos h]
theorem seal_ {b : List Int} (hb : Bytes b) (hs : b.length + 4 < 140737488355328) : Ev (fun k => crc_Seal.f k b) (sealS b) := by
  unfold crc_Seal.f
  rw [clone_ (by omega)]
  simp only [Option.bind_some]
  refine Ev.bind (of_one hb (by omega)) (Ev.bind (tail_ _) (Ev.congr (fun k => ?_) (Ev.now _)))
  rw [low4_len, if_pos hs]
  rfl
theorem open_ {b : List Int} (hb : Bytes b) (hs : b.length < 140737488355328) : Ev (fun k => crc_Open.f k b) (openS b) := by
  have e : wrap64 ((b.length : Int) - 4) = (b.length : Int) - 4 := w64 (by omega) (by omega)
  unfold crc_Open.f openS
  simp only [e]
  by_cases h : b.length < 4
  · rw [if_neg (fun hc => by omega)]
    exact Ev.congr (fun k => by rw [if_pos (by omega)]) (Ev.now _)
  · have et : ((b.length : Int) - 4).toNat = b.length - 4 := by omega
    simp only [et]
    refine Ev.congr (fun k => by rw [if_neg (by omega), if_pos (by omega), if_pos (by omega)]) ?_
    refine Ev.bind (of_one (hb.take _) (by rw [List.length_take]; omega)) (Ev.bind (tail_ _) (Ev.bind (equal_ (by simp [low4])) (Ev.congr (fun k => ?_) (Ev.now _))))
    rw [clone_ (by rw [List.length_take]; omega)]
    by_cases hq : low4 (crcS (b.take (b.length - 4))) = b.drop (b.length - 4)
    · simp [hq, show 4 ≤ b.length by omega]
    · simp [hq]
theorem bytes_lit (l : List Int) (h : l.all (fun x => decide (0 ≤ x ∧ x < 256)) = true) : Bytes l := fun x hx => by
  have := List.all_eq_true.1 h x hx
  simpa using this
end Go.Proofs.Ytjcpamclggbbdaa.Math
