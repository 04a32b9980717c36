/- The statement CrcOne over numbers and lists: two texts of one length that differ within four bytes side by side have unlike sums. -/
import Derived.Test.YtjcpamclggbbdaaEvs
namespace Go.Proofs.Ytjcpamclggbbdaa.Pure
open Go.RowKit Go.Proofs.Ytjcpamclggbbdaa.PCrc Go.Proofs.YtjcpamclggbbdaaW.PrintWords Go.Proofs.YtjcpamclggbbdaaW.PrintLast Go.Proofs.Ytjcpamclggbbdaa.Math
theorem four_inj {c : Nat} {a b : List Int} (hc : c < 4294967296) (ha : Bytes a) (hb : Bytes b) (la : a.length = 4) (lb : b.length = 4) (h : runL c a = runL c b) : a = b := by
  obtain ⟨va, ea⟩ := low4_val ha la
  obtain ⟨vb, eb⟩ := low4_val hb lb
  rw [← ea, ← eb, runL_low4 c _ va, runL_low4 c _ vb] at h
  have h1 := Ln_inj 32 (xor_lt hc va) (xor_lt hc vb) h
  rw [Nat.xor_comm c, Nat.xor_comm c] at h1
  rw [← ea, ← eb, xor_cancel h1]
theorem crc_four {l0 l1 a b : List Int} (h0 : Bytes l0) (h1 : Bytes l1) (ha : Bytes a) (hb : Bytes b) (la : a.length = 4) (lb : b.length = 4) (h : crcS (l0 ++ (a ++ l1)) = crcS (l0 ++ (b ++ l1))) : a = b := by
  have hF : F < 4294967296 := by decide
  have h2 := xor_cancel h
  rw [runL_app, runL_app, runL_app, runL_app] at h2
  have hc := runL_lt h0 hF
  exact four_inj hc ha hb la lb (runL_inj h1 (runL_lt ha hc) (runL_lt hb hc) h2)
theorem crcOne (l0 l1 : List Int) (p0 p1 p2 p3 p4 p5 p6 p7 : Int) (h0 : ∀ x ∈ l0, (Lit.int .u8 x).wf = true) (h1 : ∀ x ∈ l1, (Lit.int .u8 x).wf = true) (s0 : l0.length < 9223372036854775807) (s1 : l1.length < 9223372036854775807)
    (wa : (Lit.int .u8 p0).wf = true ∧ (Lit.int .u8 p1).wf = true ∧ (Lit.int .u8 p2).wf = true ∧ (Lit.int .u8 p3).wf = true) (wb : (Lit.int .u8 p4).wf = true ∧ (Lit.int .u8 p5).wf = true ∧ (Lit.int .u8 p6).wf = true ∧ (Lit.int .u8 p7).wf = true) :
    ∃ (k : Nat) (s t : Int), ropewaylaw03_crcAlive.f k = some true ∧ crc_Of.f k [l0, [p0, p1, p2, p3], l1] = some s ∧ crc_Of.f k [l0, [p4, p5, p6, p7], l1] = some t ∧ ((s == t) == (p0 == p4 && (p1 == p5 && (p2 == p6 && p3 == p7)))) = true := by
  have b0 : Bytes l0 := fun x hx => wf_u8 (h0 x hx)
  have b1 : Bytes l1 := fun x hx => wf_u8 (h1 x hx)
  have ba : Bytes [p0, p1, p2, p3] := by
    intro x hx
    simp only [List.mem_cons, List.not_mem_nil, or_false] at hx
    rcases hx with rfl | rfl | rfl | rfl
    · exact wf_u8 wa.1
    · exact wf_u8 wa.2.1
    · exact wf_u8 wa.2.2.1
    · exact wf_u8 wa.2.2.2
  have bb : Bytes [p4, p5, p6, p7] := by
    intro x hx
    simp only [List.mem_cons, List.not_mem_nil, or_false] at hx
    rcases hx with rfl | rfl | rfl | rfl
    · exact wf_u8 wb.1
    · exact wf_u8 wb.2.1
    · exact wf_u8 wb.2.2.1
    · exact wf_u8 wb.2.2.2
  have hof : ∀ q : List Int, Bytes q → q.length = 4 → Ev (fun k => crc_Of.f k [l0, q, l1]) ((crcS (l0 ++ (q ++ l1)) : Nat) : Int) := by
    intro q bq hq
    have := of_ (ps := [l0, q, l1]) (by
      intro p hp
      simp only [List.mem_cons, List.not_mem_nil, or_false] at hp
      rcases hp with rfl | rfl | rfl
      · exact ⟨b0, s0⟩
      · exact ⟨bq, by omega⟩
      · exact ⟨b1, s1⟩) (by simp)
    simpa using this
  obtain ⟨K0, e0⟩ := alive_
  obtain ⟨K1, e1⟩ := hof _ ba rfl
  obtain ⟨K2, e2⟩ := hof _ bb rfl
  refine ⟨max K0 (max K1 K2), _, _, e0 _ (by omega), e1 _ (by omega), e2 _ (by omega), ?_⟩
  rw [beq_iff_eq, Bool.eq_iff_iff]
  simp only [beq_iff_eq, Bool.and_eq_true]
  constructor
  · intro h
    have := crc_four b0 b1 ba bb rfl rfl (Int.ofNat.inj h)
    simpa using this
  · rintro ⟨rfl, rfl, rfl, rfl⟩
    rfl
end Go.Proofs.Ytjcpamclggbbdaa.Pure
