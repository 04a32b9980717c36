/- The statement CrcParts over numbers and lists: where all the parts together are not too long. -/
import Derived.Test.YtjcpamclggbbdaaPCrcx7
import Derived.Test.YtjcpamclggbbdaaEvs
namespace Go.Proofs.Ytjcpamclggbbdaa.Pure
open Go.RowKit Go.Proofs.Ytjcpamclggbbdaa.PCrc Go.Proofs.YtjcpamclggbbdaaW.PrintWords Go.Proofs.YtjcpamclggbbdaaW.PrintLast Go.Proofs.Ytjcpamclggbbdaa.Math
theorem parts_l0 {ps : List (List Int)} (hb : ∀ p ∈ ps, Bytes p) (hl : ps.length ≤ 1048576) (hs : ps.flatten.length ≤ 1048576) (d : Nat) : ∀ i : Nat, i + d = ps.length →
    Ev (fun k => ropewaylaw03_CrcParts.l0 k ps (ps.take i).flatten ps (ps.length : Int) (i : Int)) true := by
  have hfb : Bytes ps.flatten := by
    intro x hx
    obtain ⟨p, hp, hx⟩ := List.mem_flatten.1 hx
    exact hb p hp x hx
  have hple : ∀ p ∈ ps, p.length ≤ ps.flatten.length := fun p hp => List.Sublist.length_le (List.sublist_flatten_of_mem hp)
  induction d with
  | zero =>
    intro i hi
    have e : ps.take i = ps := List.take_of_length_le (by omega)
    rw [e]
    have hq : ∀ b : Bool, ∀ k, ropewaylaw03_CrcParts.j1 (k + 1) ps.flatten b = if b = true then some (decide ((ps.flatten.length : Int) > 5000)) else ((crc_Seal.f k ps.flatten).bind fun t326 => ((crc_Open.f k t326).bind fun bt329 => (if bt329.2 = 0 then (some ((strOfNums bt329.1).toList == (strOfNums ps.flatten).toList)) else (some false)))) := fun b k => by simp only [ropewaylaw03_CrcParts.j1]
    by_cases h5 : (ps.flatten.length : Int) > 5000
    · refine Ev.step (f := fun k => ropewaylaw03_CrcParts.j1 k ps.flatten true) (fun k => ?_) (Ev.step (f := fun _ => some true) (fun k => ?_) (Ev.now _))
      · simp only [ropewaylaw03_CrcParts.l0]
        rw [if_neg (by omega), if_pos h5]
      · rw [hq, if_pos rfl, decide_eq_true h5]
    · refine Ev.step (f := fun k => (crc_Of.f k ps).bind fun t321 => ((crc_Of.f k [ps.flatten]).bind fun t325 => (ropewaylaw03_CrcParts.j1 k ps.flatten (t321 != t325)))) (fun k => ?_) ?_
      · simp only [ropewaylaw03_CrcParts.l0]
        rw [if_neg (by omega), if_neg h5]
      · refine Ev.bind (of_ (fun p hp => ⟨hb p hp, by have := hple p hp; omega⟩) (by omega)) (Ev.bind (of_one hfb (by omega)) ?_)
        have e2 : (((crcS ps.flatten : Nat) : Int) != (crcS ps.flatten : Nat)) = false := by simp
        rw [e2]
        refine Ev.step (fun k => (hq false k).trans (if_neg (by decide))) (Ev.bind (seal_ hfb (by omega)) (Ev.bind (open_ (sealS_bytes hfb) (by rw [sealS_len]; omega)) (Ev.congr (fun k => ?_) (Ev.now _))))
        rw [open_seal]
        simp
  | succ d ih =>
    intro i hi
    have hlt : i < ps.length := by omega
    have e : wrap64 ((i : Int) + 1) = ((i + 1 : Nat) : Int) := by rw [w64 (by omega) (by omega)]; omega
    have e2 : (ps.take (i + 1)).flatten = (ps.take i).flatten ++ rd_L1 ps i := by
      rw [List.take_succ_eq_append_getElem hlt, List.flatten_append]
      simp [rd_L1, List.getD_eq_getElem?_getD, hlt]
    have h3 : (ps.take (i + 1)).flatten.length ≤ ps.flatten.length := by
      conv => rhs; rw [← List.take_append_drop (i + 1) ps, List.flatten_append, List.length_append]
      omega
    have h1 := ih (i + 1) (by omega)
    rw [e2] at h1 h3
    rw [List.length_append] at h3
    refine Ev.step (fun k => ?_) h1
    simp only [ropewaylaw03_CrcParts.l0]
    rw [if_pos (by omega), if_pos (by omega), if_pos (by omega), if_pos (by omega), e]
theorem partsUpto (ps : List (List Int)) (hl : ps.length ≤ 1048576) (hs : ps.flatten.length ≤ 1048576) (hb0 : ∀ p ∈ ps, ∀ x ∈ p, (Lit.int .u8 x).wf = true) : ∃ k, ropewaylaw03_CrcParts.f k ps = some true := by
  have hb : ∀ p ∈ ps, Bytes p := fun p hp x hx => wf_u8 (hb0 p hp x hx)
  have h : Ev (fun k => ropewaylaw03_CrcParts.f k ps) true := by
    unfold ropewaylaw03_CrcParts.f
    refine Ev.bind alive_ ?_
    simp only [if_true]
    exact parts_l0 hb hl hs ps.length 0 (by omega)
  exact h.rounds
end Go.Proofs.Ytjcpamclggbbdaa.Pure
