/- The statement CrcRest over numbers and lists. -/
import Derived.Test.YtjcpamclggbbdaaPCrcx4
import Derived.Test.YtjcpamclggbbdaaBits
namespace Go.Proofs.Ytjcpamclggbbdaa.Pure
open Go.RowKit Go.Proofs.Ytjcpamclggbbdaa.PCrc Go.Proofs.YtjcpamclggbbdaaW.PrintWords Go.Proofs.YtjcpamclggbbdaaW.PrintLast Go.Proofs.Ytjcpamclggbbdaa.Math
theorem CrcRest : ropewaylaw03_CrcRest.Pure := by
  intro b _ hs hb0
  have hb : Bytes b := fun x hx => wf_u8 (hb0 x hx)
  have h : Ev (fun k => ropewaylaw03_CrcRest.f k b) true := by
    unfold ropewaylaw03_CrcRest.f
    refine Ev.bind alive_ ?_
    simp only [if_true, Option.bind_some, List.nil_append, List.length_nil, Nat.zero_add]
    refine Ev.congr (fun k => if_pos (by omega)) ?_
    refine Ev.bind (seal_ hb (by omega)) (Ev.bind (of_one (sealS_bytes hb) (by rw [sealS_len]; omega)) (Ev.congr (fun k => ?_) (Ev.now _)))
    rw [crc_seal hb]
    rfl
  exact h.rounds
end Go.Proofs.Ytjcpamclggbbdaa.Pure
