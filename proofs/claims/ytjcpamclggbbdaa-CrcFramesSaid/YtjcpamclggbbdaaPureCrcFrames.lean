/- The statement CrcFrames over numbers and lists. -/
import Derived.Test.YtjcpamclggbbdaaFrames
import Derived.Test.YtjcpamclggbbdaaRefs
namespace Go.Proofs.Ytjcpamclggbbdaa.Pure
open Go.RowKit Go.Proofs.Ytjcpamclggbbdaa.PCrc Go.Proofs.YtjcpamclggbbdaaW.PrintWords Go.Proofs.YtjcpamclggbbdaaW.PrintLast Go.Proofs.Ytjcpamclggbbdaa.Math
theorem CrcFrames : ropewaylaw03_CrcFrames.Pure := by
  intro b fr _ hs hb0 _ ht hf0
  have hb : Bytes b := fun x hx => wf_u8 (hb0 x hx)
  have hf : Bytes fr := fun x hx => wf_u8 (hf0 x hx)
  have h : Ev (fun k => ropewaylaw03_CrcFrames.f k b fr) true := by
    unfold ropewaylaw03_CrcFrames.f
    simp only [Option.bind_some, List.nil_append, List.length_nil, Nat.zero_add]
    refine Ev.congr (fun k => if_pos (by omega)) ?_
    refine Ev.bind (open_ hf (by omega)) (Ev.bind (ropen_ hf (by omega)) (Ev.bind alive_ ?_))
    simp only [if_true]
    refine Ev.congr (fun k => if_pos (by omega)) ?_
    refine Ev.bind (of_one hb (by omega)) (Ev.bind (rof_ hb (by omega)) ?_)
    simp only [if_true]
    refine Ev.congr (fun k => if_pos (by omega)) ?_
    refine Ev.bind (seal_ hb (by omega)) (Ev.bind (rseal_ hb (by omega)) (Ev.congr (fun k => ?_) (Ev.now _)))
    simp only [if_true]
    simp
  exact h.rounds
end Go.Proofs.Ytjcpamclggbbdaa.Pure
