/- The statement CrcBursts over numbers and lists. -/
import Derived.Test.YtjcpamclggbbdaaPCrcx5
import Derived.Test.YtjcpamclggbbdaaRefs
namespace Go.Proofs.Ytjcpamclggbbdaa.Pure
open Go.RowKit Go.Proofs.Ytjcpamclggbbdaa.PCrc Go.Proofs.YtjcpamclggbbdaaW.PrintWords Go.Proofs.YtjcpamclggbbdaaW.PrintLast Go.Proofs.Ytjcpamclggbbdaa.Math
theorem CrcBursts : ropewaylaw03_CrcBursts.Pure := by
  intro b at_ mask _ hs hb0 ha0 hm0
  have hb : Bytes b := fun x hx => wf_u8 (hb0 x hx)
  have ha := wf_i64 ha0
  have hm := wf_u32 hm0
  have h : Ev (fun k => ropewaylaw03_CrcBursts.f k b at_ mask) true := by
    unfold ropewaylaw03_CrcBursts.f
    simp only [Option.bind_some, List.nil_append, List.length_nil, Nat.zero_add]
    refine Ev.congr (fun k => if_pos (by omega)) ?_
    refine Ev.bind (burst_ hb (by omega) ha hm) (Ev.bind alive_ ?_)
    simp only [if_true]
    refine Ev.bind (rburst_ hb (by omega) ha hm) (Ev.congr (fun k => ?_) (Ev.now _))
    rw [if_pos rfl]
    simp
  exact h.rounds
end Go.Proofs.Ytjcpamclggbbdaa.Pure
