/- The statement CrcNames over numbers and lists. -/
import Derived.Test.YtjcpamclggbbdaaPCrcx3
import Derived.Test.YtjcpamclggbbdaaBits
namespace Go.Proofs.Ytjcpamclggbbdaa.Pure
open Go.RowKit Go.Proofs.Ytjcpamclggbbdaa.PCrc Go.Proofs.YtjcpamclggbbdaaW.PrintWords Go.Proofs.YtjcpamclggbbdaaW.PrintLast Go.Proofs.Ytjcpamclggbbdaa.Math
theorem CrcNames : ropewaylaw03_CrcNames.Pure := by
  have h : Ev (fun k => ropewaylaw03_CrcNames.f k) true := by
    unfold ropewaylaw03_CrcNames.f
    refine Ev.bind (open_ bytes_nil (by simp)) (Ev.bind alive_ ?_)
    have e : (openS []).2 = 31 := rfl
    simp only [e, if_true]
    refine Ev.bind (burst_ (bytes_lit _ (by decide)) (by simp) (by decide) (by decide)) (Ev.congr (fun k => ?_) (Ev.now _))
    rw [Lib.strOfNums_toList]
    decide +kernel
  exact h.rounds
end Go.Proofs.Ytjcpamclggbbdaa.Pure
