/- A net of which nothing is on its way has nothing to give; the chapter's example goes as it is told. -/
import Derived.Test.YtjcpamclggbbdaaNetB
namespace Go.Proofs.Ytjcpamclggbbdaa.Pure
open Go.RowKit Go.Proofs.Ytjcpamclggbbdaa.PNgt Go.Proofs.YtjcpamclggbbdaaW.PrintWords Go.Proofs.YtjcpamclggbbdaaW.PrintLast
theorem netAlive1 : ropewaylaw19_netAlive.f 1 = some true := by decide +kernel
theorem netAlive_ok : ∀ k, ropewaylaw19_netAlive.f (k + 1) = some true
  | 0 => netAlive1
  | k + 1 => ropewaylaw19_netAlive.mono (k + 1) _ (netAlive_ok k)
theorem NetNames : ropewaylaw19_NetNames.Pure := ⟨1, by decide +kernel⟩
end Go.Proofs.Ytjcpamclggbbdaa.Pure
