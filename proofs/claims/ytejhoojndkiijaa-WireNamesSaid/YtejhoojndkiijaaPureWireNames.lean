/- The statement WireNames over numbers and lists: it holds, with no condition. -/
import Derived.Test.YtejhoojndkiijaaEvs
namespace Go.Proofs.Ytejhoojndkiijaa.Pure
open Go.RowKit Go.Proofs.Ytejhoojndkiijaa.PAll Go.Proofs.YtejhoojndkiijaaW.PrintWords Go.Proofs.YtejhoojndkiijaaW.PrintLast Go.Proofs.Ytejhoojndkiijaa.Math
theorem WireNames : ropewaylaw02_WireNames.Pure := by
  have h : Ev (fun k => ropewaylaw02_WireNames.f k) true := by
    unfold ropewaylaw02_WireNames.f
    exact Ev.bind (get_ (b := []) bytes_nil (by simp)) (Ev.bind alive_ (Ev.now _))
  exact h.rounds
end Go.Proofs.Ytejhoojndkiijaa.Pure
