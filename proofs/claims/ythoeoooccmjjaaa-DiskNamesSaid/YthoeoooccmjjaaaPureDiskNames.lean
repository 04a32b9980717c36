/- A disk of nine bytes with two of them synced, blown at the third, has those that the chapter tells; one with no room refuses a byte. -/
import Derived.Test.YthoeoooccmjjaaaPDskx7
namespace Go.Proofs.Ythoeoooccmjjaaa.Pure
open Go.RowKit Go.Proofs.Ythoeoooccmjjaaa.PDsk Go.Proofs.YthoeoooccmjjaaaW.PrintWords Go.Proofs.YthoeoooccmjjaaaW.PrintLast
theorem alive : ropewaylaw08_diskAlive.f = some true := by decide +kernel
theorem DiskNames : ropewaylaw08_DiskNames.Pure := by
  unfold ropewaylaw08_DiskNames.Pure
  decide +kernel
end Go.Proofs.Ythoeoooccmjjaaa.Pure
