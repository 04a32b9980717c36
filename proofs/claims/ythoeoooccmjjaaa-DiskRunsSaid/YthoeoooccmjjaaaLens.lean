/- A row read, its length by another name. -/
import Derived.Test.YthoeoooccmjjaaaDsk
namespace Go.Proofs.Ythoeoooccmjjaaa.PDsk
open Go.RowKit Go.Proofs.YthoeoooccmjjaaaW.PrintWords
theorem C_len {α : Type} {d : Kd α} {W : World} {A : Option Addr} {n m : Nat} {xs : List α} (h : n = m) (hC : Kd.C d W A n xs) : Kd.C d W A m xs := h ▸ hC
end Go.Proofs.Ythoeoooccmjjaaa.PDsk
