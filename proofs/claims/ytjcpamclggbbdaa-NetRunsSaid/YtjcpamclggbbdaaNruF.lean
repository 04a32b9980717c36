/- What the law NetRuns does, as Lean functions. -/
import Derived.Test.YtjcpamclggbbdaaNruS
namespace Go.Proofs.Ytjcpamclggbbdaa.PNru
open Go.RowKit Go.Proofs.Ytjcpamclggbbdaa.PNgt Go.Proofs.YtjcpamclggbbdaaW.PrintWords Go.Proofs.YtjcpamclggbbdaaW.PrintLast Go.Proofs.YtjcpamclggbbdaaW.PrintMore
mutual
def ropewaylaw19_NetRuns.l0 : Nat → List S56 → List S52 → Int → Int → List S72 → Option Bool
  | 0, _, _, _, _, _ => none
  | k + 1, x4, x27, x28, x29, s => if x29 < x28 then (if 0 ≤ x29 then (if x29 < (x27.length : Int) then (if (rd_T52 x27 x29).f0 = 0 then (if (rd_T52 x27 x29).f4.length < 140737488355328 then ((net_Net_Put.f s (rd_T52 x27 x29).f4).bind fun b => (ropewayref19_Put.f x4 (rd_T52 x27 x29).f4 false).bind fun c => ropewaylaw19_NetRuns.l1 k c.1 b.1 c.2 (rd_T52 x27 x29).f4 x27 x28 x29 ((rd_T52 x27 x29).f4.length : Int) 0 b.2) else none) else (if (rd_T52 x27 x29).f0 = 1 then ((net_Net_Take.f s (rd_T52 x27 x29).f1).bind fun b => (ropewayref19_Take.f x4 (rd_T52 x27 x29).f1).bind fun c => ropewaylaw19_NetRuns.j2 k c.1 b.1 c.2.1 b.2.1 c.2.2 x27 x28 x29 b.2.2) else (if (rd_T52 x27 x29).f0 = 2 then ((net_Net_Double.f s (rd_T52 x27 x29).f1).bind fun b => (ropewayref19_At.f x4 (rd_T52 x27 x29).f1).bind fun c => if c.2.2 = true then ((ropewayref19_Put.f x4 c.1 c.2.1).bind fun d => ropewaylaw19_NetRuns.j2 k d.1 [] [] b.1 d.2 x27 x28 x29 b.2) else ropewaylaw19_NetRuns.j2 k x4 [] [] b.1 false x27 x28 x29 b.2) else (if (rd_T52 x27 x29).f0 = 3 then ((net_Net_Spoil.f s (rd_T52 x27 x29).f1 (rd_T52 x27 x29).f2 (rd_T52 x27 x29).f3).bind fun b => (ropewayref19_Spoil.f k x4 (rd_T52 x27 x29).f1 (rd_T52 x27 x29).f2 (rd_T52 x27 x29).f3).bind fun c => ropewaylaw19_NetRuns.j2 k c.1 [] [] b.1 c.2 x27 x28 x29 b.2) else (if (rd_T52 x27 x29).f0 = 4 then ((net_Net_At.f s (rd_T52 x27 x29).f1).bind fun b => (ropewayref19_At.f x4 (rd_T52 x27 x29).f1).bind fun c => ropewaylaw19_NetRuns.j2 k x4 b.1 c.1 b.2.1 c.2.2 x27 x28 x29 b.2.2) else ropewaylaw19_NetRuns.j2 k x4 [] [] false false x27 x28 x29 s))))) else none) else none) else ropewaylaw19_NetRuns.l2 k x4 (x4.length : Int) 0 s
def ropewaylaw19_NetRuns.j2 : Nat → List S56 → List Int → List Int → Bool → Bool → List S52 → Int → Int → List S72 → Option Bool
  | 0, _, _, _, _, _, _, _, _, _ => none
  | k + 1, x4, x7, x8, x9, x10, x27, x28, x29, s => if (strOfNums x7).toList = (strOfNums x8).toList then (if (x9 != x10) = true then some false else ((net_Net_Len.f s).bind fun b => if b.1 = (x4.length : Int) then ropewaylaw19_NetRuns.l0 k x4 x27 x28 (wrap64 (x29 + 1)) b.2 else some false)) else some false
def ropewaylaw19_NetRuns.l1 : Nat → List S56 → Bool → Bool → List Int → List S52 → Int → Int → Int → Int → List S72 → Option Bool
  | 0, _, _, _, _, _, _, _, _, _, _ => none
  | k + 1, x4, x9, x10, x11, x27, x28, x29, x55, x56, s => if x56 < x55 then (if 0 ≤ x56 then (if x56 < (x11.length : Int) then ropewaylaw19_NetRuns.l1 k x4 x9 x10 (x11.set (x56 : Int).toNat (((rd x11 x56) + 1) % 256)) x27 x28 x29 x55 (wrap64 (x56 + 1)) s else none) else none) else ropewaylaw19_NetRuns.j2 k x4 [] [] x9 x10 x27 x28 x29 s
def ropewaylaw19_NetRuns.l2 : Nat → List S56 → Int → Int → List S72 → Option Bool
  | 0, _, _, _, _ => none
  | k + 1, x4, x162, x163, s => if x163 < x162 then ((net_Net_At.f s x163).bind fun b => if b.2.1 = true then (if 0 ≤ x163 then (if x163 < (x4.length : Int) then (if (strOfNums b.1).toList = (strOfNums ((rd_T56 x4 x163).f0)).toList then ropewaylaw19_NetRuns.l2 k x4 x162 (wrap64 (x163 + 1)) b.2.2 else some false) else none) else none) else some false) else some true
end
def ropewaylaw19_NetRuns.f (k : Nat) (l0 : List S52) : Option Bool := (ropewaylaw19_netAlive.f k).bind fun t => if t = true then (if (l0.length : Int) > 200 then some true else (net_New.f).bind fun s => ropewaylaw19_NetRuns.l0 k [] l0 (l0.length : Int) 0 s) else some false
end Go.Proofs.Ytjcpamclggbbdaa.PNru
