/- A row made by the law, whose elements are byte slices that came in: what came in doesn't change, so the elements are told in the world of the start. And: what a net keeps while rows are made beside it. -/
import Derived.Test.YtjcpamclggbbdaaNetB
namespace Go.Proofs.Ytjcpamclggbbdaa.PNgt
open Go.RowKit Go.Proofs.YtjcpamclggbbdaaW.PrintWords Go.Proofs.YtjcpamclggbbdaaW.PrintLast Go.Proofs.YtjcpamclggbbdaaW.PrintMore
/-- A byte slice, told in one world. -/
def frozen (w : World) : Kd (List Int) where
  sz := 1
  E := []
  K := fun _ xs cs => (Kd.slice 5 (Kd.int .u8)).K w xs cs
  M := fun _ _ _ xs cs => (Kd.slice 5 (Kd.int .u8)).K w xs cs
  K_len := fun h => (Kd.slice 5 (Kd.int .u8)).K_len h
  K_one := fun h => (Kd.slice 5 (Kd.int .u8)).K_one h
  K_below := fun _ h => h
  K_of_M := fun h => h
  M_mono := fun _ h => h
  M_bound := fun h => h
  M_move := fun _ h => h
  M_lower := fun _ h => h
theorem C_frozen {w W : World} {A : Option Addr} {n : Nat} {xs : List (List Int)} (h : Kd.C (Kd.slice 5 (Kd.int .u8)) w A n xs) (hb : Below w.heap.size w W) : ReadsRow ((Kd.slice 5 (Kd.int .u8)).K w) 1 W A n xs := by
  obtain ⟨h1, h2, h3⟩ := h
  refine ⟨h1, h2, fun h0 => ?_⟩
  obtain ⟨ad, e, hc⟩ := h3 h0
  refine ⟨ad, e, fun j p hj => ?_⟩
  obtain ⟨c, hs, hr, hcell⟩ := hc j p hj
  exact ⟨c, hs, hr, fun i u hu => by
    have h4 := hcell i u hu
    exact (hb.cell (World.block_lt_of_cell? w _ h4)).trans h4⟩
theorem frozen_one {w : World} {x : List Int} {A : Option Addr} {c : Nat} (hl : x.length ≤ c) (hC : (Kd.int .u8).C w A x.length x) (W : World) (base : Nat) (ok : Nat → Prop) : Reps ((frozen w).M W base ok) (frozen w).sz [x] [.slice A x.length c] := by
  have h := Reps.snoc (size := 1) (c := [.slice A x.length c]) (p := x) (Reps.none ((frozen w).M W base ok) 1) ⟨A, c, rfl, hl, hC⟩ rfl
  exact h
theorem at_fz {w W : World} {A : Option Addr} {n : Nat} {xs : List (List Int)} (h : Kd.C (frozen w) W A n xs) (i : Int) (h0 : 0 ≤ i) (h1 : i < n) : ∃ ad A0 c0, A = some ad ∧ W.cell? (ad.add i.toNat) = some (.slice A0 (rd_L1 xs i).length c0) ∧ (rd_L1 xs i).length ≤ c0 ∧ (Kd.int .u8).C w A0 (rd_L1 xs i).length (rd_L1 xs i) := by
  obtain ⟨ad, c, e, _, hK, hc0⟩ := Kd.C_get h ([] : List Int) i h0 h1
  obtain ⟨A0, c0, rfl, hl, hC⟩ := hK
  have h2 : W.cell? (ad.add (i.toNat * 1 + 0)) = some (.slice A0 (rd_L1 xs i).length c0) := hc0 0 _ rfl
  rw [Nat.mul_one, Nat.add_zero] at h2
  exact ⟨ad, A0, c0, e, h2, hl, hC⟩
section
variable {w0 W W1 W2 : World} {g : Nat} {l : List S72}
/-- A row of another type grows. -/
theorem IsS70.over {α : Type} {d : Kd α} {e base : Nat} {ok : Nat → Prop} {v : Value} {xs : List α} (h : IsS70 w0 W g l) (ho : d.R e W base ok v xs) (h7 : e ≠ 70) (ht : ∀ q, q ∈ 72 :: k72.E → q ≠ e) (hg : W.grownBy W1 v.ownBlock) : IsS70 w0 W1 g l := by
  have hne := IsS70.own_ne h ho h7
  obtain ⟨A, c, h1, h2, h3⟩ := h
  exact ⟨A, c, NetAt.grown h1 hg hne, Kd.R_over' h2 (Kd.R_typed ho) ht hg, h3⟩
/-- A row is under way: the state stands as it was before. -/
def Pend (w0 W1 : World) (g : Nat) (l : List S72) (v : Value) (xs : List Int) : Prop := ∃ W, IsS70 w0 W g l ∧ Below w0.heap.size w0 W ∧ Below W.heap.size W W1 ∧ (Kd.int .u8).R 5 W1 W.heap.size (fun _ => True) v xs
end
end Go.Proofs.Ytjcpamclggbbdaa.PNgt
