/- The net as a state: how it goes through what is done beside it. -/
import Derived.Test.YtjcpamclggbbdaaNet5
import Derived.Lib.SlBytesConst
namespace Go.Proofs.Ytjcpamclggbbdaa.PNgt
open Go.RowKit Go.Proofs.YtjcpamclggbbdaaW.PrintWords Go.Proofs.YtjcpamclggbbdaaW.PrintLast Go.Proofs.YtjcpamclggbbdaaW.PrintMore
set_option linter.unusedVariables false
set_option linter.unusedSimpArgs false
section
variable {w0 W W1 : World} {g : Nat} {l : List S72}
theorem IsS70.alloc (h : IsS70 w0 W g l) (o : Obj) : IsS70 w0 (W.alloc o) g l := h.below (below_alloc (Below.refl _ _) o)
theorem IsS70.drew (h : IsS70 w0 W g l) : IsS70 w0 W.drew g l := by
  obtain ⟨A, c, h1, h2, h3⟩ := h
  exact ⟨A, c, h1, Kd.R_drew h2, h3⟩
theorem IsS70.drewN (h : IsS70 w0 W g l) (m : Nat) : IsS70 w0 (W.drewN m) g l := by
  obtain ⟨A, c, h1, h2, h3⟩ := h
  exact ⟨A, c, h1, Kd.R_drewN h2 m, h3⟩
theorem IsS70.at_ {m : Nat} (hq : W.drewN m = W1) (h : IsS70 w0 W g l) : IsS70 w0 W1 g l := by subst hq; exact IsS70.drewN h m
theorem IsS70.lt (h : IsS70 w0 W g l) : g < W.heap.size := by
  obtain ⟨A, c, h1, h2, h3⟩ := h
  exact blk_lt h1
theorem IsS70.ge (h : IsS70 w0 W g l) : w0.heap.size ≤ g := by
  obtain ⟨A, c, h1, h2, h3⟩ := h
  exact h3
theorem IsS70.apart {α : Type} {d : Kd α} {e base : Nat} {ok : Nat → Prop} {v : Value} {xs : List α} (h : IsS70 w0 W g l) (ho : d.R e W base ok v xs) (ht : ∀ q, q ∈ e :: d.E → q ≠ 70) : d.R e W base (fun k => ok k ∧ k ≠ g) v xs := by
  obtain ⟨A, c, h1, h2, h3⟩ := h
  exact Kd.R_types ho h1 ht
theorem IsS70.own_ne {α : Type} {d : Kd α} {e base : Nat} {ok : Nat → Prop} {v : Value} {xs : List α} (h : IsS70 w0 W g l) (ho : d.R e W base ok v xs) (ht : e ≠ 70) : some g ≠ v.ownBlock := by
  obtain ⟨A, c, h1, h2, h3⟩ := h
  exact Kd.R_ne ho h1 ht
theorem IsS70.ne_blk {a : Nat} {cs : Array Value} {t : TypeId} {fr : Nat × Nat} (h : IsS70 w0 W g l) (hb2 : W.heap[a]? = some (.cells cs t fr)) (ht : t ≠ 70) : g ≠ a := by
  obtain ⟨A, c, hb, h2, h3⟩ := h
  rintro rfl
  unfold NetAt at hb
  rw [hb] at hb2
  injection hb2 with hb2
  injection hb2 with _ ht2
  exact ht ht2.symm
/-- A store into a block of type 52. -/
theorem IsS70.far52 {b j : Nat} (h : IsS70 w0 W g l) (hb : ∃ cs, W.heap[b]? = some (.cells cs 52 (0, 0))) (hne : g ≠ b) (u : Value) : IsS70 w0 (W.setCell ⟨b, j, none⟩ u) g l ∧ ∃ cs, (W.setCell ⟨b, j, none⟩ u).heap[b]? = some (.cells cs 52 (0, 0)) := by
  obtain ⟨A, c, h1, h2, h3⟩ := h
  obtain ⟨cs, hb⟩ := hb
  refine ⟨⟨A, c, ?_, ?_, h3⟩, ⟨_, blk_set hb j u⟩⟩
  · exact blk_far (p := ⟨b, j, none⟩) h1 hne u
  · exact Kd.R_set h2 hb (by intro q hq; simp [k72, Kd.iso, Kd.pair, Kd.slice, Kd.bool, Kd.int, Kd.scalar] at hq; omega) j u
theorem IsS70.far5 {b : Nat} {x y z s t : Value} (h : IsS70 w0 W g l) (hb : ∃ cs, W.heap[b]? = some (.cells cs 52 (0, 0))) (hne : g ≠ b) : IsS70 w0 (((((W.setCell ⟨b, 0, none⟩ x).setCell ⟨b, 1, none⟩ y).setCell ⟨b, 2, none⟩ z).setCell ⟨b, 3, none⟩ s).setCell ⟨b, 4, none⟩ t) g l := by
  obtain ⟨h1, hb1⟩ := IsS70.far52 (j := 0) h hb hne x
  obtain ⟨h2, hb2⟩ := IsS70.far52 (j := 1) h1 hb1 hne y
  obtain ⟨h3, hb3⟩ := IsS70.far52 (j := 2) h2 hb2 hne z
  obtain ⟨h4, hb4⟩ := IsS70.far52 (j := 3) h3 hb3 hne s
  exact (IsS70.far52 (j := 4) h4 hb4 hne t).1
end
theorem KeepT.blk {w w1 : World} {g g' : Nat} {o : Obj} (h : KeepT w w1 g) (hb : w.heap[g']? = some o) (hg : g' ≠ g) (hr : some g' ≠ (none : Option Nat)) (ht : ∃ cs t fr, o = .cells cs t fr ∧ t ≠ 72 := by exact ⟨_, _, _, rfl, by decide⟩) : w1.heap[g']? = some o := by
  obtain ⟨cs, t, fr, rfl, ht⟩ := ht
  exact (h.2 g' cs t fr hg ht hb).trans hb
theorem R_keepT {α : Type} {d : Kd α} {e base : Nat} {ok : Nat → Prop} {v : Value} {xs : List α} {w w1 : World} {g : Nat} (h : d.R e w base ok v xs) (hk : KeepT w w1 g) (hok : ∀ k, ok k → k ≠ g) (ht : ∀ q, q ∈ e :: d.E → q ≠ 72 := by decide) : d.R e w1 base ok v xs :=
  Kd.R_mono (Kd.R_step (Kd.R_bound h) (fun k hk' hlt => by
    obtain ⟨h1, _, _, q, hq, cells, hc⟩ := hk'
    exact hk.2 k cells q _ (hok k h1) (ht q hq) hc)) (fun k hk' => hk'.1)
theorem R_oldT {α : Type} {d : Kd α} {e base : Nat} {ok : Nat → Prop} {v : Value} {xs : List α} {w w1 : World} {g : Nat} (h : d.R e w base (fun k => ok k ∧ k ≠ g) v xs) (hk : KeepT w w1 g) (ht : ∀ q, q ∈ e :: d.E → q ≠ 72 := by decide) : d.R e w1 base (fun k => ok k ∧ k < w.heap.size) v xs :=
  Kd.R_mono (Kd.R_step (Kd.R_bound h) (fun k hk' hlt => by
    obtain ⟨h1, _, _, q, hq, cells, hc⟩ := hk'
    exact hk.2 k cells q _ h1.2 (ht q hq) hc)) (fun k hk' => ⟨hk'.1.1, hk'.2.2.1⟩)
theorem C_of_block {w : World} {g : Nat} {xs : List Int} {e : TypeId} {fr : Nat × Nat} (h : w.heap[g]? = some (.cells (xs.map fun x => Value.int .u8 x).toArray e fr)) (hn : xs.length ≤ 9223372036854775807) :
    Kd.C (Kd.int .u8) w (some ⟨g, 0, none⟩) xs.length xs := by
  refine Kd.C_of_reads (d := (0 : Int)) (h1 := fun _ => rfl) ⟨rfl, hn, fun _ => ⟨_, rfl, fun j hj => ?_⟩⟩
  have e1 : (⟨g, 0, none⟩ : Addr).add j = ⟨g, j, none⟩ := by unfold Addr.add; split <;> simp_all
  rw [e1]
  simp [World.cell?, h, hj]
/-- A row of constants, where it was laid. -/
theorem C_of_new {w : World} {xs : List Int} {e : TypeId} {fr : Nat × Nat} (hn : xs.length ≤ 9223372036854775807 := by decide) :
    Kd.C (Kd.int .u8) (w.alloc (.cells (xs.map fun x => Value.int .u8 x).toArray e fr)) (some ⟨w.heap.size, 0, none⟩) xs.length xs := C_of_block (heap_alloc_new _ _) hn
theorem far_new {w : World} {g n : Nat} (h : g < w.heap.size) : ∀ ad, some (⟨w.heap.size, 0, none⟩ : Addr) = some ad → 0 < n → ad.block ≠ g := by
  rintro ad ⟨⟩ _
  exact Nat.ne_of_gt h
end Go.Proofs.Ytjcpamclggbbdaa.PNgt
