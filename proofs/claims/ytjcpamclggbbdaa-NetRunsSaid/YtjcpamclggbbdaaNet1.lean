/- The walks of the net's functions that read: New, Len, there, At. -/
import Derived.Test.YtjcpamclggbbdaaNetK
import Derived.WalkSpells
namespace Go.Proofs.Ytjcpamclggbbdaa.PNgt
open Go.RowKit Go.Proofs.YtjcpamclggbbdaaW.PrintWords Go.Proofs.YtjcpamclggbbdaaW.PrintLast Go.Proofs.YtjcpamclggbbdaaW.PrintMore
attribute [local go_sem] max2_int min2_int max_two min_two max_three min_three max_four min_four
set_option linter.unusedVariables false
set_option linter.unusedSimpArgs false
/-- A net at g: its items' slice. -/
def NetAt (W : World) (g : Nat) (v : Value) : Prop := W.heap[g]? = some (.cells #[v] 70 (0, 0))
section
variable {W W1 : World} {g : Nat} {v : Value}
theorem NetAt.c0 (h : NetAt W g v) : W.cell? ⟨g, 0, none⟩ = some v := cell_of_row W g 0 _ _ _ h
theorem NetAt.below (h : NetAt W g v) (hb : Below W.heap.size W W1) : NetAt W1 g v := blk_below h hb
theorem NetAt.grown {row : Option Nat} (h : NetAt W g v) (hg : W.grownBy W1 row) (hne : some g ≠ row) : NetAt W1 g v := blk_grown h hg hne
theorem NetAt.set0 (h : NetAt W g v) (u : Value) : NetAt (W.setCell ⟨g, 0, none⟩ u) g u := by simpa [NetAt] using blk_set h 0 u
end
set_option maxHeartbeats 8000000 in
theorem netNew (w : World) : Calls Try.prog 24 #[] w fun e w' => e = .returned (.pointer (some ⟨w.heap.size, 0, none⟩)) ∧ w' = w.alloc (.cells #[.slice none 0 0] 70) := by
  go_enter Try.func24, Try.ntmps24
  go_wp2
  go_ret
  exact ⟨rfl, rfl⟩
set_option maxHeartbeats 8000000 in
theorem netLen (g : Nat) (A : Option Addr) (n c : Nat) (w : World) (h : NetAt w g (.slice A n c)) : Calls Try.prog 27 #[.pointer (some ⟨g, 0, none⟩)] w fun e w' => e = .returned (.int .i64 n) ∧ w' = w := by
  have h0 := h.c0
  go_enter Try.func27, Try.ntmps27
  go_wp2
  go_ret
  exact ⟨rfl, rfl⟩
set_option maxHeartbeats 8000000 in
theorem netThere (g : Nat) (A : Option Addr) (n c : Nat) (i : Int) (w : World) (h : NetAt w g (.slice A n c)) : Calls Try.prog 40 #[.pointer (some ⟨g, 0, none⟩), .int .i64 i] w fun e w' => e = .returned (.bool (decide (0 ≤ i ∧ i < (n : Int)))) ∧ w' = w := by
  have h0 := h.c0
  by_cases hi : 0 ≤ i
  · have e1 : decide (0 ≤ i) = true := decide_eq_true hi
    have e2 : decide (0 ≤ i ∧ i < (n : Int)) = decide (i < (n : Int)) := by simp [hi]
    rw [e2]
    clear hi e2
    go_enter Try.func40, Try.ntmps40
    go_wp2
    go_ret
    exact ⟨rfl, rfl⟩
  · have e1 : decide (0 ≤ i) = false := decide_eq_false hi
    have e2 : decide (0 ≤ i ∧ i < (n : Int)) = false := by simp [hi]
    rw [e2]
    clear hi e2
    go_enter Try.func40, Try.ntmps40
    go_wp2
    go_ret
    exact ⟨rfl, rfl⟩
set_option maxHeartbeats 8000000 in
theorem netAt_no (g : Nat) (A : Option Addr) (n c : Nat) (i : Int) (w : World) (h : NetAt w g (.slice A n c)) (hi : ¬ (0 ≤ i ∧ i < (n : Int))) : Calls Try.prog 25 #[.pointer (some ⟨g, 0, none⟩), .int .i64 i] w fun e w' => e = .returned (.tuple #[.slice none 0 0, .bool false]) ∧ w' = w := by
  have e2 : decide (0 ≤ i ∧ i < (n : Int)) = false := decide_eq_false hi
  have HT := Aside0.mk (netThere g A n c i w h)
  rw [e2] at HT
  clear h hi e2
  go_enter Try.func25, Try.ntmps25
  go_wp2_with (first | ((with_reducible refine gate_callee (f := 40) rfl ?_); refine goesL_ (some 8) rfl rfl Try.func40 (by kernel_rfl) rfl #[.pointer (some ⟨g, 0, none⟩), .int .i64 i] rfl (by (try simp only [List.map_toArray, List.map_cons, List.map_nil]); first | done | rfl) ?_; (with_reducible refine HT.out.mono ?_); rintro e w1 ⟨rfl, rfl⟩; refine ⟨_, rfl, ?_⟩))
  go_ret2
  exact ⟨rfl, rfl⟩
set_option maxHeartbeats 8000000 in
theorem netAt_yes (g : Nat) (A : Option Addr) (c : Nat) (l : List S72) (i : Int) (w : World) (h : NetAt w g (.slice A l.length c)) (hC : Kd.C k72 w A l.length l) (h0 : 0 ≤ i) (h1 : i < (l.length : Int)) (hb : ((rd_T72 l i).f0).length < 140737488355328) :
    Calls Try.prog 25 #[.pointer (some ⟨g, 0, none⟩), .int .i64 i] w fun e w' => ∃ u, e = .returned (.tuple #[u, .bool true]) ∧ Kd.R (Kd.int .u8) 5 w' w.heap.size (fun _ => True) u (rd_T72 l i).f0 ∧ Below w.heap.size w w' := by
  have e2 : decide (0 ≤ i ∧ i < (l.length : Int)) = true := decide_eq_true ⟨h0, h1⟩
  have HT := Aside0.mk (netThere g A l.length c i w h)
  rw [e2] at HT
  have hA := Aside0.mk h
  obtain ⟨ad, A0, c0, rfl, x0, x1, hl, hF⟩ := at_T72 hC i h0 h1
  have HF := Aside0.mk hF
  have HL := Aside0.mk hl
  have HK : Aside0 (slices_Clone_byte_byte.f (rd_T72 l i).f0 = some (rd_T72 l i).f0) := ⟨by unfold slices_Clone_byte_byte.f; rw [if_pos hb]⟩
  have d0 : decide (0 ≤ i) = true := decide_eq_true h0
  have d1 : decide (i < (l.length : Int)) = true := decide_eq_true h1
  have b0 := eq_true h0
  have b1 := eq_true h1
  have h0' := h.c0
  clear e2 hC hF hl hb h h0 h1
  go_enter Try.func25, Try.ntmps25
  go_wp2_with (first | ((with_reducible refine gate_callee (f := 40) rfl ?_); refine goesL_ (some 8) rfl rfl Try.func40 (by kernel_rfl) rfl #[.pointer (some ⟨g, 0, none⟩), .int .i64 i] rfl (by (try simp only [List.map_toArray, List.map_cons, List.map_nil]); first | done | rfl) ?_; (with_reducible refine HT.out.mono ?_); rintro e w1 ⟨rfl, rfl⟩; refine ⟨_, rfl, ?_⟩) | ((with_reducible refine gate_callee (f := 38) rfl ?_); refine goesL_ (some 18) rfl rfl Try.func38 (by kernel_rfl) rfl #[.slice A0 ((rd_T72 l i).f0).length c0] rfl (by (try simp only [List.map_toArray, List.map_cons, List.map_nil]); first | done | rfl) ?_; (with_reducible refine (slices_Clone_byte_byte.calls A0 c0 _ _ _ HF.out HL.out HK.out).mono ?_); rintro e w2 ⟨u, rfl, hu, hb⟩; refine ⟨_, rfl, ?_⟩; have HU := Aside0.mk hu; have HB := Aside0.mk hb; clear hu hb))
  go_ret2
  exact ⟨_, rfl, HU.out, HB.out⟩
end Go.Proofs.Ytjcpamclggbbdaa.PNgt
