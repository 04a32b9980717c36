/- An argument of type [2]int: its two numbers. -/
import Derived.Test.YthoeoooccmjjaaaArgs
import Derived.ChangeArms
import Derived.Laws.IdiomArrays
namespace Go.Proofs.Ythoeoooccmjjaaa.Args
open Go.ChangeShapes Go.WideShapes
theorem okWide2 {W : World} {r : Reach} {base : Nat} {v : Value} (h : Value.okWide Try.prog W r base 37 v) : ∃ cs : Array Value, v = .agg cs ∧ cs.size = 2 := by
  simp only [Value.okWide, Try.underlying37] at h
  obtain ⟨cs, h1, h2, _⟩ := h
  exact ⟨cs, h1, h2.trans (by kernel_rfl)⟩
theorem open2 {H : Type} {enc : TypeId × Value → H} {W : World} {r : Reach} {b0 base : Nat} {sp : Nat → Bool} {held : Bool} {v : Value} {d : DataW H} {ps : List MemPlace}
    (hv : Value.okWide Try.prog W r b0 37 v) (h : DataW.Trod enc Try.prog W base sp held 37 v d ps) :
    ∃ p q : Int, v = .agg #[.int .i64 p, .int .i64 q] ∧ (Lit.int .i64 p).wf = true ∧ (Lit.int .i64 q).wf = true := by
  obtain ⟨⟨cs⟩, rfl, hn⟩ := okWide2 hv
  obtain ⟨fuel, hf⟩ := h
  match cs, hn with
  | [c0, c1], _ =>
    obtain ⟨xs, m, _, _, _, hl, hi⟩ := DataW.trod_array Try.underlying37 hf
    have hc : Try.prog.cellsOf 3 = 1 := by kernel_rfl
    rw [hc] at hi
    match xs, hl with
    | [y0, y1], _ =>
      have a := hi 0 (by omega)
      have b := hi 1 (by omega)
      obtain ⟨p, e0, _, w0⟩ := DataW.trod_int (x := y0) Try.underlying3 a
      obtain ⟨q, e1, _, w1⟩ := DataW.trod_int (x := y1) Try.underlying3 b
      obtain rfl : c0 = .int .i64 p := by simpa [Value.cells] using e0
      obtain rfl : c1 = .int .i64 q := by simpa [Value.cells] using e1
      exact ⟨p, q, rfl, w0, w1⟩
end Go.Proofs.Ythoeoooccmjjaaa.Args
