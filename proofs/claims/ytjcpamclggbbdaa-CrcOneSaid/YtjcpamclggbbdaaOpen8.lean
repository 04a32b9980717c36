/- An argument of type [2][4]byte: its eight numbers. -/
import Derived.Test.YtjcpamclggbbdaaRows
import Derived.OpenShut
import Derived.ChangeArms
import Derived.Laws.IdiomArrays
namespace Go.Proofs.Ytjcpamclggbbdaa
open Go.ChangeShapes Go.WideShapes
theorem u38 : Try.prog.underlying 38 = some (.array 2 37) := by kernel_rfl
theorem u37 : Try.prog.underlying 37 = some (.array 4 5) := by kernel_rfl
theorem open4 {H : Type} {enc : TypeId × Value → H} {W : World} {base fuel : Nat} {sp : Nat → Bool} {held : Bool} {c0 c1 c2 c3 : Value} {x : DataW H × List MemPlace}
    (h : DataW.trod enc Try.prog W base sp held fuel 37 [c0, c1, c2, c3] = some x) :
    ∃ p0 p1 p2 p3 : Int, c0 = .int .u8 p0 ∧ c1 = .int .u8 p1 ∧ c2 = .int .u8 p2 ∧ c3 = .int .u8 p3 ∧ (Lit.int .u8 p0).wf = true ∧ (Lit.int .u8 p1).wf = true ∧ (Lit.int .u8 p2).wf = true ∧ (Lit.int .u8 p3).wf = true := by
  obtain ⟨y0, y1, y2, y3, n, _, h0, h1, h2, h3⟩ := trod_array4 u37 (by kernel_rfl) h
  obtain ⟨p0, e0, _, w0⟩ := DataW.trod_int Try.underlying5 h0
  obtain ⟨p1, e1, _, w1⟩ := DataW.trod_int Try.underlying5 h1
  obtain ⟨p2, e2, _, w2⟩ := DataW.trod_int Try.underlying5 h2
  obtain ⟨p3, e3, _, w3⟩ := DataW.trod_int Try.underlying5 h3
  exact ⟨p0, p1, p2, p3, by simpa using e0, by simpa using e1, by simpa using e2, by simpa using e3, w0, w1, w2, w3⟩
theorem okWide8 {W : World} {r : Reach} {base : Nat} {v : Value} (h : Value.okWide Try.prog W r base 38 v) : ∃ cs : Array Value, v = .agg cs ∧ cs.size = 8 := by
  simp only [Value.okWide, u38] at h
  obtain ⟨cs, h1, h2, _⟩ := h
  exact ⟨cs, h1, h2.trans (by kernel_rfl)⟩
theorem open8 {H : Type} {enc : TypeId × Value → H} {W : World} {r : Reach} {b0 base : Nat} {sp : Nat → Bool} {held : Bool} {v : Value} {d : DataW H} {ps : List MemPlace}
    (hv : Value.okWide Try.prog W r b0 38 v) (h : DataW.Trod enc Try.prog W base sp held 38 v d ps) :
    ∃ p0 p1 p2 p3 p4 p5 p6 p7 : Int, v = .agg #[.int .u8 p0, .int .u8 p1, .int .u8 p2, .int .u8 p3, .int .u8 p4, .int .u8 p5, .int .u8 p6, .int .u8 p7] ∧
      ((Lit.int .u8 p0).wf = true ∧ (Lit.int .u8 p1).wf = true ∧ (Lit.int .u8 p2).wf = true ∧ (Lit.int .u8 p3).wf = true) ∧ ((Lit.int .u8 p4).wf = true ∧ (Lit.int .u8 p5).wf = true ∧ (Lit.int .u8 p6).wf = true ∧ (Lit.int .u8 p7).wf = true) := by
  obtain ⟨⟨cs⟩, rfl, hn⟩ := okWide8 hv
  obtain ⟨fuel, hf⟩ := h
  match cs, hn with
  | [c0, c1, c2, c3, c4, c5, c6, c7], _ =>
    obtain ⟨xs, m, _, _, _, hl, hi⟩ := DataW.trod_array u38 hf
    have hc : Try.prog.cellsOf 37 = 4 := by kernel_rfl
    rw [hc] at hi
    match xs, hl with
    | [y0, y1], _ =>
      have a := hi 0 (by omega)
      have b := hi 1 (by omega)
      obtain ⟨p0, p1, p2, p3, rfl, rfl, rfl, rfl, wa⟩ := open4 (x := y0) a
      obtain ⟨p4, p5, p6, p7, rfl, rfl, rfl, rfl, wb⟩ := open4 (x := y1) b
      exact ⟨p0, p1, p2, p3, p4, p5, p6, p7, rfl, wa, wb⟩
end Go.Proofs.Ytjcpamclggbbdaa
