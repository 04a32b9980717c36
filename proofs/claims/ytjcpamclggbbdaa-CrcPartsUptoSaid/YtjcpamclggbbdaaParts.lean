/- A slice of byte slices that comes in: its rows as lists of lists, with their lengths where the bulk is bound. -/
import Derived.Test.YtjcpamclggbbdaaBulk
import Derived.Test.YtjcpamclggbbdaaPCrcx0
import Derived.ChangeSlices
import Derived.Deep.Slices
import Derived.OpenShut
namespace Go.Proofs.Ytjcpamclggbbdaa.bulks
open Go.RowKit Go.Proofs.YtjcpamclggbbdaaW.PrintWords Go.Proofs.YtjcpamclggbbdaaW.PrintLast
theorem inner {H : Type} {enc : TypeId × Value → H} {W : World} {base fuel : Nat} {held : Bool} {V : Value} {D : DataW H} {ps : List MemPlace}
    (hf : DataW.trod enc Try.prog W base (fun _ => true) held fuel 22 [V] = some (D, ps)) :
    ∃ l : List Int, (Kd.slice 5 (Kd.int .u8)).K W l [V] ∧ l.length ≤ Rows.uptoBulk D ∧ ∀ x ∈ l, (Lit.int .u8 x).wf = true := by
  rcases Go.ChangeShapes.open_ints Try.underlying22 Try.underlying5 (by kernel_rfl) hf with ⟨hcs, _⟩ | ⟨x, len, c, zs, hcs, _, hl, hm, hz, hx, hcell, hwz⟩
  · obtain rfl : V = .slice none 0 0 := by simpa using hcs
    exact ⟨[], ⟨none, 0, rfl, Nat.le_refl _, rfl, by simp, fun h => absurd h (by simp)⟩, by simp, fun _ h => by cases h⟩
  · obtain rfl : V = .slice (some x) len c := by simpa using hcs
    obtain ⟨l, e, hr, hml, hw, hc⟩ := ReadsInt.ofRowC (k := .u8) (w := W) (a := some x) (len := len) (cap := c) (zs := zs) (.inr ⟨_, rfl, hl, hm, by simpa using hz, hcell, hwz⟩)
    subst e
    refine ⟨l, ⟨some x, c, rfl, hc, Kd.C_of_reads (d := (0 : Int)) (h1 := fun _ => rfl) hr⟩, ?_, hw⟩
    exact slice_len (t := 22) (a := some x) (cap := c) Try.underlying22 ⟨fuel, hf⟩
theorem flat_len {H : Type} (L : Nat → List Int) (D : Nat → DataW H) (is : List Nat) (h : ∀ i ∈ is, (L i).length ≤ Rows.uptoBulk (D i)) : ((is.map L).flatten).length ≤ Rows.uptoBulkAll (is.map D) := by
  induction is with
  | nil => simp
  | cons i is ih =>
    have h1 := h i (by simp)
    have h2 := ih (fun j hj => h j (by simp [hj]))
    simp only [List.map_cons, List.flatten_cons, List.length_append, Rows.uptoBulkAll]
    omega
theorem outer {H : Type} {enc : TypeId × Value → H} {W : World} {held : Bool} {a : Option Addr} {len cap : Nat} {d : DataW H} {ps : List MemPlace}
    (h : DataW.Trod enc Try.prog W 0 (fun _ => true) held 34 (.slice a len cap) d ps) :
    ∃ l : List (List Int), len = l.length ∧ Kd.C (Kd.slice 5 (Kd.int .u8)) W a l.length l ∧ l.length ≤ cap ∧ l.flatten.length ≤ Rows.uptoBulk d ∧ ∀ p ∈ l, ∀ x ∈ p, (Lit.int .u8 x).wf = true := by
  obtain ⟨fuel, hf⟩ := h
  rcases Go.Deep.open_slice1 (t := 34) (e := 22) Try.underlying34 (by kernel_rfl) hf with ⟨hcs, _⟩ | ⟨x, l, c, m, n, V, D, Pl, hcs, _, hl, hm, hmm, hx, hi⟩
  · simp [Value.cells] at hcs
    obtain ⟨rfl, rfl, rfl⟩ := hcs
    exact ⟨[], rfl, ⟨rfl, by simp, fun h => absurd h (by simp)⟩, Nat.le_refl _, by simp, fun _ h => by cases h⟩
  · simp [Value.cells] at hcs
    obtain ⟨rfl, rfl, rfl⟩ := hcs
    have hm2 : m = cap := by simpa using hmm
    have hd : d = .slice ((List.range len).map D) ((List.range (m - len)).map fun j => D (len + j)) := congrArg Prod.fst hx
    obtain ⟨L, hL⟩ := Go.Deep.choose_lt (α := List Int) (n := len) (p := fun i l => (Kd.slice 5 (Kd.int .u8)).K W l [V i] ∧ l.length ≤ Rows.uptoBulk (D i) ∧ ∀ x ∈ l, (Lit.int .u8 x).wf = true) (fun i hlt => inner (hi i (by omega)).2)
    have hlen : ((List.range len).map L).length = len := by simp
    refine ⟨(List.range len).map L, hlen.symm, ?_, by omega, ?_, ?_⟩
    · rw [hlen]
      refine ⟨hlen, Nat.le_trans (Nat.le_trans hl hm) (by decide), fun h0 => ⟨x, rfl, fun j p hj => ?_⟩⟩
      have hlt : j < len := by
        have := (List.getElem?_eq_some_iff.1 hj).1
        omega
      have hp : L j = p := by simpa [hlt] using hj
      refine ⟨[V j], rfl, hp ▸ (hL j hlt).1, fun i u hu => ?_⟩
      have hi0 : i = 0 := by
        have := (List.getElem?_eq_some_iff.1 hu).1
        simp at this
        omega
      subst hi0
      obtain rfl : V j = u := by simpa using hu
      have h3 := (hi j (by omega)).1
      show W.cell? (x.add (j * 1 + 0)) = _
      simpa using h3
    · rw [hd]
      have h1 := slice_elems ((List.range len).map D) ((List.range (m - len)).map fun j => D (len + j))
      have h2 := flat_len L D (List.range len) (fun i hi' => (hL i (by simpa using hi')).2.1)
      omega
    · intro p hp
      obtain ⟨i, hi', rfl⟩ := List.mem_map.1 hp
      exact (hL i (by simpa using hi')).2.2
end Go.Proofs.Ytjcpamclggbbdaa.bulks
