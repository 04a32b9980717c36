/- What comes in: a slice of byte slices, a slice of acts (two numbers and bytes): as lists, with what is known of their lengths. -/
import Derived.Test.YthoeoooccmjjaaaDsk
import Derived.Test.YthoeoooccmjjaaaWSized
import Derived.ChangeSlices
import Derived.Deep.Slices
import Derived.Deep.Strs
import Derived.OpenShut
import Derived.SizedLaws
namespace Go.Proofs.Ythoeoooccmjjaaa.Args
open Go.RowKit Go.Proofs.YthoeoooccmjjaaaW.PrintWords Go.Proofs.YthoeoooccmjjaaaW.PrintLast Go.Proofs.Ythoeoooccmjjaaa.PDsk
theorem wf_u8 {x : Int} (h : (Lit.int .u8 x).wf = true) : 0 ≤ x ∧ x < 256 := by
  simp [Lit.wf, IntKind.min, IntKind.max, IntKind.signed, IntKind.bits] at h
  omega
theorem wf_i64 {x : Int} (h : (Lit.int .i64 x).wf = true) : -9223372036854775808 ≤ x ∧ x < 9223372036854775808 := by
  simp [Lit.wf, IntKind.min, IntKind.max, IntKind.signed, IntKind.bits] at h
  omega
instance : Inhabited S34 := ⟨z34⟩
/-- Every weight is in reach. -/
def Fit {H : Type} (t : TypeId) (d : DataW H) : Prop := (d.weights Try.prog t).all (· ≤ reachBytes) = true
theorem fit_mem {H : Type} {e : TypeId} : ∀ {l : List (DataW H)} {d : DataW H}, (DataW.weightsAll Try.prog e l).all (· ≤ reachBytes) = true → d ∈ l → Fit e d
  | x :: r, d, h, hd => by
    simp only [DataW.weightsAll, List.all_append, Bool.and_eq_true] at h
    rcases List.mem_cons.1 hd with rfl | hd
    · exact h.1
    · exact fit_mem h.2 hd
theorem fit_slice {H : Type} {t e : TypeId} {elems spare : List (DataW H)} (hu : Try.prog.underlying t = some (.slice e)) (h : Fit t (.slice elems spare)) : ∀ d ∈ elems, Fit e d := by
  intro d hd
  unfold Fit at h
  simp only [DataW.weights, hu, List.all_cons, List.all_append, Bool.and_eq_true] at h
  exact fit_mem h.2.1 hd
theorem fit_each {H : Type} {ts : List TypeId} {ds : List (DataW H)} (h : (DataW.weightsEach Try.prog ts ds).all (· ≤ reachBytes) = true) : ∀ (j : Nat) (t : TypeId) (d : DataW H), ts[j]? = some t → ds[j]? = some d → Fit t d := by
  induction ts generalizing ds with
  | nil => intro j t d ht; simp at ht
  | cons t0 ts ih =>
    intro j t d ht hd
    cases ds with
    | nil => simp at hd
    | cons d0 ds =>
      simp only [DataW.weightsEach, List.all_append, Bool.and_eq_true] at h
      cases j with
      | zero =>
        simp at ht hd
        subst ht hd
        exact h.1
      | succ j => exact ih h.2 j t d (by simpa using ht) (by simpa using hd)
theorem inner {H : Type} {enc : TypeId × Value → H} {W : World} {base fuel : Nat} {held : Bool} {V : Value} {D : DataW H} {ps : List MemPlace}
    (hf : DataW.trod enc Try.prog W base (fun _ => true) held fuel 27 [V] = some (D, ps)) (hw : Fit 27 D) :
    ∃ (A : Option Addr) (c : Nat) (l : List Int), V = .slice A l.length c ∧ l.length ≤ c ∧ Kd.C (Kd.int .u8) W A l.length l ∧ l.length ≤ 140737488351232 ∧ inB l := by
  have inb : ∀ l : List Int, (∀ x ∈ l, (Lit.int .u8 x).wf = true) → inB l := fun l h x hx => by
    exact wf_u8 (h x hx)
  rcases Go.ChangeShapes.open_ints Try.underlying27 Try.underlying5 (by kernel_rfl) hf with ⟨hcs, _⟩ | ⟨x, len, c, zs, hcs, _, hl, hm, hz, hx, hcell, hwz⟩
  · obtain rfl : V = .slice none 0 0 := by simpa using hcs
    exact ⟨none, 0, [], rfl, Nat.le_refl _, Kd.C_nil _ _, by simp, fun _ h => by cases h⟩
  · obtain rfl : V = .slice (some x) len c := by simpa using hcs
    obtain ⟨l, e, hr, hml, hw', hc⟩ := ReadsInt.ofRowC (k := .u8) (w := W) (a := some x) (len := len) (cap := c) (zs := zs) (.inr ⟨_, rfl, hl, hm, by simpa using hz, hcell, hwz⟩)
    subst e
    have hs := sized_ints (ts := [27]) (ds := [D]) (j := 0) (by simpa [DataW.weightsEach, Fit] using hw) rfl rfl Try.underlying27 Try.underlying5 (by kernel_rfl) (B := 1) (by kernel_rfl) (⟨fuel, hf⟩ : DataW.Trod enc Try.prog W base (fun _ => true) held 27 (.slice (some x) l.length c) D ps)
    exact ⟨some x, c, l, rfl, hc, Kd.C_of_reads (d := (0 : Int)) (h1 := fun _ => rfl) hr, by omega, inb _ hw'⟩
theorem rows {H : Type} {enc : TypeId × Value → H} {W : World} {held : Bool} {a : Option Addr} {len cap : Nat} {d : DataW H} {ps : List MemPlace}
    (h : DataW.Trod enc Try.prog W 0 (fun _ => true) held 28 (.slice a len cap) d ps) (hw : Fit 28 d) :
    ∃ l : List (List Int), len = l.length ∧ Kd.C (Kd.slice 5 (Kd.int .u8)) W a l.length l ∧ l.length ≤ cap ∧ ∀ p ∈ l, p.length ≤ 140737488351232 ∧ inB p := by
  obtain ⟨fuel, hf⟩ := h
  rcases Go.Deep.open_slice1 (t := 28) (e := 27) Try.underlying28 (by kernel_rfl) hf with ⟨hcs, _⟩ | ⟨x, l, c, m, n, V, D, Pl, hcs, _, hl, hm, hmm, hx, hi⟩
  · simp [Value.cells] at hcs
    obtain ⟨rfl, rfl, rfl⟩ := hcs
    exact ⟨[], rfl, ⟨rfl, by simp, fun h => absurd h (by simp)⟩, Nat.le_refl _, fun _ h => by cases h⟩
  · simp [Value.cells] at hcs
    obtain ⟨rfl, rfl, rfl⟩ := hcs
    have hm2 : m = cap := by simpa using hmm
    have hd : d = .slice ((List.range len).map D) ((List.range (m - len)).map fun j => D (len + j)) := congrArg Prod.fst hx
    subst hd
    have hfit := fit_slice Try.underlying28 hw
    obtain ⟨L, hL⟩ := Go.Deep.choose_lt (α := List Int) (n := len) (p := fun i l => (Kd.slice 5 (Kd.int .u8)).K W l [V i] ∧ l.length ≤ 140737488351232 ∧ inB l) (fun i hlt => by
      obtain ⟨A, c, l, hV, hc, hC, hb, hin⟩ := inner (hi i (by omega)).2 (hfit _ (List.mem_map.2 ⟨i, by simpa using hlt, rfl⟩))
      exact ⟨l, ⟨A, c, by rw [hV], hc, hC⟩, hb, hin⟩)
    have hlen : ((List.range len).map L).length = len := by simp
    refine ⟨(List.range len).map L, hlen.symm, ?_, by omega, ?_⟩
    · rw [hlen]
      refine ⟨hlen, Nat.le_trans (Nat.le_trans hl hm) (by decide), fun h0 => ⟨x, rfl, fun j p hj => ?_⟩⟩
      have hlt : j < len := by
        have := (List.getElem?_eq_some_iff.1 hj).1
        omega
      have hp : L j = p := by simpa [hlt] using hj
      refine ⟨[V j], rfl, hp ▸ (hL j hlt).1, fun i u hu => ?_⟩
      have hi0 : i = 0 := by
        have := (List.getElem?_eq_some_iff.1 hu).1
        simp at this
        omega
      subst hi0
      obtain rfl : V j = u := by simpa using hu
      have h3 := (hi j (by omega)).1
      show W.cell? (x.add (j * 1 + 0)) = _
      simpa using h3
    · intro p hp
      obtain ⟨i, hi', rfl⟩ := List.mem_map.1 hp
      exact (hL i (by simpa using hi')).2
theorem u34 : ∃ f0 f1 f2 : Field, Try.prog.underlying 34 = some (.struct #[f0, f1, f2]) ∧ (f0.type = 3 ∧ f0.offset = 0) ∧ (f1.type = 3 ∧ f1.offset = 1) ∧ (f2.type = 27 ∧ f2.offset = 2) := ⟨_, _, _, Try.underlying34, ⟨rfl, rfl⟩, ⟨rfl, rfl⟩, ⟨rfl, rfl⟩⟩
def okAct (x : S34) : Prop := x.f2.length ≤ 140737488351232 ∧ inB x.f2 ∧ (Lit.int .i64 x.f0).wf = true ∧ (Lit.int .i64 x.f1).wf = true
theorem act {H : Type} {enc : TypeId × Value → H} {W : World} {base fuel : Nat} {held : Bool} {cs : List Value} {D : DataW H} {ps : List MemPlace}
    (hf : DataW.trod enc Try.prog W base (fun _ => true) held fuel 34 cs = some (D, ps)) (hw : Fit 34 D) : ∃ x : S34, k34.K W x cs ∧ okAct x ∧ cs.length = 3 := by
  obtain ⟨f0, f1, f2, hu, ⟨t0, o0⟩, ⟨t1, o1⟩, ⟨t2, o2⟩⟩ := u34
  obtain ⟨y0, y1, y2, n, hx, hl, h0, h1, h2⟩ := Go.Deep.trod_struct3 hu hf
  rw [t0, o0] at h0
  rw [t1, o1] at h1
  rw [t2, o2] at h2
  have c3 : Try.prog.cellsOf 3 = 1 := by kernel_rfl
  have c27 : Try.prog.cellsOf 27 = 1 := by kernel_rfl
  have c34 : Try.prog.cellsOf 34 = 3 := by kernel_rfl
  rw [c3] at h0 h1
  rw [c27] at h2
  rw [c34] at hl
  match cs, hl with
  | [v0, v1, v2], _ =>
    simp only [List.drop_zero, List.take_succ_cons, List.take_zero, List.drop_succ_cons] at h0 h1 h2
    obtain ⟨p0, e0, _, w0⟩ := DataW.trod_int Try.underlying3 h0
    obtain ⟨p1, e1, _, w1⟩ := DataW.trod_int Try.underlying3 h1
    obtain rfl : v0 = .int .i64 p0 := by simpa using e0
    obtain rfl : v1 = .int .i64 p1 := by simpa using e1
    have hD : D = .agg [y0.1, y1.1, y2.1] := congrArg Prod.fst hx
    have hf2 : Fit 27 y2.1 := by
      subst hD
      unfold Fit at hw ⊢
      simp only [DataW.weights, hu] at hw
      have : (#[f0, f1, f2] : Array Field).toList.map (·.type) = [3, 3, 27] := by simp [t0, t1, t2]
      rw [this] at hw
      simp only [DataW.weightsEach, List.all_append, Bool.and_eq_true] at hw
      exact hw.2.2.1
    obtain ⟨A, c, l, rfl, hc, hC, hb, hin⟩ := inner (D := y2.1) (ps := y2.2) h2 hf2
    exact ⟨⟨p0, p1, l⟩, k34_mk W ⟨p0, p1, l⟩ hc hC, ⟨hb, hin, w0, w1⟩, rfl⟩
theorem acts {H : Type} {enc : TypeId × Value → H} {W : World} {held : Bool} {a : Option Addr} {len cap : Nat} {d : DataW H} {ps : List MemPlace}
    (h : DataW.Trod enc Try.prog W 0 (fun _ => true) held 32 (.slice a len cap) d ps) (hw : Fit 32 d) :
    ∃ l : List S34, len = l.length ∧ Kd.C k34 W a l.length l ∧ l.length ≤ cap ∧ ∀ p ∈ l, okAct p := by
  obtain ⟨fuel, hf⟩ := h
  have c34 : Try.prog.cellsOf 34 = 3 := by kernel_rfl
  rcases Go.Deep.open_slice (t := 32) (e := 34) Try.underlying32 hf with ⟨hcs, _⟩ | ⟨x, l, c, m, n, D, Pl, hcs, _, hl, hm, hmm, hx, hi⟩
  · simp [Value.cells] at hcs
    obtain ⟨rfl, rfl, rfl⟩ := hcs
    exact ⟨[], rfl, ⟨rfl, by simp, fun h => absurd h (by simp)⟩, Nat.le_refl _, fun _ h => by cases h⟩
  · simp [Value.cells] at hcs
    obtain ⟨rfl, rfl, rfl⟩ := hcs
    have hm2 : m = cap := by simpa using hmm
    have hd : d = .slice ((List.range len).map D) ((List.range (m - len)).map fun j => D (len + j)) := congrArg Prod.fst hx
    subst hd
    have hfit := fit_slice Try.underlying32 hw
    obtain ⟨L, hL⟩ := Go.Deep.choose_lt (α := S34) (n := len) (p := fun i p => okAct p ∧ ∃ cs, cs.length = 3 ∧ k34.K W p cs ∧ ∀ (j : Nat) u, cs[j]? = some u → W.cell? (x.add (i * 3 + j)) = some u) (fun i hlt => by
      obtain ⟨cs, h1, h2⟩ := hi i (by omega)
      obtain ⟨p, hp, hok, hl3⟩ := act h2 (hfit _ (List.mem_map.2 ⟨i, by simpa using hlt, rfl⟩))
      refine ⟨p, hok, cs, hl3, hp, fun j u hu => ?_⟩
      rw [c34] at h1
      have hj : j < 3 := by
        have := (List.getElem?_eq_some_iff.1 hu).1
        omega
      have h3 := (World.cells?_some h1).2.2 j hj
      rw [← hu, ← h3, Go.Deep.add_add])
    have hlen : ((List.range len).map L).length = len := by simp
    refine ⟨(List.range len).map L, hlen.symm, ?_, by omega, ?_⟩
    · rw [hlen]
      refine ⟨hlen, Nat.le_trans (Nat.le_trans hl hm) (by decide), fun h0 => ⟨x, rfl, fun j p hj => ?_⟩⟩
      have hlt : j < len := by
        have := (List.getElem?_eq_some_iff.1 hj).1
        omega
      have hp : L j = p := by simpa [hlt] using hj
      obtain ⟨_, cs, hc3, hK, hcell⟩ := hL j hlt
      exact ⟨cs, hc3, hp ▸ hK, hcell⟩
    · intro p hp
      obtain ⟨i, hi', rfl⟩ := List.mem_map.1 hp
      exact (hL i (by simpa using hi')).1
end Go.Proofs.Ythoeoooccmjjaaa.Args
