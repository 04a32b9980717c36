/- What comes in: a slice of byte slices, a slice of acts (four numbers and bytes): as lists, with what is known of their lengths. -/
import Derived.Test.YtjcpamclggbbdaaNEvs
import Derived.Test.YtjcpamclggbbdaaWSized
import Derived.ChangeSlices
import Derived.Deep.Slices
import Derived.Deep.Strs
import Derived.OpenShut
import Derived.SizedLaws
namespace Go.Proofs.Ytjcpamclggbbdaa.NArgs
open Go.RowKit Go.Proofs.YtjcpamclggbbdaaW.PrintWords Go.Proofs.YtjcpamclggbbdaaW.PrintLast Go.Proofs.Ytjcpamclggbbdaa.PNgt Go.Proofs.Ytjcpamclggbbdaa.Math
instance : Inhabited S52 := ⟨z52⟩
/-- Every weight is in reach. -/
def Fit {H : Type} (t : TypeId) (d : DataW H) : Prop := (d.weights Try.prog t).all (· ≤ reachBytes) = true
theorem fit_mem {H : Type} {e : TypeId} : ∀ {l : List (DataW H)} {d : DataW H}, (DataW.weightsAll Try.prog e l).all (· ≤ reachBytes) = true → d ∈ l → Fit e d
  | x :: r, d, h, hd => by
    simp only [DataW.weightsAll, List.all_append, Bool.and_eq_true] at h
    rcases List.mem_cons.1 hd with rfl | hd
    · exact h.1
    · exact fit_mem h.2 hd
theorem fit_slice {H : Type} {t e : TypeId} {elems spare : List (DataW H)} (hu : Try.prog.underlying t = some (.slice e)) (h : Fit t (.slice elems spare)) : ∀ d ∈ elems, Fit e d := by
  intro d hd
  unfold Fit at h
  simp only [DataW.weights, hu, List.all_cons, List.all_append, Bool.and_eq_true] at h
  exact fit_mem h.2.1 hd
theorem fit_each {H : Type} {ts : List TypeId} {ds : List (DataW H)} (h : (DataW.weightsEach Try.prog ts ds).all (· ≤ reachBytes) = true) : ∀ (j : Nat) (t : TypeId) (d : DataW H), ts[j]? = some t → ds[j]? = some d → Fit t d := by
  induction ts generalizing ds with
  | nil => intro j t d ht; simp at ht
  | cons t0 ts ih =>
    intro j t d ht hd
    cases ds with
    | nil => simp at hd
    | cons d0 ds =>
      simp only [DataW.weightsEach, List.all_append, Bool.and_eq_true] at h
      cases j with
      | zero =>
        simp at ht hd
        subst ht hd
        exact h.1
      | succ j => exact ih h.2 j t d (by simpa using ht) (by simpa using hd)
theorem inner {H : Type} {enc : TypeId × Value → H} {W : World} {base fuel : Nat} {held : Bool} {V : Value} {D : DataW H} {ps : List MemPlace}
    (hf : DataW.trod enc Try.prog W base (fun _ => true) held fuel 22 [V] = some (D, ps)) (hw : Fit 22 D) :
    ∃ (A : Option Addr) (c : Nat) (l : List Int), V = .slice A l.length c ∧ l.length ≤ c ∧ Kd.C (Kd.int .u8) W A l.length l ∧ l.length ≤ 140737488351232 ∧ Bytes l := by
  have inb : ∀ l : List Int, (∀ x ∈ l, (Lit.int .u8 x).wf = true) → Bytes l := fun l h x hx => by
    exact wf_u8 (h x hx)
  rcases Go.ChangeShapes.open_ints Try.underlying22 Try.underlying5 (by kernel_rfl) hf with ⟨hcs, _⟩ | ⟨x, len, c, zs, hcs, _, hl, hm, hz, hx, hcell, hwz⟩
  · obtain rfl : V = .slice none 0 0 := by simpa using hcs
    exact ⟨none, 0, [], rfl, Nat.le_refl _, Kd.C_nil _ _, by simp, fun _ h => by cases h⟩
  · obtain rfl : V = .slice (some x) len c := by simpa using hcs
    obtain ⟨l, e, hr, hml, hw', hc⟩ := ReadsInt.ofRowC (k := .u8) (w := W) (a := some x) (len := len) (cap := c) (zs := zs) (.inr ⟨_, rfl, hl, hm, by simpa using hz, hcell, hwz⟩)
    subst e
    have hs := sized_ints (ts := [22]) (ds := [D]) (j := 0) (by simpa [DataW.weightsEach, Fit] using hw) rfl rfl Try.underlying22 Try.underlying5 (by kernel_rfl) (B := 1) (by kernel_rfl) (⟨fuel, hf⟩ : DataW.Trod enc Try.prog W base (fun _ => true) held 22 (.slice (some x) l.length c) D ps)
    exact ⟨some x, c, l, rfl, hc, Kd.C_of_reads (d := (0 : Int)) (h1 := fun _ => rfl) hr, by omega, inb _ hw'⟩
theorem rows {H : Type} {enc : TypeId × Value → H} {W : World} {held : Bool} {a : Option Addr} {len cap : Nat} {d : DataW H} {ps : List MemPlace}
    (h : DataW.Trod enc Try.prog W 0 (fun _ => true) held 34 (.slice a len cap) d ps) (hw : Fit 34 d) :
    ∃ l : List (List Int), len = l.length ∧ Kd.C (Kd.slice 5 (Kd.int .u8)) W a l.length l ∧ l.length ≤ cap ∧ ∀ p ∈ l, p.length ≤ 140737488351232 ∧ Bytes p := by
  obtain ⟨fuel, hf⟩ := h
  rcases Go.Deep.open_slice1 (t := 34) (e := 22) Try.underlying34 (by kernel_rfl) hf with ⟨hcs, _⟩ | ⟨x, l, c, m, n, V, D, Pl, hcs, _, hl, hm, hmm, hx, hi⟩
  · simp [Value.cells] at hcs
    obtain ⟨rfl, rfl, rfl⟩ := hcs
    exact ⟨[], rfl, ⟨rfl, by simp, fun h => absurd h (by simp)⟩, Nat.le_refl _, fun _ h => by cases h⟩
  · simp [Value.cells] at hcs
    obtain ⟨rfl, rfl, rfl⟩ := hcs
    have hm2 : m = cap := by simpa using hmm
    have hd : d = .slice ((List.range len).map D) ((List.range (m - len)).map fun j => D (len + j)) := congrArg Prod.fst hx
    subst hd
    have hfit := fit_slice Try.underlying34 hw
    obtain ⟨L, hL⟩ := Go.Deep.choose_lt (α := List Int) (n := len) (p := fun i l => (Kd.slice 5 (Kd.int .u8)).K W l [V i] ∧ l.length ≤ 140737488351232 ∧ Bytes l) (fun i hlt => by
      obtain ⟨A, c, l, hV, hc, hC, hb, hin⟩ := inner (hi i (by omega)).2 (hfit _ (List.mem_map.2 ⟨i, by simpa using hlt, rfl⟩))
      exact ⟨l, ⟨A, c, by rw [hV], hc, hC⟩, hb, hin⟩)
    have hlen : ((List.range len).map L).length = len := by simp
    refine ⟨(List.range len).map L, hlen.symm, ?_, by omega, ?_⟩
    · rw [hlen]
      refine ⟨hlen, Nat.le_trans (Nat.le_trans hl hm) (by decide), fun h0 => ⟨x, rfl, fun j p hj => ?_⟩⟩
      have hlt : j < len := by
        have := (List.getElem?_eq_some_iff.1 hj).1
        omega
      have hp : L j = p := by simpa [hlt] using hj
      refine ⟨[V j], rfl, hp ▸ (hL j hlt).1, fun i u hu => ?_⟩
      have hi0 : i = 0 := by
        have := (List.getElem?_eq_some_iff.1 hu).1
        simp at this
        omega
      subst hi0
      obtain rfl : V j = u := by simpa using hu
      have h3 := (hi j (by omega)).1
      show W.cell? (x.add (j * 1 + 0)) = _
      simpa using h3
    · intro p hp
      obtain ⟨i, hi', rfl⟩ := List.mem_map.1 hp
      exact (hL i (by simpa using hi')).2
theorem u52 : ∃ f0 f1 f2 f3 f4 : Field, Try.prog.underlying 52 = some (.struct #[f0, f1, f2, f3, f4]) ∧ (f0.type = 3 ∧ f0.offset = 0) ∧ (f1.type = 3 ∧ f1.offset = 1) ∧ (f2.type = 3 ∧ f2.offset = 2) ∧ (f3.type = 29 ∧ f3.offset = 3) ∧ (f4.type = 22 ∧ f4.offset = 4) := ⟨_, _, _, _, _, Try.underlying52, ⟨rfl, rfl⟩, ⟨rfl, rfl⟩, ⟨rfl, rfl⟩, ⟨rfl, rfl⟩, ⟨rfl, rfl⟩⟩
def okAct (x : S52) : Prop := x.f4.length ≤ 140737488351232 ∧ Bytes x.f4 ∧ (-9223372036854775808 ≤ x.f0 ∧ x.f0 < 9223372036854775808) ∧ (-9223372036854775808 ≤ x.f1 ∧ x.f1 < 9223372036854775808) ∧ (-9223372036854775808 ≤ x.f2 ∧ x.f2 < 9223372036854775808) ∧ (0 ≤ x.f3 ∧ x.f3 < 4294967296)
theorem act {H : Type} {enc : TypeId × Value → H} {W : World} {base fuel : Nat} {held : Bool} {cs : List Value} {D : DataW H} {ps : List MemPlace}
    (hf : DataW.trod enc Try.prog W base (fun _ => true) held fuel 52 cs = some (D, ps)) (hw : Fit 52 D) : ∃ x : S52, k52.K W x cs ∧ okAct x ∧ cs.length = 5 := by
  obtain ⟨f0, f1, f2, f3, f4, hu, ⟨t0, o0⟩, ⟨t1, o1⟩, ⟨t2, o2⟩, ⟨t3, o3⟩, ⟨t4, o4⟩⟩ := u52
  obtain ⟨xs, n, _, hx, hl, hlen, hff⟩ := DataW.trod_struct hu hf
  match xs, hlen with
  | [y0, y1, y2, y3, y4], _ =>
  have h0 := hff 0 f0 rfl
  have h1 := hff 1 f1 rfl
  have h2 := hff 2 f2 rfl
  have h3 := hff 3 f3 rfl
  have h4 := hff 4 f4 rfl
  rw [t0, o0] at h0
  rw [t1, o1] at h1
  rw [t2, o2] at h2
  rw [t3, o3] at h3
  rw [t4, o4] at h4
  have c3 : Try.prog.cellsOf 3 = 1 := by kernel_rfl
  have c29 : Try.prog.cellsOf 29 = 1 := by kernel_rfl
  have c22 : Try.prog.cellsOf 22 = 1 := by kernel_rfl
  have c52 : Try.prog.cellsOf 52 = 5 := by kernel_rfl
  rw [c3] at h0 h1 h2
  rw [c29] at h3
  rw [c22] at h4
  rw [c52] at hl
  match cs, hl with
  | [v0, v1, v2, v3, v4], _ =>
    simp only [List.drop_zero, List.take_succ_cons, List.take_zero, List.drop_succ_cons] at h0 h1 h2 h3 h4
    obtain ⟨p0, e0, _, w0⟩ := DataW.trod_int Try.underlying3 h0
    obtain ⟨p1, e1, _, w1⟩ := DataW.trod_int Try.underlying3 h1
    obtain ⟨p2, e2, _, w2⟩ := DataW.trod_int Try.underlying3 h2
    obtain ⟨p3, e3, _, w3⟩ := DataW.trod_int Try.underlying29 h3
    obtain rfl : v0 = .int .i64 p0 := by simpa using e0
    obtain rfl : v1 = .int .i64 p1 := by simpa using e1
    obtain rfl : v2 = .int .i64 p2 := by simpa using e2
    obtain rfl : v3 = .int .u32 p3 := by simpa using e3
    have hD : D = .agg [y0.1, y1.1, y2.1, y3.1, y4.1] := congrArg Prod.fst hx
    have hf2 : Fit 22 y4.1 := by
      subst hD
      unfold Fit at hw ⊢
      simp only [DataW.weights, hu] at hw
      have : (#[f0, f1, f2, f3, f4] : Array Field).toList.map (·.type) = [3, 3, 3, 29, 22] := by simp [t0, t1, t2, t3, t4]
      rw [this] at hw
      simp only [DataW.weightsEach, List.all_append, Bool.and_eq_true] at hw
      exact hw.2.2.2.2.1
    obtain ⟨A, c, l, rfl, hc, hC, hb, hin⟩ := inner (D := y4.1) (ps := y4.2) h4 hf2
    exact ⟨⟨p0, p1, p2, p3, l⟩, k52_mk W ⟨p0, p1, p2, p3, l⟩ hc hC, ⟨hb, hin, wf_i64 w0, wf_i64 w1, wf_i64 w2, wf_u32 w3⟩, rfl⟩
theorem acts {H : Type} {enc : TypeId × Value → H} {W : World} {held : Bool} {a : Option Addr} {len cap : Nat} {d : DataW H} {ps : List MemPlace}
    (h : DataW.Trod enc Try.prog W 0 (fun _ => true) held 49 (.slice a len cap) d ps) (hw : Fit 49 d) :
    ∃ l : List S52, len = l.length ∧ Kd.C k52 W a l.length l ∧ l.length ≤ cap ∧ ∀ p ∈ l, okAct p := by
  obtain ⟨fuel, hf⟩ := h
  have c52 : Try.prog.cellsOf 52 = 5 := by kernel_rfl
  rcases Go.Deep.open_slice (t := 49) (e := 52) Try.underlying49 hf with ⟨hcs, _⟩ | ⟨x, l, c, m, n, D, Pl, hcs, _, hl, hm, hmm, hx, hi⟩
  · simp [Value.cells] at hcs
    obtain ⟨rfl, rfl, rfl⟩ := hcs
    exact ⟨[], rfl, ⟨rfl, by simp, fun h => absurd h (by simp)⟩, Nat.le_refl _, fun _ h => by cases h⟩
  · simp [Value.cells] at hcs
    obtain ⟨rfl, rfl, rfl⟩ := hcs
    have hm2 : m = cap := by simpa using hmm
    have hd : d = .slice ((List.range len).map D) ((List.range (m - len)).map fun j => D (len + j)) := congrArg Prod.fst hx
    subst hd
    have hfit := fit_slice Try.underlying49 hw
    obtain ⟨L, hL⟩ := Go.Deep.choose_lt (α := S52) (n := len) (p := fun i p => okAct p ∧ ∃ cs, cs.length = 5 ∧ k52.K W p cs ∧ ∀ (j : Nat) u, cs[j]? = some u → W.cell? (x.add (i * 5 + j)) = some u) (fun i hlt => by
      obtain ⟨cs, h1, h2⟩ := hi i (by omega)
      obtain ⟨p, hp, hok, hl5⟩ := act h2 (hfit _ (List.mem_map.2 ⟨i, by simpa using hlt, rfl⟩))
      refine ⟨p, hok, cs, hl5, hp, fun j u hu => ?_⟩
      rw [c52] at h1
      have hj : j < 5 := by
        have := (List.getElem?_eq_some_iff.1 hu).1
        omega
      have h3 := (World.cells?_some h1).2.2 j hj
      rw [← hu, ← h3, Go.Deep.add_add])
    have hlen : ((List.range len).map L).length = len := by simp
    refine ⟨(List.range len).map L, hlen.symm, ?_, by omega, ?_⟩
    · rw [hlen]
      refine ⟨hlen, Nat.le_trans (Nat.le_trans hl hm) (by decide), fun h0 => ⟨x, rfl, fun j p hj => ?_⟩⟩
      have hlt : j < len := by
        have := (List.getElem?_eq_some_iff.1 hj).1
        omega
      have hp : L j = p := by simpa [hlt] using hj
      obtain ⟨_, cs, hc3, hK, hcell⟩ := hL j hlt
      exact ⟨cs, hc3, hp ▸ hK, hcell⟩
    · intro p hp
      obtain ⟨i, hi', rfl⟩ := List.mem_map.1 hp
      exact (hL i (by simpa using hi')).1
end Go.Proofs.Ytjcpamclggbbdaa.NArgs
