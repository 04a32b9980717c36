/- The statement WireGets over numbers and lists: it holds of all bytes and numbers, with no condition but the row's own. -/
import Derived.Test.YtejhoojndkiijaaRefs
namespace Go.Proofs.Ytejhoojndkiijaa.Pure
open Go.RowKit Go.Proofs.Ytejhoojndkiijaa.PAll Go.Proofs.YtejhoojndkiijaaW.PrintWords Go.Proofs.YtejhoojndkiijaaW.PrintLast Go.Proofs.Ytejhoojndkiijaa.Math
theorem gsame_l0 {xs : List Int} (hm : xs.length < 9223372036854775807) (d : Nat) : ∀ i : Nat, i + d = xs.length → Ev (fun k => ropewayref02_SameNums.l0 k xs xs (xs.length : Int) (i : Int)) true := by
  induction d with
  | zero =>
    intro i hi
    exact Ev.step (fun k => by simp only [ropewayref02_SameNums.l0]; rw [if_neg (by omega)]) (Ev.now _)
  | succ d ih =>
    intro i hi
    have e : wrap64 ((i : Int) + 1) = ((i + 1 : Nat) : Int) := by rw [w64 (by omega) (by omega)]; omega
    refine Ev.step (fun k => ?_) (ih (i + 1) (by omega))
    simp only [ropewayref02_SameNums.l0]
    rw [if_pos (by omega), if_pos (by omega), if_pos (by omega), if_pos (by omega), if_pos trivial, e]
theorem gsame_ {xs : List Int} (hm : xs.length < 9223372036854775807) : Ev (fun k => ropewayref02_SameNums.f k xs xs) true :=
  Ev.congr (fun k => by unfold ropewayref02_SameNums.f; rw [if_pos rfl]; rfl) (gsame_l0 hm xs.length 0 (by omega))
theorem getsN_len (n : Nat) : ∀ (b l r : List Int), getsN n b = some (l, r) → l.length = n := by
  induction n with
  | zero => intro b l r h; simp [getsN] at h; rw [h.1]; rfl
  | succ n ih =>
    intro b l r h
    rw [getsN] at h
    split at h
    · cases hg : getsN n (getS b).2.1 with
      | none => rw [hg] at h; cases h
      | some x =>
        rw [hg] at h
        simp only [Option.map_some, Option.some.injEq, Prod.mk.injEq] at h
        rw [← h.1, List.length_cons, ih _ x.1 x.2 hg]
    · cases h
theorem getsS_len (b : List Int) (m : Int) : (getsS b m).1.length ≤ 100 := by
  rw [getsS_eq]
  split
  · simp
  · cases h : getsN m.toNat b with
    | none => simp [behind]
    | some x =>
      have := getsN_len _ b x.1 x.2 h
      simp only [behind, List.nil_append]
      omega
theorem gets_j1 {b : List Int} (hb : Bytes b) (hs : b.length < 140737488355328) : Ev (fun k => ropewaylaw02_WireGets.j1 k b false) true := by
  refine Ev.step (f := fun k => (wire_Cut.f k b).bind fun bt469 => ((ropewayref02_Cut.f k b).bind fun bt476 => (if (strOfNums bt469.1).toList = (strOfNums bt476.1).toList then (if (strOfNums bt469.2.1).toList = (strOfNums bt476.2.1).toList then (some (bt469.2.2 == bt476.2.2)) else (some false)) else (some false)))) (fun k => ?_) (Ev.bind (cut_ hb hs) (Ev.bind (rcut hb hs) (Ev.congr (fun k => ?_) (Ev.now _))))
  · simp only [ropewaylaw02_WireGets.j1, Option.bind_some, List.nil_append]
    rw [if_neg (by simp), if_pos (by simp only [List.length_nil]; omega)]
  · rw [if_pos rfl, if_pos rfl]
    simp
theorem gets_j0 {b : List Int} {m : Int} (hb : Bytes b) (hs : b.length < 140737488355328) : Ev (fun k => ropewaylaw02_WireGets.j0 k b m false) true := by
  refine Ev.step (f := fun k => (wire_Gets.f k b m).bind fun bt448 => ((ropewayref02_Gets.f k b m).bind fun bt455 => ((ropewayref02_SameNums.f k bt448.1 bt455.1).bind fun t462 => (if t462 = true then (if (strOfNums bt448.2.1).toList = (strOfNums bt455.2.1).toList then (ropewaylaw02_WireGets.j1 k b (bt448.2.2 != bt455.2.2)) else (ropewaylaw02_WireGets.j1 k b true)) else (ropewaylaw02_WireGets.j1 k b true))))) (fun k => ?_) (Ev.bind (gets_ hb hs) (Ev.bind (rgets hb hs) (Ev.bind (gsame_ (by have := getsS_len b m; omega)) (Ev.congr (fun k => ?_) (gets_j1 hb hs)))))
  · simp only [ropewaylaw02_WireGets.j0, Option.bind_some, List.nil_append]
    rw [if_neg (by simp), if_pos (by simp only [List.length_nil]; omega)]
  · rw [if_pos rfl, if_pos rfl]
    simp
theorem WireGets : ropewaylaw02_WireGets.Pure := by
  intro b m _ hs hb0 _
  have hb : Bytes b := fun x hx => wf_u8 (hb0 x hx)
  have hs : b.length < 140737488355328 := by omega
  have h : Ev (fun k => ropewaylaw02_WireGets.f k b m) true := by
    unfold ropewaylaw02_WireGets.f
    refine Ev.bind alive_ ?_
    simp only [if_true, Option.bind_some, List.nil_append]
    refine Ev.congr (f := fun k => (wire_Get.f k b).bind fun bt432 => ((ropewayref02_Get.f k b).bind fun bt437 => (if bt432.1 = bt437.1 then (if (strOfNums bt432.2.1).toList = (strOfNums bt437.2.1).toList then (ropewaylaw02_WireGets.j0 k b m (bt432.2.2 != bt437.2.2)) else (ropewaylaw02_WireGets.j0 k b m true)) else (ropewaylaw02_WireGets.j0 k b m true)))) (fun k => by rw [if_pos (by simp only [List.length_nil]; omega)]) ?_
    refine Ev.bind (get_ hb hs) (Ev.bind (rget hb hs) (Ev.congr (fun k => ?_) (gets_j0 (m := m) hb hs)))
    rw [if_pos rfl, if_pos rfl]
    simp
  exact h.rounds
end Go.Proofs.Ytejhoojndkiijaa.Pure
