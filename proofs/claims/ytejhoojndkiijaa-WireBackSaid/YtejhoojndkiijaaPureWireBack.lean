/- The statement WireBack over numbers and lists: it holds of all numbers, texts and bytes behind them, with no condition but the row's own. -/
import Derived.Test.YtejhoojndkiijaaPAllx7
import Derived.Test.YtejhoojndkiijaaEvs
namespace Go.Proofs.Ytejhoojndkiijaa.Pure
open Go.RowKit Go.Proofs.Ytejhoojndkiijaa.PAll Go.Proofs.YtejhoojndkiijaaW.PrintWords Go.Proofs.YtejhoojndkiijaaW.PrintLast Go.Proofs.Ytejhoojndkiijaa.Math
theorem getsN_forms {xs : List Int} (h : U64 xs) (r : List Int) : getsN xs.length (forms xs ++ r) = some (xs, r) := by
  induction xs with
  | nil => rfl
  | cons x xs ih =>
    have hx := h x (by simp)
    rw [forms_cons, List.append_assoc]
    have hg := getS_form x.toNat (forms xs ++ r) (by omega)
    rw [List.length_cons, getsN, hg]
    simp only [if_true]
    rw [ih (fun y hy => h y (List.mem_cons_of_mem _ hy))]
    simp only [Option.map_some]
    congr 2
    congr 1
    omega
theorem same_l0 {xs : List Int} (hm : xs.length < 9223372036854775807) (d : Nat) : ∀ i : Nat, i + d = xs.length → Ev (fun k => ropewayref02_SameNums.l0 k xs xs (xs.length : Int) (i : Int)) true := by
  induction d with
  | zero =>
    intro i hi
    exact Ev.step (fun k => by simp only [ropewayref02_SameNums.l0]; rw [if_neg (by omega)]) (Ev.now _)
  | succ d ih =>
    intro i hi
    have e : wrap64 ((i : Int) + 1) = ((i + 1 : Nat) : Int) := by rw [w64 (by omega) (by omega)]; omega
    refine Ev.step (fun k => ?_) (ih (i + 1) (by omega))
    simp only [ropewayref02_SameNums.l0]
    rw [if_pos (by omega), if_pos (by omega), if_pos (by omega), if_pos (by omega), if_pos trivial, e]
theorem same_ {xs : List Int} (hm : xs.length < 9223372036854775807) : Ev (fun k => ropewayref02_SameNums.f k xs xs) true :=
  Ev.congr (fun k => by unfold ropewayref02_SameNums.f; rw [if_pos rfl]; rfl) (same_l0 hm xs.length 0 (by omega))
theorem back_j1 {t more : List Int} (ht : Bytes t) (hm : Bytes more) (hl : t.length ≤ 140737488351232) (hml : more.length ≤ 5000) : Ev (fun k => ropewaylaw02_WireBack.j1 k t more false) true := by
  refine Ev.step (f := fun k => (wire_Text.f k ([] : List Int) t).bind fun bt480 => (if bt480.2 = 0 then (if bt480.1.length + more.length < 140737488355328 then ((wire_Cut.f k (bt480.1 ++ more)).bind fun bt487 => (if bt487.2.2 = 0 then (if (strOfNums bt487.1).toList = (strOfNums t).toList then (some ((strOfNums bt487.2.1).toList == (strOfNums more).toList)) else (some false)) else (some false))) else (none)) else (some (decide ((t.length : Int) > 4000))))) (fun k => by simp only [ropewaylaw02_WireBack.j1]; rw [if_neg (by simp)]) ?_
  refine Ev.bind (text_ (b := []) (t := t) (by omega) (by simp)) ?_
  unfold textS
  by_cases h4 : t.length > 4000
  · rw [if_pos h4]
    exact Ev.congr (fun k => by rw [if_neg (by decide), decide_eq_true (by omega)]) (Ev.now _)
  · rw [if_neg h4]
    simp only [List.nil_append, if_true]
    have h8 := len_le8 (n := t.length) (by omega)
    have hlen : (form t.length ++ t).length = (digits t.length).length + 1 + t.length := by rw [List.length_append, form_len]
    have hC := cut_ (b := form t.length ++ t ++ more) (((form_bytes (by omega)).app ht).app hm) (by rw [List.length_append]; omega)
    have e : cutS (form t.length ++ t ++ more) = (t, more, 0) := by
      have hg : getS (form t.length ++ t ++ more) = ((t.length : Int), t ++ more, 0) := by
        rw [List.append_assoc]
        exact getS_form t.length (t ++ more) (by omega)
      unfold cutS
      rw [hg, if_pos ⟨rfl, by simp only; omega, by simp only [List.length_append]; omega⟩]
      simp
    rw [e] at hC
    refine Ev.congr (f := fun k => (wire_Cut.f k (form t.length ++ t ++ more)).bind fun bt487 => (if bt487.2.2 = 0 then (if (strOfNums bt487.1).toList = (strOfNums t).toList then (some ((strOfNums bt487.2.1).toList == (strOfNums more).toList)) else (some false)) else (some false))) (fun k => ?_) (Ev.bind hC (Ev.congr (fun k => ?_) (Ev.now true)))
    · rw [if_pos (by omega)]
    · rw [if_pos rfl, if_pos rfl]
      simp
theorem WireBack : ropewaylaw02_WireBack.Pure := by
  intro xs t more _ hxl hx0 _ htl ht0 _ hml hm0
  have hx : U64 xs := fun x h => wf_u64 (hx0 x h)
  have ht : Bytes t := fun x h => wf_u8 (ht0 x h)
  have hm : Bytes more := fun x h => wf_u8 (hm0 x h)
  have hT : Ev (fun k => ropewaylaw02_WireBack.j0 k xs t more true) true := Ev.step (fun k => by simp only [ropewaylaw02_WireBack.j0]; exact if_pos trivial) (Ev.now _)
  have h : Ev (fun k => ropewaylaw02_WireBack.f k xs t more) true := by
    unfold ropewaylaw02_WireBack.f
    refine Ev.bind alive_ ?_
    simp only [if_true]
    by_cases h1 : (xs.length : Int) > 100
    · exact Ev.congr (fun k => by rw [if_pos h1]) hT
    · by_cases h2 : (more.length : Int) > 5000
      · exact Ev.congr (fun k => by rw [if_neg h1, decide_eq_true h2]) hT
      · have hF := forms_len hx
        have hP := put_ (b := []) hx (by omega) (by simp) (by simp only [List.length_nil]; omega)
        rw [List.nil_append] at hP
        have hG := gets_ (b := forms xs ++ more) (many := (xs.length : Int)) ((forms_bytes hx).app hm) (by rw [List.length_append]; omega)
        have eG : getsS (forms xs ++ more) (xs.length : Int) = (xs, more, 0) := by
          rw [getsS_eq, if_neg (by omega), Int.toNat_natCast, getsN_forms hx]
          simp [behind]
        rw [eG] at hG
        refine Ev.congr (fun k => by rw [if_neg h1, decide_eq_false h2]) (Ev.step (f := fun k => (wire_Put.f k ([] : List Int) xs).bind fun t466 => (if t466.length + more.length < 140737488355328 then ((wire_Gets.f k (t466 ++ more) (xs.length : Int)).bind fun bt472 => (if bt472.2.2 = 0 then ((ropewayref02_SameNums.f k bt472.1 xs).bind fun t479 => (if t479 = true then (ropewaylaw02_WireBack.j1 k t more ((strOfNums bt472.2.1).toList != (strOfNums more).toList)) else (ropewaylaw02_WireBack.j1 k t more true))) else (ropewaylaw02_WireBack.j1 k t more true))) else (none))) (fun k => by simp only [ropewaylaw02_WireBack.j0]; rw [if_neg (by simp)]) ?_)
        refine Ev.bind hP ?_
        refine Ev.congr (f := fun k => (wire_Gets.f k (forms xs ++ more) (xs.length : Int)).bind fun bt472 => (if bt472.2.2 = 0 then ((ropewayref02_SameNums.f k bt472.1 xs).bind fun t479 => (if t479 = true then (ropewaylaw02_WireBack.j1 k t more ((strOfNums bt472.2.1).toList != (strOfNums more).toList)) else (ropewaylaw02_WireBack.j1 k t more true))) else (ropewaylaw02_WireBack.j1 k t more true))) (fun k => by rw [if_pos (by omega)]) ?_
        refine Ev.bind hG ?_
        simp only [if_true]
        refine Ev.bind (same_ (xs := xs) (by omega)) (Ev.congr (fun k => ?_) (back_j1 ht hm (by omega) (by omega)))
        rw [if_pos rfl]
        simp
  exact h.rounds
end Go.Proofs.Ytejhoojndkiijaa.Pure
