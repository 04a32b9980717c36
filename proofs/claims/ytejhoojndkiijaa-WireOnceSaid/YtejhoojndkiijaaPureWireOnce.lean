/- The statement WireOnce over numbers and lists: it holds of all bytes, with no condition but the row's own. -/
import Derived.Test.YtejhoojndkiijaaPAllx4
import Derived.Test.YtejhoojndkiijaaEvs
namespace Go.Proofs.Ytejhoojndkiijaa.Pure
open Go.RowKit Go.Proofs.Ytejhoojndkiijaa.PAll Go.Proofs.YtejhoojndkiijaaW.PrintWords Go.Proofs.YtejhoojndkiijaaW.PrintLast Go.Proofs.Ytejhoojndkiijaa.Math
theorem once_j0 {b : List Int} (hb : Bytes b) (hs : b.length ≤ 140737488351232) : Ev (fun k => ropewaylaw02_WireOnce.j0 k b false) true := by
  refine Ev.step (f := fun k => (wire_Cut.f k b).bind fun bt307 => (if bt307.2.2 = 0 then ((wire_Text.f k ([] : List Int) bt307.1).bind fun bt314 => (if bt314.2 = 0 then (if (strOfNums bt314.1).size + (strOfNums bt307.2.1).size ≤ 9223372036854775807 then (some (((strOfNums bt314.1) ++ (strOfNums bt307.2.1)).toList == (strOfNums b).toList)) else (none)) else (some false))) else (some ((wrap64 ((bt307.1.length : Int) + (bt307.2.1.length : Int))) == 0)))) (fun k => ?_) (Ev.bind (cut_ hb (by omega)) ?_)
  · simp only [ropewaylaw02_WireOnce.j0, Option.bind_some, List.nil_append]
    rw [if_neg (by simp), if_pos (by simp; omega)]
  · unfold cutS
    have hf := getS_facts b
    by_cases h : (getS b).2.2 = 0 ∧ (getS b).1 ≤ 4000 ∧ (getS b).1 ≤ (getS b).2.1.length
    · rw [if_pos h]
      obtain ⟨m, hm, _, hbe⟩ := getS_some (b := b) (n := (getS b).1) (r := (getS b).2.1) hb (by rw [← h.1])
      have hl : ((getS b).2.1.take (getS b).1.toNat).length = m := by rw [List.length_take]; omega
      simp only [if_true]
      refine Ev.bind (text_ (b := []) (t := (getS b).2.1.take (getS b).1.toNat) (by omega) (by simp)) ?_
      have ht : textS [] ((getS b).2.1.take (getS b).1.toNat) = ([] ++ form m ++ (getS b).2.1.take (getS b).1.toNat, 0) := by
        unfold textS
        rw [if_neg (by omega), hl]
      rw [ht]
      refine Ev.congr (fun k => ?_) (Ev.now _)
      have e : [] ++ form m ++ (getS b).2.1.take (getS b).1.toNat ++ (getS b).2.1.drop (getS b).1.toNat = b := by
        rw [List.nil_append, List.append_assoc, List.take_append_drop]
        exact hbe.symm
      rw [if_pos rfl, if_pos, str_app, e]
      · simp
      · simp only [str_size]
        have := congrArg List.length e
        rw [List.length_append] at this
        omega
    · rw [if_neg h]
      exact Ev.congr (fun k => by rw [if_neg (by decide)]; simp [wrap64]) (Ev.now _)
theorem WireOnce : ropewaylaw02_WireOnce.Pure := by
  intro b _ hs hb0
  have hb : Bytes b := fun x hx => wf_u8 (hb0 x hx)
  have h : Ev (fun k => ropewaylaw02_WireOnce.f k b) true := by
    unfold ropewaylaw02_WireOnce.f
    refine Ev.bind alive_ ?_
    simp only [if_true, Option.bind_some, List.nil_append]
    refine Ev.congr (f := fun k => (wire_Get.f k b).bind fun bt290 => (if bt290.2.2 = 0 then ((wire_Put.f k ([] : List Int) (([bt290.1] : List Int))).bind fun t298 => (if (strOfNums t298).size + (strOfNums bt290.2.1).size ≤ 9223372036854775807 then (ropewaylaw02_WireOnce.j0 k b (((strOfNums t298) ++ (strOfNums bt290.2.1)).toList != (strOfNums b).toList)) else (none))) else (ropewaylaw02_WireOnce.j0 k b false))) (fun k => by rw [if_pos (by simp; omega)]) ?_
    refine Ev.bind (get_ hb (by omega)) ?_
    rcases getS_cases b with h | h
    · obtain ⟨m, hm, hm8, hbe⟩ := getS_some (b := b) (n := (getS b).1) (r := (getS b).2.1) hb (by rw [← h])
      simp only [h, if_true]
      refine Ev.bind (put_one (b := []) (n := (getS b).1) (by omega) (by omega) (by simp)) ?_
      have e : [] ++ form (getS b).1.toNat ++ (getS b).2.1 = b := by
        rw [List.nil_append, hm, Int.toNat_natCast]
        exact hbe.symm
      refine Ev.congr (fun k => ?_) (once_j0 hb (by omega))
      rw [if_pos, str_app, e]
      · simp
      · rw [str_size, str_size]
        have := congrArg List.length e
        rw [List.length_append] at this
        omega
    · rw [h]
      exact Ev.congr (fun k => by rw [if_neg (by decide)]) (once_j0 hb (by omega))
  exact h.rounds
end Go.Proofs.Ytejhoojndkiijaa.Pure
