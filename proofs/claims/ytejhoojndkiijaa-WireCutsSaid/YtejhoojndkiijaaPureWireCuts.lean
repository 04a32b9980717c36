/- The statement WireCuts over numbers and lists: it holds of every number, text and place, with no condition but the row's own. -/
import Derived.Test.YtejhoojndkiijaaPAllx5
import Derived.Test.YtejhoojndkiijaaEvs
namespace Go.Proofs.Ytejhoojndkiijaa.Pure
open Go.RowKit Go.Proofs.Ytejhoojndkiijaa.PAll Go.Proofs.YtejhoojndkiijaaW.PrintWords Go.Proofs.YtejhoojndkiijaaW.PrintLast Go.Proofs.Ytejhoojndkiijaa.Math
theorem form_cut {n c : Nat} (hn : n < 18446744073709551616) (hc : c < (form n).length) : getS ((form n).take c) = (0, [], 21) := by
  rcases getS_cases ((form n).take c) with h | h
  · exfalso
    obtain ⟨m, _, _, he⟩ := getS_some (b := (form n).take c) (n := (getS ((form n).take c)).1) (r := (getS ((form n).take c)).2.1) ((form_bytes hn).take c) (by rw [← h])
    revert he
    generalize (getS ((form n).take c)).2.1 = r
    intro he
    have h1 : form m ++ (r ++ (form n).drop c) = form n ++ [] := by
      rw [← List.append_assoc, ← he, List.take_append_drop, List.append_nil]
    have h2 := (form_pre h1).2
    have h3 := congrArg List.length h2
    rw [List.length_append, List.length_drop] at h3
    simp at h3
    omega
  · exact h
theorem cut_cut {t : List Int} {c : Nat} (hb : Bytes t) (ht : t.length ≤ 4000) (hc : c < (form t.length ++ t).length) : cutS ((form t.length ++ t).take c) = ([], [], 21) := by
  have hB : Bytes (form t.length ++ t) := (form_bytes (by omega)).app hb
  unfold cutS
  refine if_neg ?_
  rintro ⟨h, _, h2⟩
  obtain ⟨m, hm, _, he⟩ := getS_some (b := (form t.length ++ t).take c) (n := (getS ((form t.length ++ t).take c)).1) (r := (getS ((form t.length ++ t).take c)).2.1) (hB.take c) (by rw [← h])
  revert he hm h2
  generalize (getS ((form t.length ++ t).take c)).2.1 = r
  generalize (getS ((form t.length ++ t).take c)).1 = n
  intro h2 hm he
  have h1 : form m ++ (r ++ (form t.length ++ t).drop c) = form t.length ++ t := by
    rw [← List.append_assoc, ← he, List.take_append_drop]
  have h3 := form_pre h1
  have h4 := form_inj h3.1
  have h5 := congrArg List.length h3.2
  rw [List.length_append, List.length_drop] at h5
  omega
theorem cuts_j1 {t : List Int} {c : Int} (hb : Bytes t) (ht : t.length ≤ 140737488351232) : Ev (fun k => ropewaylaw02_WireCuts.j1 k t c) true := by
  refine Ev.step (f := fun k => (wire_Text.f k ([] : List Int) t).bind fun bt340 => (if bt340.2 = 0 then (if c < 0 then (some true) else (if c ≥ (bt340.1.length : Int) then (some true) else ((some (([] : List Int) : List Int)).bind fun y344 => (if 0 ≤ c then (if c ≤ (bt340.1.length : Int) then ((some (bt340.1.take (c : Int).toNat : List Int)).bind fun y347 => (if y344.length + y347.length < 140737488355328 then ((wire_Cut.f k (y344 ++ y347)).bind fun bt354 => (if bt354.2.2 = 21 then (some ((wrap64 ((bt354.1.length : Int) + (bt354.2.1.length : Int))) == 0)) else (some false))) else (none))) else (none)) else (none))))) else (some true))) (fun k => by simp only [ropewaylaw02_WireCuts.j1]) ?_
  refine Ev.bind (text_ (b := []) (t := t) (by omega) (by simp)) ?_
  unfold textS
  by_cases h4 : t.length > 4000
  · rw [if_pos h4]
    exact Ev.congr (fun k => by rw [if_neg (by decide)]) (Ev.now _)
  · rw [if_neg h4]
    simp only [List.nil_append, Option.bind_some, if_true]
    by_cases h0 : c < 0
    · exact Ev.congr (fun k => by rw [if_pos h0]) (Ev.now _)
    · by_cases h1 : c ≥ ((form t.length ++ t).length : Int)
      · exact Ev.congr (fun k => by rw [if_neg h0, if_pos h1]) (Ev.now _)
      · have hB : Bytes (form t.length ++ t) := (form_bytes (by omega)).app hb
        have h8 := len_le8 (n := t.length) (by omega)
        have hlen : (form t.length ++ t).length = (digits t.length).length + 1 + t.length := by rw [List.length_append, form_len]
        have hC := cut_ (b := (form t.length ++ t).take c.toNat) (hB.take _) (by rw [List.length_take]; omega)
        rw [cut_cut hb (by omega) (by omega)] at hC
        refine Ev.congr (f := fun k => (wire_Cut.f k ((form t.length ++ t).take c.toNat)).bind fun bt354 => (if bt354.2.2 = 21 then (some ((wrap64 ((bt354.1.length : Int) + (bt354.2.1.length : Int))) == 0)) else (some false))) (fun k => ?_) (Ev.bind hC (Ev.congr (fun k => ?_) (Ev.now true)))
        · rw [if_neg h0, if_neg h1, if_pos (by omega), if_pos (by omega), if_pos (by rw [List.length_take]; simp only [List.length_nil]; omega)]
        · rw [if_pos rfl]
          simp [wrap64]
theorem WireCuts : ropewaylaw02_WireCuts.Pure := by
  intro n t c hn0 _ ht hb0 _
  have hb : Bytes t := fun x hx => wf_u8 (hb0 x hx)
  have hn := wf_u64 hn0
  have hj1 := cuts_j1 (c := c) hb (by omega)
  have h8 := len_le8 (n := n.toNat) (by omega)
  have hj0 : ∀ x, Ev (fun k => ropewaylaw02_WireCuts.j0 k t c x false) true := fun x => Ev.step (fun k => by simp only [ropewaylaw02_WireCuts.j0]; rw [if_neg (by simp)]) hj1
  have h : Ev (fun k => ropewaylaw02_WireCuts.f k n t c) true := by
    unfold ropewaylaw02_WireCuts.f
    refine Ev.bind alive_ ?_
    simp only [if_true]
    refine Ev.bind (put_one (b := []) hn.1 hn.2 (by simp)) ?_
    simp only [List.nil_append]
    by_cases hc : c ≥ 0
    · by_cases hl : c < ((form n.toNat).length : Int)
      · have hlen := form_len n.toNat
        have hG := get_ (b := (form n.toNat).take c.toNat) ((form_bytes (by omega)).take _) (by rw [List.length_take]; omega)
        rw [form_cut (by omega) (by omega)] at hG
        refine Ev.congr (fun k => by rw [if_pos hc, decide_eq_true hl]) (Ev.step (f := fun k => (wire_Get.f k ((form n.toNat).take c.toNat)).bind fun bt335 => (if bt335.2.2 = 21 then (if bt335.1 = 0 then (if (bt335.2.1.length : Int) > 0 then (some false) else (ropewaylaw02_WireCuts.j1 k t c)) else (some false)) else (some false))) (fun k => ?_) (Ev.bind hG ?_))
        · simp only [ropewaylaw02_WireCuts.j0, Option.bind_some, List.nil_append]
          rw [if_pos trivial, if_pos (by omega), if_pos (by omega), if_pos (by rw [List.length_take]; simp only [List.length_nil]; omega)]
        · exact Ev.congr (fun k => by rw [if_pos rfl, if_pos rfl, if_neg (by decide)]) hj1
      · exact Ev.congr (fun k => by rw [if_pos hc, decide_eq_false hl]) (hj0 _)
    · exact Ev.congr (fun k => by rw [if_neg hc]) (hj0 _)
  exact h.rounds
end Go.Proofs.Ytejhoojndkiijaa.Pure
