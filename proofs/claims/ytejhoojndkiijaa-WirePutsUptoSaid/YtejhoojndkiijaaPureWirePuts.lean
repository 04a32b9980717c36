/- The statement WirePuts over numbers and lists: it holds of any bytes, text and numbers, up to 1048576 of each. -/
import Derived.Test.YtejhoojndkiijaaPuts
import Derived.Test.YtejhoojndkiijaaRefs
namespace Go.Proofs.Ytejhoojndkiijaa.Pure
open Go.RowKit Go.Proofs.Ytejhoojndkiijaa.PAll Go.Proofs.YtejhoojndkiijaaW.PrintWords Go.Proofs.YtejhoojndkiijaaW.PrintLast Go.Proofs.YtejhoojndkiijaaW.PrintMore Go.Proofs.Ytejhoojndkiijaa.Math
theorem rput_l0 {xs : List Int} (hx : U64 xs) (hm : xs.length < 9223372036854775807) (d : Nat) : ∀ (i : Nat) (x5 : List Int), i + d = xs.length → x5.length + (forms (xs.drop i)).length < 140737488355328 →
    Ev (fun k => ropewayref02_Put.l0 k x5 xs (xs.length : Int) (i : Int)) (x5 ++ forms (xs.drop i)) := by
  induction d with
  | zero =>
    intro i x5 hi hl
    refine Ev.step (fun k => ?_) (Ev.now _)
    simp only [ropewayref02_Put.l0]
    rw [if_neg (by omega), List.drop_eq_nil_of_le (by omega)]
    simp [forms]
  | succ d ih =>
    intro i x5 hi hl
    have hlt : i < xs.length := by omega
    have hb := hx _ (rd_mem hlt)
    rw [rd_drop hlt, forms_cons, List.length_append] at hl
    rw [rd_drop hlt, forms_cons]
    have e : wrap64 ((i : Int) + 1) = ((i + 1 : Nat) : Int) := by rw [w64 (by omega) (by omega)]; omega
    have h1 := ih (i + 1) (x5 ++ form (rd xs i).toNat) (by omega) (by rw [List.length_append]; omega)
    rw [List.append_assoc] at h1
    have hF := rform (n := (rd xs i).toNat) (by omega)
    have en : ((rd xs i).toNat : Int) = rd xs i := by omega
    rw [en] at hF
    refine Ev.step (f := fun k => (ropewayref02_Form.f k (rd xs i)).bind fun t204 => (if x5.length + t204.length < 140737488355328 then (ropewayref02_Put.l0 k (x5 ++ t204) xs (xs.length : Int) (wrap64 ((i : Int) + 1))) else (none))) (fun k => ?_) (Ev.bind hF (Ev.congr (fun k => ?_) h1))
    · simp only [ropewayref02_Put.l0]
      rw [if_pos (by omega), if_pos (by omega), if_pos (by omega)]
    · rw [if_pos (by omega), e]
theorem rput {b xs : List Int} (hx : U64 xs) (hm : xs.length < 9223372036854775807) (hl : b.length + (forms xs).length < 140737488355328) : Ev (fun k => ropewayref02_Put.f k b xs) (b ++ forms xs) := by
  have h := rput_l0 hx hm xs.length 0 b (by omega) (by simpa using hl)
  refine Ev.congr (fun k => ?_) h
  unfold ropewayref02_Put.f
  simp only [Option.bind_some, List.nil_append]
  rw [if_pos (by simp only [List.length_nil]; omega)]
  rfl
theorem rtext {b t : List Int} (ht : t.length < 9223372036854775808) (hb : b.length ≤ 140737488000000) : Ev (fun k => ropewayref02_Text.f k b t) (textS b t) := by
  unfold textS
  by_cases h : t.length > 4000
  · rw [if_pos h]
    refine Ev.congr (fun k => ?_) (Ev.now _)
    unfold ropewayref02_Text.f
    rw [if_pos (by omega)]
  · rw [if_neg h]
    have h8 := len_le8 (n := t.length) (by omega)
    have ef : forms [(t.length : Int)] = form t.length := by simp [forms]
    have h1 := rput (b := b) (xs := [(t.length : Int)]) (fun x hx => by simp at hx; omega) (by simp) (by rw [ef, form_len]; omega)
    rw [ef] at h1
    refine Ev.congr (f := fun k => (ropewayref02_Put.f k b [(t.length : Int)]).bind fun x => if x.length + t.length < 140737488355328 then some (x ++ t, 0) else none) (fun k => ?_) (Ev.bind h1 (Ev.congr (fun k => ?_) (Ev.now _)))
    · unfold ropewayref02_Text.f
      rw [if_neg (by omega), wu64 (by omega) (by omega)]
    · rw [if_pos (by rw [List.length_append, form_len]; omega)]
theorem WirePuts (b t xs : List Int) (hb : b.length ≤ 1048576) (ht : t.length ≤ 1048576) (hn : xs.length ≤ 1048576) (hx : U64 xs) : ∃ k, ropewaylaw02_WirePuts.f k b t xs = some true := by
  have hF := forms_len hx
  have h : Ev (fun k => ropewaylaw02_WirePuts.f k b t xs) true := by
    unfold ropewaylaw02_WirePuts.f
    refine Ev.bind alive_ ?_
    simp only [if_true, Option.bind_some, List.nil_append, List.length_nil]
    have e1 : (b ++ [7]).take (b.length : Int).toNat = b := by rw [Int.toNat_natCast]; simp
    rw [e1]
    refine Ev.congr (f := fun k => (wire_Put.f k b xs).bind fun t210 => ((wire_Text.f k b t).bind fun bt219 => ((ropewayref02_Text.f k b t).bind fun bt223 => ((ropewayref02_Put.f k b xs).bind fun t230 => (if putsOk t210 t230 bt219.1 bt219.2 bt223.1 bt223.2 b t xs then some true else none))))) (fun k => ?_) ?_
    · have q : 0 + t.length < 140737488355328 := by omega
      rw [if_pos (by omega), if_pos (by omega), if_pos (by omega), if_pos (by rw [List.length_append]; omega), if_pos (by omega)]
      simp only [q, if_true]
    · refine Ev.bind (put_ hx (by omega) (by omega) (by omega)) (Ev.bind (text_ (by omega) (by omega)) (Ev.bind (rtext (by omega) (by omega)) (Ev.bind (rput hx (by omega) (by omega)) (Ev.congr (fun k => ?_) (Ev.now _)))))
      rw [if_pos ⟨rfl, rfl, rfl, hb⟩]
  exact h.rounds
/-- The walk: a call of the Go function returns true. -/
theorem walkPuts (a0 : Option Addr) (len0 cap0 : Nat) (z0 : List Int) (a1 : Option Addr) (len1 cap1 : Nat) (z1 : List Int) (a2 : Option Addr) (len2 cap2 : Nat) (z2 : List Int) (w : World)
    (w0 : (a0 = none ∧ len0 = 0 ∧ cap0 = 0 ∧ z0 = []) ∨ ∃ x, a0 = some x ∧ len0 ≤ cap0 ∧ cap0 ≤ maxLen ∧ z0.length = cap0 ∧ (∀ i, i < z0.length → w.cell? (x.add i) = some (.int .u8 (z0.getD i 0))) ∧ ∀ n ∈ z0, (Lit.int .u8 n).wf = true) (y0 : len0 ≤ 1048576)
    (w1 : (a1 = none ∧ len1 = 0 ∧ cap1 = 0 ∧ z1 = []) ∨ ∃ x, a1 = some x ∧ len1 ≤ cap1 ∧ cap1 ≤ maxLen ∧ z1.length = cap1 ∧ (∀ i, i < z1.length → w.cell? (x.add i) = some (.int .u8 (z1.getD i 0))) ∧ ∀ n ∈ z1, (Lit.int .u8 n).wf = true) (y1 : len1 ≤ 1048576)
    (w2 : (a2 = none ∧ len2 = 0 ∧ cap2 = 0 ∧ z2 = []) ∨ ∃ x, a2 = some x ∧ len2 ≤ cap2 ∧ cap2 ≤ maxLen ∧ z2.length = cap2 ∧ (∀ i, i < z2.length → w.cell? (x.add i) = some (.int .u64 (z2.getD i 0))) ∧ ∀ n ∈ z2, (Lit.int .u64 n).wf = true) (y2 : len2 ≤ 1048576) :
    Calls Try.prog 5 #[.slice a0 len0 cap0, .slice a1 len1 cap1, .slice a2 len2 cap2] w fun e w' => e = .returned (.bool true) ∧ Below w.heap.size w w' := by
  obtain ⟨l0, rfl, hr0, hm0, hw0, hc0⟩ := ReadsInt.ofRowC w0
  obtain ⟨l1, rfl, hr1, hm1, hw1, hc1⟩ := ReadsInt.ofRowC w1
  obtain ⟨l2, rfl, hr2, hm2, hw2, hc2⟩ := ReadsInt.ofRowC w2
  obtain ⟨k, h⟩ := WirePuts l0 l1 l2 y0 y1 y2 (fun x hx => wf_u64 (hw2 x hx))
  refine (ropewaylaw02_WirePuts.calls k _ _ l0 _ _ l1 _ _ l2 true w (Kd.C_of_reads (d := (0 : Int)) (h1 := fun _ => rfl) hr0) hc0 (Kd.C_of_reads (d := (0 : Int)) (h1 := fun _ => rfl) hr1) hc1 (Kd.C_of_reads (d := (0 : Int)) (h1 := fun _ => rfl) hr2) hc2 h).mono ?_
  rintro e w' ⟨rfl, hd⟩
  exact ⟨rfl, hd⟩
end Go.Proofs.Ytejhoojndkiijaa.Pure
