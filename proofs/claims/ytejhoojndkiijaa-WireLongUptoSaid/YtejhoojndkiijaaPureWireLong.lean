/- The statement WireLong over numbers and lists: it holds of any two numbers and up to 1048576 more. -/
import Derived.Test.YtejhoojndkiijaaPAllx2
import Derived.Test.YtejhoojndkiijaaEvs
namespace Go.Proofs.Ytejhoojndkiijaa.Pure
open Go.RowKit Go.Proofs.Ytejhoojndkiijaa.PAll Go.Proofs.YtejhoojndkiijaaW.PrintWords Go.Proofs.YtejhoojndkiijaaW.PrintLast Go.Proofs.YtejhoojndkiijaaW.PrintMore Go.Proofs.Ytejhoojndkiijaa.Math
theorem take_rd {xs : List Int} {i : Nat} (h : i < xs.length) : xs.take (i + 1) = xs.take i ++ [rd xs i] := by
  rw [List.take_succ_eq_append_getElem h]
  congr 2
  simp [rd, List.getD_eq_getElem?_getD, h]
theorem forms_take_le (xs : List Int) (i : Nat) : (forms (xs.take i)).length ≤ (forms xs).length := by
  have : forms xs = forms (xs.take i) ++ forms (xs.drop i) := by rw [← forms_append, List.take_append_drop]
  rw [this, List.length_append]
  omega
theorem long_l0 {xs x : List Int} (hx : U64 xs) (hn : xs.length ≤ 1048576) (hl : x.length ≤ 9) (d : Nat) : ∀ i : Nat, i + d = xs.length →
    Ev (fun k => ropewaylaw02_WireLong.l0 k xs x (x ++ forms xs) (x ++ forms (xs.take i)) xs (xs.length : Int) (i : Int)) true := by
  have hF := forms_len hx
  induction d with
  | zero =>
    intro i hi
    refine Ev.step (fun k => ?_) (Ev.now _)
    simp only [ropewaylaw02_WireLong.l0]
    have e1 : wrap64 (9 * (xs.length : Int)) = 9 * (xs.length : Int) := w64 (by omega) (by omega)
    have e2 : wrap64 ((x.length : Int) + 9 * (xs.length : Int)) = (x.length : Int) + 9 * (xs.length : Int) := w64 (by omega) (by omega)
    rw [if_neg (by omega), List.take_of_length_le (by omega), if_pos rfl, e1, e2, decide_eq_true (by rw [List.length_append]; omega)]
  | succ d ih =>
    intro i hi
    have hlt : i < xs.length := by omega
    have hb := hx _ (rd_mem hlt)
    have e : wrap64 ((i : Int) + 1) = ((i + 1 : Nat) : Int) := by rw [w64 (by omega) (by omega)]; omega
    have h1 := ih (i + 1) (by omega)
    have e2 : x ++ forms (xs.take (i + 1)) = x ++ forms (xs.take i) ++ form (rd xs i).toNat := by
      rw [take_rd hlt, forms_append, List.append_assoc]
      simp [forms]
    rw [e2] at h1
    have ht := forms_take_le xs i
    refine Ev.step (f := fun k => (wire_Put.f k (x ++ forms (xs.take i)) [rd xs i]).bind fun t170 => ropewaylaw02_WireLong.l0 k xs x (x ++ forms xs) t170 xs (xs.length : Int) (wrap64 ((i : Int) + 1))) (fun k => ?_)
      (Ev.bind (put_one (b := x ++ forms (xs.take i)) hb.1 hb.2 (by rw [List.length_append]; omega)) (by rw [e]; exact h1))
    simp only [ropewaylaw02_WireLong.l0]
    rw [if_pos (by omega), if_pos (by omega), if_pos (by omega)]
theorem WireLong (a b : Int) (xs : List Int) (ha : 0 ≤ a ∧ a < 18446744073709551616) (hb : 0 ≤ b ∧ b < 18446744073709551616) (hx : U64 xs) (hn : xs.length ≤ 1048576) : ∃ k, ropewaylaw02_WireLong.f k a b xs = some true := by
  have h : Ev (fun k => ropewaylaw02_WireLong.f k a b xs) true := by
    unfold ropewaylaw02_WireLong.f
    have h1 : 0 ≤ mn a b ∧ mn a b < 18446744073709551616 := by unfold mn; split <;> omega
    have h2 : 0 ≤ mx a b ∧ mx a b < 18446744073709551616 := by unfold mx; split <;> omega
    have h12 : (mn a b).toNat ≤ (mx a b).toNat := by unfold mn mx; split <;> split <;> omega
    refine Ev.bind alive_ ?_
    simp only [if_true]
    refine Ev.bind (put_one (b := []) h1.1 h1.2 (by simp)) ?_
    refine Ev.bind (put_one (b := []) h2.1 h2.2 (by simp)) ?_
    simp only [List.nil_append]
    have l1 := form_len (mn a b).toNat
    have l2 := form_len (mx a b).toNat
    have l3 := len_mono h12
    have l4 := len_le8 (n := (mx a b).toNat) (by omega)
    have hF := forms_len hx
    refine Ev.congr (fun k => by rw [if_neg (by omega), if_neg (by omega), decide_eq_false (by omega)]) (Ev.step (f := fun k => (wire_Put.f k (form (mn a b).toNat) xs).bind fun t163 => (ropewaylaw02_WireLong.l0 k xs (form (mn a b).toNat) t163 (form (mn a b).toNat) xs (xs.length : Int) 0)) (fun k => by simp only [ropewaylaw02_WireLong.j0]; rw [if_neg (by simp)]) ?_)
    refine Ev.bind (put_ hx (by omega) (by omega) (by omega)) ?_
    have := long_l0 (x := form (mn a b).toNat) hx hn (by omega) xs.length 0 (by omega)
    simpa [forms] using this
  exact h.rounds
/-- The walk: a call of the Go function returns true. -/
theorem walkLong (a0 : Int) (a1 : Int) (a2 : Option Addr) (len2 cap2 : Nat) (z2 : List Int) (w : World) (w0 : (Lit.int .u64 a0).wf = true) (w1 : (Lit.int .u64 a1).wf = true) (w2 : (a2 = none ∧ len2 = 0 ∧ cap2 = 0 ∧ z2 = []) ∨ ∃ x, a2 = some x ∧ len2 ≤ cap2 ∧ cap2 ≤ maxLen ∧ z2.length = cap2 ∧ (∀ i, i < z2.length → w.cell? (x.add i) = some (.int .u64 (z2.getD i 0))) ∧ ∀ n ∈ z2, (Lit.int .u64 n).wf = true) (y2 : len2 ≤ 1048576) :
    Calls Try.prog 4 #[.int .u64 a0, .int .u64 a1, .slice a2 len2 cap2] w fun e w' => e = .returned (.bool true) ∧ Below w.heap.size w w' := by
  obtain ⟨l2, rfl, hr2, hm2, hw2, hc2⟩ := ReadsInt.ofRowC w2
  obtain ⟨k, h⟩ := WireLong a0 a1 l2 (wf_u64 w0) (wf_u64 w1) (fun x hx => wf_u64 (hw2 x hx)) y2
  refine (ropewaylaw02_WireLong.calls k a0 a1 _ _ l2 true w (Kd.C_of_reads (d := (0 : Int)) (h1 := fun _ => rfl) hr2) hc2 h).mono ?_
  rintro e w' ⟨rfl, hd⟩
  exact ⟨rfl, hd⟩
end Go.Proofs.Ytejhoojndkiijaa.Pure
