/- What the printed functions of wire's reference answer, in plain words (from some number of rounds on). -/
import Derived.Test.YtejhoojndkiijaaGets
import Derived.Test.YtejhoojndkiijaaEvs
namespace Go.Proofs.Ytejhoojndkiijaa.Math
open Go.RowKit Go.Proofs.Ytejhoojndkiijaa.PAll Go.Proofs.YtejhoojndkiijaaW.PrintWords Go.Proofs.YtejhoojndkiijaaW.PrintMore
theorem rform_l0 (n : Nat) : ∀ acc : List Int, n < 18446744073709551616 → acc.length + (digits n).length ≤ 8 → Ev (fun k => ropewayref02_Form.l0 k (n : Int) acc) ((((digits n).length + acc.length : Nat) : Int) :: (digits n ++ acc)) := by
  induction n using Nat.strongRecOn with
  | ind n ih =>
    intro acc hn ha
    by_cases h : n = 0
    · subst h
      rw [digits_zero] at ha ⊢
      refine Ev.step (fun k => ?_) (Ev.now _)
      simp only [ropewayref02_Form.l0]
      rw [if_neg (by omega)]
      simp only [Option.bind_some, List.length_singleton, List.length_nil]
      rw [if_pos (by omega)]
      simp only [List.nil_append, List.cons_append, List.nil_append]
      congr 2
      omega
    · rw [digits_pos h] at ha ⊢
      rw [List.length_append, List.length_singleton] at ha
      have h1 := ih (n / 256) (by omega) ([((n % 256 : Nat) : Int)] ++ acc) (by omega) (by rw [List.length_append, List.length_singleton]; omega)
      have e : (((digits (n / 256)).length + ([((n % 256 : Nat) : Int)] ++ acc).length : Nat) : Int) = (((digits (n / 256) ++ [((n % 256 : Nat) : Int)]).length + acc.length : Nat) : Int) := by
        simp only [List.length_append, List.length_singleton]
        omega
      rw [e, ← List.append_assoc] at h1
      refine Ev.step (fun k => ?_) h1
      simp only [ropewayref02_Form.l0]
      rw [if_pos (by omega)]
      simp only [Option.bind_some, List.length_singleton]
      rw [if_pos (by omega), Int.tdiv_eq_ediv_of_nonneg (by omega), Int.tmod_eq_emod_of_nonneg (by omega), wu64 (by omega) (by omega)]
      have e1 : (n : Int) / 256 = ((n / 256 : Nat) : Int) := by omega
      have e2 : (n : Int) % 256 % 256 = ((n % 256 : Nat) : Int) := by omega
      rw [e1, e2]
theorem rform {n : Nat} (h : n < 18446744073709551616) : Ev (fun k => ropewayref02_Form.f k (n : Int)) (form n) := by
  have h1 := rform_l0 n [] h (by have := len_le8 h; simp; omega)
  rw [List.append_nil] at h1
  exact h1
theorem form_take {c : Int} {r : List Int} (hb : Bytes (c :: r)) (hl : c.toNat ≤ r.length) : (form (val (r.take c.toNat)) = (c :: r).take (form (val (r.take c.toNat))).length) ↔ ((digits (val (r.take c.toNat))).length : Int) = c := by
  have hc := hb c (by simp)
  have hlen : (r.take c.toNat).length = c.toNat := by rw [List.length_take]; omega
  rw [form_len]
  constructor
  · intro h
    have := congrArg List.head? h
    simp [form] at this
    exact this
  · intro h
    have hd := digits_val (hb.tail.take c.toNat) (by omega)
    have e : (digits (val (r.take c.toNat))).length = c.toNat := by omega
    show (((digits (val (r.take c.toNat))).length : Nat) : Int) :: digits (val (r.take c.toNat)) = c :: r.take (digits (val (r.take c.toNat))).length
    rw [e, hd]
    congr 1
    omega
theorem add_step {a x : Int} (h0 : 0 ≤ a) (h1 : a < 72057594037927936) (hx : 0 ≤ x ∧ x < 256) : IntKind.u64.wrap (IntKind.u64.wrap (a * 256) + IntKind.u64.wrap x) = a * 256 + x := by
  rw [wu64 (x := a * 256) (by omega) (by omega), wu64 (x := x) (by omega) (by omega), wu64 (by omega) (by omega)]
theorem rd_cons_take {c : Int} {r : List Int} {m i : Nat} (h : i < m) : rd (c :: r) ((i : Int) + 1) = rd (r.take m) i := by
  have h1 : ((i : Int) + 1).toNat = i + 1 := by omega
  unfold rd
  rw [h1, Int.toNat_natCast]
  simp only [List.getD_eq_getElem?_getD, List.getElem?_cons_succ]
  rw [List.getElem?_take, if_pos h]
theorem rget_l0 {c : Int} {r : List Int} (hb : Bytes (c :: r)) (h8 : c ≤ 8) (hl : c ≤ r.length) (hs : r.length < 140737488355328) (d : Nat) : ∀ i : Nat, i + d = c.toNat →
    Ev (fun k => ropewayref02_Get.l0 k (c :: r) (val ((r.take c.toNat).take i) : Nat) ((i : Int) + 1)) (getS (c :: r)) := by
  have hc := hb c (by simp)
  have hlen : (r.take c.toNat).length = c.toNat := by rw [List.length_take]; omega
  have hL : Bytes (r.take c.toNat) := hb.tail.take _
  have hft0 := form_take hb (by omega)
  obtain ⟨L, hLe0⟩ : ∃ L, r.take c.toNat = L := ⟨_, rfl⟩
  rw [hLe0] at hlen hL hft0 ⊢
  have HLe := Aside0.mk hLe0
  have Hft := Aside0.mk hft0
  clear hLe0 hft0
  have E1 : Aside0 (wrap64 (rd (c :: r) 0) = c) := ⟨w64 (x := c) (by omega) (by omega)⟩
  have hpos : Aside0 ((0 : Int) < ((c :: r).length : Int)) := ⟨by simp only [List.length_cons]; omega⟩
  induction d with
  | zero =>
    intro i hi
    have e : L.take i = L := List.take_of_length_le (by omega)
    have hv8 : val L < 18446744073709551616 := lt_of_len8 (Nat.le_trans (digits_val_le hL) (by omega))
    have hd := digits_val_le hL
    rw [e]
    have hfl := form_len (val L)
    refine Ev.step (f := fun k => (ropewayref02_Form.f k (val L : Nat)).bind fun t365 => (if 0 ≤ (t365.length : Int) then (if (t365.length : Int) ≤ ((c :: r).length : Int) then (if (strOfNums t365).toList = (strOfNums ((c :: r).take ((t365.length : Int) : Int).toNat)).toList then ((some (([] : List Int) : List Int)).bind fun y369 => (if y369.length + ((c :: r).drop ((t365.length : Int) : Int).toNat).length < 140737488355328 then (some (((val L : Nat) : Int), (y369 ++ ((c :: r).drop ((t365.length : Int) : Int).toNat)), (0 : Int))) else (none))) else (some (0, ([] : List Int), 21))) else (none)) else (none))) (fun k => ?_) (Ev.bind (rform hv8) (Ev.congr (fun k => ?_) (Ev.now _)))
    · simp only [ropewayref02_Get.l0]
      rw [if_pos hpos.out, E1.out, if_neg (by omega)]
    · rw [if_pos (by omega), if_pos (by simp only [List.length_cons]; omega), Int.toNat_natCast]
      have hft := Hft.out
      by_cases h : ((digits (val L)).length : Int) = c
      · have hp := hft.2 h
        rw [if_pos (by rw [← hp])]
        simp only [Option.bind_some, List.nil_append, List.length_nil]
        rw [if_pos (by rw [List.length_drop, List.length_cons]; omega), getS, HLe.out, if_pos ⟨by omega, by omega, by omega⟩, hfl]
        simp only [List.drop_succ_cons]
        congr 3
        congr 1
        omega
      · rw [if_neg (fun hh => h (hft.1 (str_inj (form_bytes hv8) (hb.take _) hh))), getS, HLe.out, if_neg (fun hh => h (by omega))]
  | succ d ih =>
    intro i hi
    have hlt : i < L.length := by omega
    have hv := val_take_lt hL (i := i) (by omega)
    have hx := hL _ (rd_mem hlt)
    have q1 : (i : Int) + 1 ≤ c := by omega
    have q2 : (0 : Int) ≤ (i : Int) + 1 := by omega
    have q3 : (i : Int) + 1 < ((c :: r).length : Int) := by simp only [List.length_cons]; omega
    have q4 : (0 : Int) ≤ (val (L.take i) : Nat) := by omega
    have q5 : ((val (L.take i) : Nat) : Int) < 72057594037927936 := by omega
    have q6 : ((val (L.take i) : Nat) : Int) * 256 + rd L i = ((val (L.take i) * 256 + (rd L i).toNat : Nat) : Int) := by omega
    have e : wrap64 ((i : Int) + 1 + 1) = ((i + 1 : Nat) : Int) + 1 := by rw [w64 (by omega) (by omega)]; omega
    have q7 : i + 1 + d = c.toNat := by omega
    have hrd : rd (c :: r) ((i : Int) + 1) = rd L i := by rw [← HLe.out]; exact rd_cons_take (by clear hlt; omega)
    refine Ev.step (fun k => ?_) (ih (i + 1) q7)
    simp only [ropewayref02_Get.l0]
    rw [if_pos hpos.out, E1.out, if_pos q1, if_pos q2, if_pos q3, hrd, e, val_take hlt, add_step q4 q5 hx, q6]
theorem rget {b : List Int} (hb : Bytes b) (hs : b.length < 140737488355328) : Ev (fun k => ropewayref02_Get.f k b) (getS b) := by
  have bad : ∀ x, Ev (fun k => ropewayref02_Get.j0 k x true) (0, [], 21) := fun x => Ev.step (fun k => by simp only [ropewayref02_Get.j0]; exact if_pos trivial) (Ev.now _)
  cases b with
  | nil => exact Ev.congr (fun k => by unfold ropewayref02_Get.f; exact if_pos (by simp)) (bad [])
  | cons c r =>
    have hc := hb c (by simp)
    have hlen : ((c :: r).length : Int) = (r.length : Int) + 1 := by simp
    simp only [List.length_cons] at hs
    have e0 : rd (c :: r) 0 = c := rfl
    have e1 : wrap64 c = c := w64 (by omega) (by omega)
    by_cases h8 : c > 8
    · have hr : getS (c :: r) = (0, [], 21) := by rw [getS, if_neg (fun h => by omega)]
      rw [hr]
      refine Ev.congr (fun k => ?_) (bad (c :: r))
      unfold ropewayref02_Get.f
      rw [if_neg (by omega), if_pos (by omega), e0, if_pos h8]
    · have hf : ∀ k, ropewayref02_Get.f k (c :: r) = ropewayref02_Get.j0 k (c :: r) (decide ((r.length : Int) < c)) := fun k => by
        unfold ropewayref02_Get.f
        rw [if_neg (by omega), if_pos (by omega), e0, if_neg h8, e1, hlen, w64 (by omega) (by omega)]
        congr 2
        exact propext (by omega)
      refine Ev.congr hf ?_
      by_cases hl : (r.length : Int) < c
      · rw [decide_eq_true hl]
        have : getS (c :: r) = (0, [], 21) := by rw [getS, if_neg (fun h => by omega)]
        rw [this]
        exact bad _
      · rw [decide_eq_false hl]
        have key := rget_l0 hb (by omega) (by omega) (by omega) c.toNat 0 (by omega)
        refine Ev.step (fun k => ?_) key
        simp only [ropewayref02_Get.j0]
        rw [if_neg (by simp)]
        rfl
theorem rcut {b : List Int} (hb : Bytes b) (hs : b.length < 140737488355328) : Ev (fun k => ropewayref02_Cut.f k b) (cutS b) := by
  unfold ropewayref02_Cut.f
  have hf := getS_facts b
  refine Ev.bind (rget hb hs) (Ev.congr (fun k => ?_) (Ev.now _))
  rw [if_pos hf.1]
  unfold cutS
  split <;> rfl
theorem rgets_l0 {m : Nat} (hm : m ≤ 100) (d : Nat) : ∀ (acc b : List Int), acc.length + d = m → Bytes b → b.length < 140737488355328 →
    Ev (fun k => ropewayref02_Gets.l0 k (m : Int) acc b) (behind acc (getsN d b)) := by
  induction d with
  | zero =>
    intro acc b hi _ _
    refine Ev.step (fun k => ?_) (Ev.now _)
    simp only [ropewayref02_Gets.l0]
    rw [if_neg (by omega)]
    simp [getsN, behind]
  | succ d ih =>
    intro acc b hi hb hs
    refine Ev.step (f := fun k => (ropewayref02_Get.f k b).bind fun bt396 => (if bt396.2.2 = 0 then (if acc.length < 17592186044416 then (ropewayref02_Gets.l0 k (m : Int) (acc ++ [bt396.1]) bt396.2.1) else (none)) else (some (([] : List Int), ([] : List Int), 21)))) (fun k => ?_) (Ev.bind (rget hb hs) ?_)
    · simp only [ropewayref02_Gets.l0]
      rw [if_pos (by omega)]
    · rcases getS_cases b with h | h
      · have h1 := ih (acc ++ [(getS b).1]) (getS b).2.1 (by simp; omega) (getS_bytes hb) (by have := (getS_facts b).2; omega)
        have e2 : behind acc (getsN (d + 1) b) = behind (acc ++ [(getS b).1]) (getsN d (getS b).2.1) := by
          rw [getsN, if_pos h]
          cases getsN d (getS b).2.1 <;> simp [behind]
        rw [e2]
        refine Ev.congr (fun k => ?_) h1
        rw [if_pos h, if_pos (by omega)]
      · have e2 : getsN (d + 1) b = none := by rw [getsN, if_neg (by rw [h]; decide)]
        rw [e2, h]
        exact Ev.congr (fun k => by rw [if_neg (by decide)]; rfl) (Ev.now _)
theorem rgets {b : List Int} {many : Int} (hb : Bytes b) (hs : b.length < 140737488355328) : Ev (fun k => ropewayref02_Gets.f k b many) (getsS b many) := by
  have bad : Ev (fun k => ropewayref02_Gets.j0 k b many true) ([], [], 21) := Ev.step (fun k => by simp only [ropewayref02_Gets.j0]; exact if_pos trivial) (Ev.now _)
  rw [getsS_eq]
  by_cases h0 : many < 0
  · rw [if_pos (.inl h0)]
    exact Ev.congr (fun k => by unfold ropewayref02_Gets.f; rw [if_pos h0]) bad
  · refine Ev.congr (f := fun k => ropewayref02_Gets.j0 k b many (decide (many > 100))) (fun k => by unfold ropewayref02_Gets.f; rw [if_neg h0]) ?_
    by_cases h1 : many > 100
    · rw [if_pos (.inr h1), decide_eq_true h1]
      exact bad
    · rw [if_neg (fun h => by omega), decide_eq_false h1]
      obtain ⟨m, rfl⟩ : ∃ m : Nat, many = (m : Int) := ⟨many.toNat, by omega⟩
      refine Ev.step (fun k => ?_) (rgets_l0 (m := m) (by omega) m [] b (by simp) hb hs)
      simp only [ropewayref02_Gets.j0, Option.bind_some, List.nil_append]
      rw [if_neg (by simp), if_pos (by simp only [List.length_nil]; omega)]
end Go.Proofs.Ytejhoojndkiijaa.Math
