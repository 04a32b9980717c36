/- What the printed functions of the package wire, and of its reference, answer, in plain words (from some number of rounds on). -/
import Derived.Test.YtejhoojndkiijaaPAllx6
import Derived.Test.YtejhoojndkiijaaMath
import Derived.Lib.Bytes
namespace Go.Proofs.Ytejhoojndkiijaa.Math
open Go.RowKit Go.Proofs.Ytejhoojndkiijaa.PAll Go.Proofs.YtejhoojndkiijaaW.PrintWords Go.Proofs.YtejhoojndkiijaaW.PrintMore

theorem w64 {x : Int} (h0 : -9223372036854775808 ≤ x) (h1 : x < 9223372036854775808) : wrap64 x = x := by unfold wrap64; omega
theorem wu64 {x : Int} (h0 : 0 ≤ x) (h1 : x < 18446744073709551616) : IntKind.u64.wrap x = x := by
  rw [IntKind.wrap_u64]
  omega
def U64 (l : List Int) : Prop := ∀ x ∈ l, 0 ≤ x ∧ x < 18446744073709551616
theorem wf_u64 {x : Int} (h : (Lit.int .u64 x).wf = true) : 0 ≤ x ∧ x < 18446744073709551616 := by
  simp [Lit.wf, IntKind.min, IntKind.max, IntKind.signed, IntKind.bits] at h
  omega
theorem wf_u8 {x : Int} (h : (Lit.int .u8 x).wf = true) : 0 ≤ x ∧ x < 256 := by
  simp [Lit.wf, IntKind.min, IntKind.max, IntKind.signed, IntKind.bits] at h
  omega
theorem wf_i64 {x : Int} (h : (Lit.int .i64 x).wf = true) : -9223372036854775808 ≤ x ∧ x < 9223372036854775808 := by
  simp [Lit.wf, IntKind.min, IntKind.max, IntKind.signed, IntKind.bits] at h
  omega

theorem size_ {n : Int} (h0 : 0 ≤ n) (h1 : n < 18446744073709551616) : wire_size.f n = some ((digits n.toNat).length : Int) := by
  unfold wire_size.f bits_Len64.f
  rw [if_pos ⟨h0, by omega⟩]
  have e := bitLen_size n.toNat (by omega)
  have h8 := len_le8 (n := n.toNat) (by omega)
  have hb : Lib.bitLen n.toNat ≤ 64 := Lib.bitLen_le n.toNat 64 (Nat.le_refl _) (by rw [show (2 : Nat) ^ 64 = 18446744073709551616 from by decide]; omega)
  simp only [Option.bind_some]
  rw [w64 (x := (Lib.bitLen n.toNat : Int) + 8) (by omega) (by omega), w64 (x := (Lib.bitLen n.toNat : Int) + 8 - 1) (by omega) (by omega), Int.tdiv_eq_ediv_of_nonneg (by omega), w64 (by omega) (by omega)]
  congr 1
  omega
theorem rd_drop {xs : List Int} {i : Nat} (h : i < xs.length) : xs.drop i = rd xs i :: xs.drop (i + 1) := by
  rw [List.drop_eq_getElem_cons h]
  congr 1
  simp [rd, List.getD_eq_getElem?_getD, h]
theorem rd_mem {xs : List Int} {i : Nat} (h : i < xs.length) : rd xs i ∈ xs := by
  have : rd xs i = xs[i] := by simp [rd, List.getD_eq_getElem?_getD, h]
  rw [this]
  exact List.getElem_mem h
def forms (xs : List Int) : List Int := xs.flatMap fun x => form x.toNat
theorem forms_cons (x : Int) (xs : List Int) : forms (x :: xs) = form x.toNat ++ forms xs := rfl
theorem forms_nil : forms [] = [] := rfl
theorem forms_append (a b : List Int) : forms (a ++ b) = forms a ++ forms b := by simp [forms]
theorem forms_len {xs : List Int} (h : U64 xs) : (forms xs).length ≤ 9 * xs.length := by
  induction xs with
  | nil => simp [forms]
  | cons x xs ih =>
    rw [forms_cons, List.length_append, form_len]
    have h1 := h x (by simp)
    have h2 := len_le8 (n := x.toNat) (by omega)
    have h3 := ih (fun y hy => h y (List.mem_cons_of_mem _ hy))
    simp only [List.length_cons]
    omega
theorem forms_bytes {xs : List Int} (h : U64 xs) : Bytes (forms xs) := by
  intro x hx
  obtain ⟨y, hy, hx⟩ := List.mem_flatMap.1 hx
  have := h y hy
  exact form_bytes (by omega) x hx
theorem shr_pow {n : Int} {t : Nat} (h0 : 0 ≤ n) (ht : t < 8) : shr .u64 n ((8 * t : Nat) : Int) % 256 = ((n.toNat / 256 ^ t % 256 : Nat) : Int) := by
  have e : (2 : Int) ^ (8 * t) = ((256 ^ t : Nat) : Int) := by
    rw [Int.natCast_pow, Int.pow_mul]; rfl
  have hm : min (8 * t) 64 = 8 * t := Nat.min_eq_left (by omega)
  have hn : n = (n.toNat : Int) := by omega
  show n / 2 ^ min ((8 * t : Nat) : Int).toNat 64 % 256 = _
  rw [Int.toNat_natCast, hm, e]
  conv => lhs; rw [hn]
  rfl
theorem put_l1 {n : Int} (h0 : 0 ≤ n) {x11 : List Int} {x12 x13 : Int} {r : List Int} (t : Nat) : ∀ (x5 : List Int), t ≤ 8 → x5.length + t ≤ 140737488355328 →
    Ev (fun k => wire_Put.l0 k (x5 ++ low t n.toNat) x11 x12 (wrap64 (x13 + 1))) r → Ev (fun k => wire_Put.l1 k x5 n (t : Int) x11 x12 x13) r := by
  induction t with
  | zero =>
    intro x5 _ _ h
    refine Ev.step (fun k => ?_) h
    simp only [wire_Put.l1]
    rw [if_neg (by omega)]
    simp [low]
  | succ t ih =>
    intro x5 h8 hl h
    refine Ev.step (fun k => ?_) (ih (x5 ++ [((n.toNat / 256 ^ t % 256 : Nat) : Int)]) (by omega) (by simp; omega) (by simpa [low] using h))
    simp only [wire_Put.l1]
    have e1 : wrap64 (((t + 1 : Nat) : Int) - 1) = (t : Int) := by rw [w64 (by omega) (by omega)]; omega
    rw [if_pos (by omega), e1]
    have e2 : wrap64 (8 * (t : Int)) = ((8 * t : Nat) : Int) := by rw [w64 (by omega) (by omega)]; omega
    rw [e2, if_pos (by omega), if_pos (by omega), shr_pow h0 (by omega)]
theorem put_l0 {xs : List Int} (hx : U64 xs) (hm : xs.length < 9223372036854775807) (d : Nat) : ∀ (i : Nat) (x5 : List Int), i + d = xs.length → x5.length + (forms (xs.drop i)).length ≤ 140737488355328 →
    Ev (fun k => wire_Put.l0 k x5 xs (xs.length : Int) (i : Int)) (x5 ++ forms (xs.drop i)) := by
  induction d with
  | zero =>
    intro i x5 hi hl
    refine Ev.step (fun k => ?_) (Ev.now _)
    simp only [wire_Put.l0]
    rw [if_neg (by omega), List.drop_eq_nil_of_le (by omega)]
    simp [forms]
  | succ d ih =>
    intro i x5 hi hl
    have hlt : i < xs.length := by omega
    have hb := hx _ (rd_mem hlt)
    rw [rd_drop hlt, forms_cons, List.length_append, form_len] at hl
    have h8 := len_le8 (n := (rd xs i).toNat) (by omega)
    rw [rd_drop hlt, forms_cons]
    have e : wrap64 ((i : Int) + 1) = ((i + 1 : Nat) : Int) := by rw [w64 (by omega) (by omega)]; omega
    have h1 := ih (i + 1) (x5 ++ form (rd xs i).toNat) (by omega) (by rw [List.length_append, form_len]; omega)
    rw [List.append_assoc] at h1
    refine Ev.step (fun k => ?_) (put_l1 hb.1 (digits (rd xs i).toNat).length (x5 ++ [((digits (rd xs i).toNat).length : Int)]) h8 (by rw [List.length_append, List.length_singleton]; omega) (r := x5 ++ (form (rd xs i).toNat ++ forms (xs.drop (i + 1)))) (x11 := xs) (x12 := (xs.length : Int)) (x13 := (i : Int)) ?_)
    · simp only [wire_Put.l0]
      rw [if_pos (by omega), if_pos (by omega), if_pos (by omega), size_ hb.1 hb.2]
      simp only [Option.bind_some]
      rw [if_pos (by omega)]
      congr 3
      omega
    · rw [low_digits, e, List.append_assoc]
      exact h1
theorem put_ {b xs : List Int} (hx : U64 xs) (hm : xs.length < 9223372036854775807) (hb : b.length < 140737488355328) (hl : b.length + (forms xs).length ≤ 140737488355328) : Ev (fun k => wire_Put.f k b xs) (b ++ forms xs) := by
  have h := put_l0 hx hm xs.length 0 b (by omega) (by simpa using hl)
  refine Ev.congr (fun k => ?_) h
  unfold wire_Put.f slices_Clone_byte_byte.f
  rw [if_pos hb]
  rfl
theorem put_one {b : List Int} {n : Int} (h0 : 0 ≤ n) (h1 : n < 18446744073709551616) (hb : b.length + 9 ≤ 140737488355328) : Ev (fun k => wire_Put.f k b [n]) (b ++ form n.toNat) := by
  have h8 := len_le8 (n := n.toNat) (by omega)
  have := put_ (b := b) (xs := [n]) (fun x hx => by simp at hx; subst hx; exact ⟨h0, h1⟩) (by simp) (by omega) (by rw [forms_cons, List.length_append, form_len]; simp [forms]; omega)
  simpa [forms] using this
theorem or_step {a x : Int} (h0 : 0 ≤ a) (h1 : a < 72057594037927936) (hx : 0 ≤ x ∧ x < 256) : Go.bits .or .u64 (IntKind.u64.wrap (a * 256)) (IntKind.u64.wrap x) = a * 256 + x := by
  rw [wu64 (x := a * 256) (by omega) (by omega), wu64 (x := x) (by omega) (by omega), u64_or _ _ (by omega) (by omega) (by omega) (by omega)]
  have e : (a * 256).toNat ||| x.toNat = (a * 256).toNat + x.toNat := by
    have h2 : (a * 256).toNat = a.toNat <<< 8 := by rw [Nat.shiftLeft_eq]; omega
    rw [h2]
    exact (Nat.shiftLeft_add_eq_or_of_lt (by omega) _).symm
  rw [e]
  omega
theorem val_take {L : List Int} {i : Nat} (h : i < L.length) : val (L.take (i + 1)) = val (L.take i) * 256 + (rd L i).toNat := by
  have : L.take (i + 1) = L.take i ++ [rd L i] := by
    rw [List.take_succ_eq_append_getElem h]
    congr 2
    simp [rd, List.getD_eq_getElem?_getD, h]
  rw [this, val_snoc]
theorem val_take_lt {L : List Int} (hb : Bytes L) {i : Nat} (hi : i < 8) : val (L.take i) < 72057594037927936 := by
  have h1 := val_lt (hb.take i)
  have h2 : 256 ^ (L.take i).length ≤ 256 ^ 7 := Nat.pow_le_pow_right (by omega) (by rw [List.length_take]; omega)
  have h3 : (256 : Nat) ^ 7 = 72057594037927936 := by decide
  omega
/-- What is answered behind the digits L of b = c :: .. -/
def got (x0 : List Int) (c : Int) (L : List Int) : Int × List Int × Int :=
  if ((digits (val L)).length : Int) = c then ((val L : Nat), x0.drop (1 + c).toNat, 0) else (0, [], 21)
theorem get_l0 {x0 L : List Int} {c : Int} (hL : Bytes L) (hl : L.length ≤ 8) (hc : 0 ≤ c ∧ c ≤ 8) (hx : 1 + c ≤ x0.length) (hs : x0.length < 140737488355328) (d : Nat) : ∀ i : Nat, i + d = L.length →
    Ev (fun k => wire_Get.l0 k x0 c (val (L.take i) : Nat) L (L.length : Int) (i : Int)) (got x0 c L) := by
  induction d with
  | zero =>
    intro i hi
    refine Ev.step (fun k => ?_) (Ev.now _)
    have e : L.take i = L := List.take_of_length_le (by omega)
    have h8 : val L < 18446744073709551616 := lt_of_len8 (Nat.le_trans (digits_val_le hL) hl)
    have e1 : wrap64 (1 + c) = 1 + c := w64 (by omega) (by omega)
    simp only [wire_Get.l0]
    rw [if_neg (by omega), e, size_ (by omega) (by omega)]
    simp only [Option.bind_some, Int.toNat_natCast]
    unfold got
    by_cases h : ((digits (val L)).length : Int) = c
    · rw [if_pos h, if_pos h, e1, if_pos (by omega), if_pos hx]
      unfold slices_Clone_byte_byte.f
      rw [if_pos (by rw [List.length_drop]; omega)]
      rfl
    · rw [if_neg h, if_neg h]
  | succ d ih =>
    intro i hi
    have hlt : i < L.length := by omega
    have hv := val_take_lt hL (i := i) (by omega)
    have e : wrap64 ((i : Int) + 1) = ((i + 1 : Nat) : Int) := by rw [w64 (by omega) (by omega)]; omega
    refine Ev.step (fun k => ?_) (ih (i + 1) (by omega))
    simp only [wire_Get.l0]
    rw [if_pos (by omega), if_pos (by omega), if_pos (by omega), or_step (by omega) (by omega) (hL _ (rd_mem hlt)), e, val_take hlt]
    have := (hL _ (rd_mem hlt)).1
    congr 1
    omega
theorem take_drop1 {c : Int} {r : List Int} (h : 0 ≤ c) : (((c :: r).take (1 + c).toNat).drop 1) = r.take c.toNat := by
  have : (1 + c).toNat = c.toNat + 1 := by omega
  rw [this]
  rfl
theorem get_ {b : List Int} (hb : Bytes b) (hs : b.length < 140737488355328) : Ev (fun k => wire_Get.f k b) (getS b) := by
  have bad : ∀ x, Ev (fun k => wire_Get.j0 k x true) (0, [], 21) := fun x => Ev.step (fun k => by simp only [wire_Get.j0]; exact if_pos trivial) (Ev.now _)
  cases b with
  | nil => exact Ev.congr (fun k => by unfold wire_Get.f; exact if_pos (by simp)) (bad [])
  | cons c r =>
    have hc := hb c (by simp)
    have hlen : ((c :: r).length : Int) = (r.length : Int) + 1 := by simp
    simp only [List.length_cons] at hs
    have e0 : rd (c :: r) 0 = c := rfl
    have e1 : wrap64 c = c := w64 (by omega) (by omega)
    by_cases h8 : c > 8
    · have hr : getS (c :: r) = (0, [], 21) := by rw [getS, if_neg (fun h => by omega)]
      rw [hr]
      refine Ev.congr (fun k => ?_) (bad (c :: r))
      unfold wire_Get.f
      rw [if_neg (by omega), if_pos (by omega), e0, if_pos h8]
    · have hf : ∀ k, wire_Get.f k (c :: r) = wire_Get.j0 k (c :: r) (decide (c > (r.length : Int))) := fun k => by
        unfold wire_Get.f
        rw [if_neg (by omega), if_pos (by omega), e0, if_neg h8, e1, hlen, w64 (by omega) (by omega)]
        congr 2
        exact propext (by omega)
      refine Ev.congr hf ?_
      by_cases hl : c > (r.length : Int)
      · rw [decide_eq_true hl]
        have : getS (c :: r) = (0, [], 21) := by rw [getS, if_neg (fun h => by omega)]
        rw [this]
        exact bad _
      · rw [decide_eq_false hl]
        have hL : (r.take c.toNat).length = c.toNat := by rw [List.length_take]; omega
        have hres : getS (c :: r) = got (c :: r) c (r.take c.toNat) := by
          have ed : (1 + c).toNat = c.toNat + 1 := by omega
          rw [getS, got, ed]
          simp only [List.drop_succ_cons]
          by_cases h : ((digits (val (r.take c.toNat))).length : Int) = c
          · rw [if_pos ⟨by omega, by omega, by omega⟩, if_pos h]
          · rw [if_neg (fun h' => h (by omega)), if_neg h]
        rw [hres]
        have e2 : wrap64 (1 + c) = 1 + c := w64 (by omega) (by omega)
        have hx : 1 + c ≤ ((c :: r).length : Int) := by omega
        have key := get_l0 (x0 := c :: r) (L := r.take c.toNat) (c := c) (hb.tail.take _) (by omega) (by omega) hx (by simp only [List.length_cons]; omega) (r.take c.toNat).length 0 (by omega)
        refine Ev.step (fun k => ?_) key
        simp only [wire_Get.j0]
        rw [if_neg (by simp), if_pos (by omega), e0, e1, e2, if_pos (by omega), if_pos hx, take_drop1 hc.1]
        rfl
theorem getS_facts (b : List Int) : 0 ≤ (getS b).1 ∧ (getS b).2.1.length ≤ b.length := by
  cases b with
  | nil => simp [getS]
  | cons c r =>
    rw [getS]
    split
    · simp only [List.length_drop, List.length_cons]
      omega
    · simp
theorem getS_bytes {b : List Int} (h : Bytes b) : Bytes (getS b).2.1 := by
  cases b with
  | nil => exact bytes_nil
  | cons c r =>
    rw [getS]
    split
    · exact h.tail.drop _
    · exact bytes_nil
/-- What Text answers. -/
def textS (b t : List Int) : List Int × Int := if t.length > 4000 then ([], 21) else (b ++ form t.length ++ t, 0)
theorem text_ {b t : List Int} (ht : t.length < 9223372036854775808) (hb : b.length ≤ 140737488000000) : Ev (fun k => wire_Text.f k b t) (textS b t) := by
  unfold textS
  by_cases h : t.length > 4000
  · rw [if_pos h]
    refine Ev.congr (fun k => ?_) (Ev.now _)
    unfold wire_Text.f
    rw [if_pos (by omega)]
  · rw [if_neg h]
    have h8 := len_le8 (n := t.length) (by omega)
    have h1 := put_one (b := b) (n := (t.length : Int)) (by omega) (by omega) (by omega)
    rw [Int.toNat_natCast] at h1
    refine Ev.congr (f := fun k => (wire_Put.f k b [(t.length : Int)]).bind fun x => if x.length + t.length < 140737488355328 then some (x ++ t, 0) else none) (fun k => ?_) (Ev.bind h1 (Ev.congr (fun k => ?_) (Ev.now _)))
    · unfold wire_Text.f
      rw [if_neg (by omega), wu64 (by omega) (by omega)]
    · rw [if_pos (by rw [List.length_append, form_len]; omega)]
/-- What Cut answers. -/
def cutS (b : List Int) : List Int × List Int × Int :=
  if (getS b).2.2 = 0 ∧ (getS b).1 ≤ 4000 ∧ (getS b).1 ≤ (getS b).2.1.length then ((getS b).2.1.take (getS b).1.toNat, (getS b).2.1.drop (getS b).1.toNat, 0) else ([], [], 21)
theorem cut_ {b : List Int} (hb : Bytes b) (hs : b.length < 140737488355328) : Ev (fun k => wire_Cut.f k b) (cutS b) := by
  have bad : ∀ n r, Ev (fun k => wire_Cut.j0 k n r true) ([], [], 21) := fun n r => Ev.step (fun k => by simp only [wire_Cut.j0]; exact if_pos trivial) (Ev.now _)
  unfold wire_Cut.f
  refine Ev.bind (get_ hb hs) ?_
  have hf := getS_facts b
  unfold cutS
  revert hf
  generalize getS b = g
  obtain ⟨n, r, e⟩ := g
  intro hf
  simp only at hf ⊢
  by_cases he : e = 0
  · have hw : IntKind.u64.wrap (r.length : Int) = (r.length : Int) := wu64 (by omega) (by omega)
    by_cases h1 : n > 4000
    · rw [if_neg (fun h => by omega)]
      refine Ev.congr (fun k => ?_) (bad n r)
      rw [if_pos he, if_pos h1]
    · refine Ev.congr (f := fun k => wire_Cut.j0 k n r (decide (n > (r.length : Int)))) (fun k => by rw [if_pos he, if_neg h1, hw]) ?_
      by_cases h2 : n > (r.length : Int)
      · rw [if_neg (fun h => by omega), decide_eq_true h2]
        exact bad n r
      · rw [if_pos ⟨he, by omega, by omega⟩, decide_eq_false h2]
        refine Ev.step (fun k => ?_) (Ev.now _)
        simp only [wire_Cut.j0]
        rw [if_neg (by simp), if_pos hf.1, if_pos (by omega)]
        unfold slices_Clone_byte_byte.f
        rw [if_pos (by rw [List.length_take]; omega), if_pos (by rw [List.length_drop]; omega)]
        rfl
  · rw [if_neg (fun h => he h.1)]
    refine Ev.congr (fun k => ?_) (bad n r)
    rw [if_neg he]
/-- So many numbers, one behind the other. -/
def getsN : Nat → List Int → Option (List Int × List Int)
  | 0, b => some ([], b)
  | n + 1, b => if (getS b).2.2 = 0 then (getsN n (getS b).2.1).map fun x => ((getS b).1 :: x.1, x.2) else none
/-- What Gets answers. -/
def getsS (b : List Int) (many : Int) : List Int × List Int × Int :=
  if many < 0 ∨ many > 100 then ([], [], 21) else match getsN many.toNat b with
    | none => ([], [], 21)
    | some (l, r) => (l, r, 0)
def behind (acc : List Int) : Option (List Int × List Int) → List Int × List Int × Int
  | none => ([], [], 21)
  | some (l, r) => (acc ++ l, r, 0)
theorem gets_l0 {m : Nat} (hm : m ≤ 100) (d : Nat) : ∀ (i : Nat) (acc b : List Int), i + d = m → acc.length ≤ i → Bytes b → b.length < 140737488355328 →
    Ev (fun k => wire_Gets.l0 k b acc (m : Int) (i : Int)) (behind acc (getsN d b)) := by
  induction d with
  | zero =>
    intro i acc b hi _ _ _
    refine Ev.step (fun k => ?_) (Ev.now _)
    simp only [wire_Gets.l0]
    rw [if_neg (by omega)]
    simp [getsN, behind]
  | succ d ih =>
    intro i acc b hi ha hb hs
    have e : wrap64 ((i : Int) + 1) = ((i + 1 : Nat) : Int) := by rw [w64 (by omega) (by omega)]; omega
    refine Ev.step (f := fun k => (wire_Get.f k b).bind fun bt379 => (if bt379.2.2 = 0 then (if acc.length < 17592186044416 then (wire_Gets.l0 k bt379.2.1 (acc ++ [bt379.1]) (m : Int) (wrap64 ((i : Int) + 1))) else (none)) else (some (([] : List Int), ([] : List Int), bt379.2.2)))) (fun k => ?_) (Ev.bind (get_ hb hs) ?_)
    · simp only [wire_Gets.l0]
      rw [if_pos (by omega)]
    · rcases getS_cases b with h | h
      · have h1 := ih (i + 1) (acc ++ [(getS b).1]) (getS b).2.1 (by omega) (by simp; omega) (getS_bytes hb) (by have := (getS_facts b).2; omega)
        have e2 : behind acc (getsN (d + 1) b) = behind (acc ++ [(getS b).1]) (getsN d (getS b).2.1) := by
          rw [getsN, if_pos h]
          cases getsN d (getS b).2.1 <;> simp [behind]
        rw [e2]
        refine Ev.congr (fun k => ?_) h1
        rw [if_pos h, if_pos (by omega), e]
      · have e2 : getsN (d + 1) b = none := by rw [getsN, if_neg (by rw [h]; decide)]
        rw [e2, h]
        exact Ev.congr (fun k => by rw [if_neg (by decide)]; rfl) (Ev.now _)
theorem gets_ {b : List Int} {many : Int} (hb : Bytes b) (hs : b.length < 140737488355328) : Ev (fun k => wire_Gets.f k b many) (getsS b many) := by
  have bad : Ev (fun k => wire_Gets.j0 k b many true) ([], [], 21) := Ev.step (fun k => by simp only [wire_Gets.j0]; exact if_pos trivial) (Ev.now _)
  unfold getsS
  by_cases h0 : many < 0
  · rw [if_pos (.inl h0)]
    exact Ev.congr (fun k => by unfold wire_Gets.f; rw [if_pos h0]) bad
  · refine Ev.congr (f := fun k => wire_Gets.j0 k b many (decide (many > 100))) (fun k => by unfold wire_Gets.f; rw [if_neg h0]) ?_
    by_cases h1 : many > 100
    · rw [if_pos (.inr h1), decide_eq_true h1]
      exact bad
    · rw [if_neg (fun h => by omega), decide_eq_false h1]
      obtain ⟨m, rfl⟩ : ∃ m : Nat, many = (m : Int) := ⟨many.toNat, by omega⟩
      refine Ev.step (fun k => ?_) (gets_l0 (m := m) (by omega) m 0 [] b (by omega) (by simp) hb hs)
      simp only [wire_Gets.j0]
      rw [if_neg (by simp)]
      unfold slices_Clone_byte_byte.f
      rw [if_pos hs]
      rfl
theorem getsS_eq (b : List Int) (many : Int) : getsS b many = if many < 0 ∨ many > 100 then ([], [], 21) else behind [] (getsN many.toNat b) := by
  unfold getsS
  split
  · rfl
  · cases getsN many.toNat b <;> rfl
theorem str_inj {a b : List Int} (ha : Bytes a) (hb : Bytes b) (h : (strOfNums a).toList = (strOfNums b).toList) : a = b := by
  rw [Lib.strOfNums_toList, Lib.strOfNums_toList] at h
  unfold Lib.bytesOf at h
  have hm : ∀ l : List Int, Bytes l → (l.map fun n => UInt8.ofNat n.toNat).map (fun u => (u.toNat : Int)) = l := by
    intro l hl
    rw [List.map_map]
    conv => rhs; rw [← List.map_id l]
    apply List.map_congr_left
    intro x hx
    have := hl x hx
    simp only [Function.comp, UInt8.toNat_ofNat', id]
    omega
  rw [← hm a ha, ← hm b hb, h]
theorem str_app (a b : List Int) : ((strOfNums a) ++ (strOfNums b)).toList = (strOfNums (a ++ b)).toList := by
  rw [Lib.strOfNums_toList, Lib.toList_data]
  simp [strOfNums, Lib.bytesOf]
theorem str_size (a : List Int) : (strOfNums a).size = a.length := strOfNums_size a
theorem digits_300 : digits 300 = [1, 44] := by
  rw [digits_pos (by decide), show 300 / 256 = 1 from rfl, digits_pos (by decide), show 1 / 256 = 0 from rfl, digits_zero]; rfl
theorem form_300 : form 300 = [2, 1, 44] := by rw [form, digits_300]; rfl
theorem form_0 : form 0 = [0] := by rw [form, digits_zero]; rfl
theorem alive_ : Ev (fun k => ropewaylaw02_wireAlive.f k) true := by
  unfold ropewaylaw02_wireAlive.f
  have hg : getS [2, 1, 44, 9] = (300, [9], 0) := by
    have := getS_form 300 [9] (by decide)
    rw [form_300] at this
    exact this
  refine Ev.bind (get_ (b := [2, 1, 44, 9]) (by intro x hx; simp at hx; omega) (by simp)) ?_
  rw [hg]
  have hp := put_ (b := []) (xs := [0, 300]) (by intro x hx; simp at hx; omega) (by simp) (by simp) (by rw [forms_cons, forms_cons, show (0 : Int).toNat = 0 from rfl, show (300 : Int).toNat = 300 from rfl, form_0, form_300]; simp [forms])
  have ef : [] ++ forms [0, 300] = [0, 2, 1, 44] := by
    rw [forms_cons, forms_cons, show (0 : Int).toNat = 0 from rfl, show (300 : Int).toNat = 300 from rfl, form_0, form_300]; rfl
  rw [ef] at hp
  refine Ev.bind hp (Ev.congr (fun k => ?_) (Ev.now _))
  rw [if_pos (by rw [Lib.strOfNums_toList]; rfl)]
  rfl
end Go.Proofs.Ytejhoojndkiijaa.Math
