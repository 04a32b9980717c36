/- Plain facts about numbers written to the base 256, highest digit first: no program is in sight. -/
import Derived.Lib.BitFns
import Derived.Laws.BitsAllLaws
namespace Go.Proofs.Ytejhoojndkiijaa.Math

/-- The digits to the base 256, the highest first. -/
def digits (n : Nat) : List Int := if _h : n = 0 then [] else digits (n / 256) ++ [((n % 256 : Nat) : Int)]
termination_by n
decreasing_by omega
theorem digits_zero : digits 0 = [] := by rw [digits]; simp
theorem digits_pos {n : Nat} (h : n ≠ 0) : digits n = digits (n / 256) ++ [((n % 256 : Nat) : Int)] := by rw [digits]; simp [h]
/-- The form of a number. -/
def form (n : Nat) : List Int := ((digits n).length : Int) :: digits n
/-- The number of digits. -/
def val (l : List Int) : Nat := l.foldl (fun a x => a * 256 + x.toNat) 0
theorem val_nil : val [] = 0 := rfl
theorem val_snoc (l : List Int) (x : Int) : val (l ++ [x]) = val l * 256 + x.toNat := by simp [val, List.foldl_append]
def Bytes (l : List Int) : Prop := ∀ x ∈ l, 0 ≤ x ∧ x < 256
theorem Bytes.app {a b : List Int} (ha : Bytes a) (hb : Bytes b) : Bytes (a ++ b) := fun x hx => (List.mem_append.1 hx).elim (ha x) (hb x)
theorem Bytes.left {a b : List Int} (h : Bytes (a ++ b)) : Bytes a := fun x hx => h x (List.mem_append_left _ hx)
theorem Bytes.right {a b : List Int} (h : Bytes (a ++ b)) : Bytes b := fun x hx => h x (List.mem_append_right _ hx)
theorem Bytes.take {l : List Int} (h : Bytes l) (n : Nat) : Bytes (l.take n) := fun x hx => h x (List.mem_of_mem_take hx)
theorem Bytes.drop {l : List Int} (h : Bytes l) (n : Nat) : Bytes (l.drop n) := fun x hx => h x (List.mem_of_mem_drop hx)
theorem Bytes.tail {x : Int} {l : List Int} (h : Bytes (x :: l)) : Bytes l := fun y hy => h y (List.mem_cons_of_mem _ hy)
theorem bytes_nil : Bytes [] := fun _ h => by cases h
theorem bytes_digits (n : Nat) : Bytes (digits n) := by
  induction n using Nat.strongRecOn with
  | ind n ih =>
    by_cases h : n = 0
    · subst h; rw [digits_zero]; exact bytes_nil
    · rw [digits_pos h]
      refine (ih (n / 256) (by omega)).app ?_
      intro x hx
      simp at hx
      omega
theorem val_digits (n : Nat) : val (digits n) = n := by
  induction n using Nat.strongRecOn with
  | ind n ih =>
    by_cases h : n = 0
    · subst h; rw [digits_zero]; rfl
    · rw [digits_pos h, val_snoc, ih (n / 256) (by omega)]
      omega
theorem rev_ind {P : List Int → Prop} (h0 : P []) (h1 : ∀ l x, P l → P (l ++ [x])) (l : List Int) : P l := by
  have : ∀ m : List Int, P m.reverse := by
    intro m
    induction m with
    | nil => exact h0
    | cons x m ih => rw [List.reverse_cons]; exact h1 _ _ ih
  have h := this l.reverse
  rwa [List.reverse_reverse] at h
theorem val_lt {l : List Int} (h : Bytes l) : val l < 256 ^ l.length := by
  revert h
  refine rev_ind (P := fun l => Bytes l → val l < 256 ^ l.length) ?_ ?_ l
  · intro _; simp [val]
  · intro l x ih h
    have h1 := ih h.left
    have h2 := h x (by simp)
    rw [val_snoc, List.length_append, List.length_singleton, Nat.pow_succ]
    have h3 : x.toNat < 256 := by omega
    omega
theorem len_le (n k : Nat) (h : n < 256 ^ k) : (digits n).length ≤ k := by
  induction k generalizing n with
  | zero =>
    have : n = 0 := by simpa using h
    subst this; rw [digits_zero]; simp
  | succ k ih =>
    by_cases h0 : n = 0
    · subst h0; rw [digits_zero]; simp
    · rw [digits_pos h0, List.length_append, List.length_singleton]
      have := ih (n / 256) (by rw [Nat.pow_succ] at h; exact Nat.div_lt_of_lt_mul (by rw [Nat.mul_comm]; exact h))
      omega
theorem lt_of_len {n k : Nat} (h : (digits n).length ≤ k) : n < 256 ^ k := by
  have h1 := val_lt (bytes_digits n)
  rw [val_digits] at h1
  exact Nat.lt_of_lt_of_le h1 (Nat.pow_le_pow_right (by omega) h)
theorem len_mono {a b : Nat} (h : a ≤ b) : (digits a).length ≤ (digits b).length := len_le a _ (Nat.lt_of_le_of_lt h (lt_of_len (Nat.le_refl _)))
theorem len_le8 {n : Nat} (h : n < 18446744073709551616) : (digits n).length ≤ 8 := by
  have e : (256 : Nat) ^ 8 = 18446744073709551616 := by decide
  exact len_le n 8 (by rw [e]; exact h)
theorem lt_of_len8 {n : Nat} (h : (digits n).length ≤ 8) : n < 18446744073709551616 := by
  have := lt_of_len h
  have e : (256 : Nat) ^ 8 = 18446744073709551616 := by decide
  omega
theorem snoc_inj {a b : List Int} {x y : Int} (h : a ++ [x] = b ++ [y]) : a = b ∧ x = y := by
  have := List.append_inj' h rfl
  exact ⟨this.1, by simpa using this.2⟩
theorem val_inj : ∀ (n : Nat) (a b : List Int), a.length = n → b.length = n → Bytes a → Bytes b → val a = val b → a = b := by
  intro n
  induction n with
  | zero => intro a b ha hb _ _ _; rw [List.eq_nil_of_length_eq_zero ha, List.eq_nil_of_length_eq_zero hb]
  | succ n ih =>
    intro a b ha hb hA hB hv
    obtain ⟨a', x, rfl⟩ : ∃ a' x, a = a' ++ [x] := ⟨a.dropLast, a.getLast (by intro e; subst e; simp at ha), (List.dropLast_concat_getLast _).symm⟩
    obtain ⟨b', y, rfl⟩ : ∃ a' x, b = a' ++ [x] := ⟨b.dropLast, b.getLast (by intro e; subst e; simp at hb), (List.dropLast_concat_getLast _).symm⟩
    rw [val_snoc, val_snoc] at hv
    have h1 := hA x (by simp)
    have h2 := hB y (by simp)
    have h3 : x.toNat = y.toNat ∧ val a' = val b' := by omega
    have h4 : x = y := by omega
    subst h4
    rw [ih a' b' (by simpa using ha) (by simpa using hb) hA.left hB.left h3.2]
theorem digits_val {l : List Int} (h : Bytes l) (hl : (digits (val l)).length = l.length) : digits (val l) = l :=
  val_inj l.length _ _ hl rfl (bytes_digits _) h (val_digits _)
theorem digits_val_le {l : List Int} (h : Bytes l) : (digits (val l)).length ≤ l.length := len_le _ _ (val_lt h)

/-- Of a number, the lowest t digits. -/
def low : Nat → Nat → List Int
  | 0, _ => []
  | t + 1, n => ((n / 256 ^ t % 256 : Nat) : Int) :: low t n
theorem low_len (t n : Nat) : (low t n).length = t := by
  induction t with
  | zero => rfl
  | succ t ih => simp [low, ih]
theorem low_snoc (t n : Nat) : low (t + 1) n = low t (n / 256) ++ [((n % 256 : Nat) : Int)] := by
  induction t with
  | zero => simp [low]
  | succ t ih =>
    rw [low, ih, low]
    simp only [List.cons_append]
    congr 3
    rw [Nat.pow_succ, Nat.mul_comm, Nat.div_div_eq_div_mul]
theorem low_digits (n : Nat) : low (digits n).length n = digits n := by
  induction n using Nat.strongRecOn with
  | ind n ih =>
    by_cases h : n = 0
    · subst h; rw [digits_zero]; rfl
    · rw [digits_pos h, List.length_append, List.length_singleton, low_snoc, ih (n / 256) (by omega)]

theorem bitLen_size (n : Nat) (h : n < 18446744073709551616) : (Lib.bitLen n + 7) / 8 = (digits n).length := by
  induction n using Nat.strongRecOn with
  | ind n ih =>
    by_cases h0 : n = 0
    · subst h0; rw [digits_zero]; decide
    · rw [digits_pos h0, List.length_append, List.length_singleton]
      by_cases h1 : 256 ≤ n
      · rw [Lib.bitLen_shift8 n h1 h, ← ih (n / 256) (by omega) (by omega)]
        omega
      · have h2 : n / 256 = 0 := by omega
        rw [h2, digits_zero]
        have h3 := Lib.bitLen_le8 ⟨n, by omega⟩
        have h4 : 1 ≤ Lib.bitLen n := by
          rw [Lib.bitLen_half n h0 h]; omega
        simp only [List.length_nil]
        simp only at h3
        omega

/-- What Get answers. -/
def getS : List Int → Int × List Int × Int
  | [] => (0, [], 21)
  | c :: r => if c.toNat ≤ 8 ∧ c.toNat ≤ r.length ∧ (digits (val (r.take c.toNat))).length = c.toNat then (val (r.take c.toNat), r.drop c.toNat, 0) else (0, [], 21)
theorem getS_form (n : Nat) (r : List Int) (h : n < 18446744073709551616) : getS (form n ++ r) = ((n : Int), r, 0) := by
  have h8 := len_le8 h
  have e : (form n ++ r) = ((digits n).length : Int) :: (digits n ++ r) := rfl
  rw [e, getS]
  simp only [Int.toNat_natCast, List.take_left', List.drop_left', val_digits, List.length_append]
  rw [if_pos ⟨h8, by omega, trivial⟩]
theorem getS_some {b : List Int} {n : Int} {r : List Int} (hb : Bytes b) (h : getS b = (n, r, 0)) : ∃ m : Nat, n = (m : Int) ∧ m < 18446744073709551616 ∧ b = form m ++ r := by
  cases b with
  | nil => simp [getS] at h
  | cons c b =>
    rw [getS] at h
    split at h
    · rename_i hc
      simp only [Prod.mk.injEq, and_true] at h
      obtain ⟨rfl, rfl⟩ := h
      have hl : (b.take c.toNat).length = c.toNat := by rw [List.length_take]; omega
      have hd := digits_val (hb.tail.take c.toNat) (by rw [hl]; exact hc.2.2)
      refine ⟨_, rfl, lt_of_len8 (by omega), ?_⟩
      have hc0 := hb c (by simp)
      show c :: b = (((digits (val (b.take c.toNat))).length : Nat) : Int) :: (digits (val (b.take c.toNat)) ++ b.drop c.toNat)
      rw [hc.2.2, hd, List.take_append_drop]
      congr 1
      omega
    · simp at h
theorem getS_cases (b : List Int) : (getS b).2.2 = 0 ∨ getS b = (0, [], 21) := by
  cases b with
  | nil => exact .inr rfl
  | cons c b =>
    rw [getS]
    split
    · exact .inl rfl
    · exact .inr rfl
theorem form_len (n : Nat) : (form n).length = (digits n).length + 1 := rfl
theorem form_bytes {n : Nat} (h : n < 18446744073709551616) : Bytes (form n) := by
  intro x hx
  rcases List.mem_cons.1 hx with rfl | hx
  · have := len_le8 h
    omega
  · exact bytes_digits n x hx
theorem form_pre {m n : Nat} {r s : List Int} (h : form m ++ r = form n ++ s) : form m = form n ∧ r = s := by
  have h1 : ((digits m).length : Int) = ((digits n).length : Int) := by
    have := congrArg (fun l => l.head?) h
    simpa [form] using this
  exact List.append_inj h (by rw [form_len, form_len]; omega)
theorem form_inj {m n : Nat} (h : form m = form n) : m = n := by
  have h1 : digits m = digits n := by
    have := congrArg List.tail h
    exact this
  rw [← val_digits m, h1, val_digits]
end Go.Proofs.Ytejhoojndkiijaa.Math
