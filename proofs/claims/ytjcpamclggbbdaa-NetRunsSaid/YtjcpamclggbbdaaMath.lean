/- Plain facts about the sum of a frame: no program is in sight. -/
import Derived.Lib.BitFns
import Derived.Laws.BitsAllLaws
namespace Go.Proofs.Ytjcpamclggbbdaa.Math

/-- One bit of the sum. -/
def L (c : Nat) : Nat := (c / 2) ^^^ (if c % 2 = 1 then 3988292384 else 0)
/-- So many bits. -/
def Ln : Nat → Nat → Nat
  | 0, c => c
  | n + 1, c => L (Ln n c)
theorem Ln_add (a b c : Nat) : Ln (a + b) c = Ln a (Ln b c) := by
  induction a with
  | zero => rw [Nat.zero_add]; rfl
  | succ a ih => rw [Nat.add_right_comm]; show L _ = L _; rw [ih]
theorem bit_L (c i : Nat) : (L c).testBit i = (c.testBit (i + 1) ^^ (c.testBit 0 && Nat.testBit 3988292384 i)) := by
  unfold L
  rw [Nat.testBit_xor, Nat.testBit_div_two, Nat.testBit_zero]
  by_cases h : c % 2 = 1 <;> simp [h]
theorem L_xor (a b : Nat) : L (a ^^^ b) = L a ^^^ L b := by
  apply Nat.eq_of_testBit_eq
  intro i
  rw [bit_L, Nat.testBit_xor, Nat.testBit_xor, Nat.testBit_xor, bit_L, bit_L]
  cases a.testBit (i + 1) <;> cases a.testBit 0 <;> cases b.testBit (i + 1) <;> cases b.testBit 0 <;> cases Nat.testBit 3988292384 i <;> rfl
theorem Ln_xor (n a b : Nat) : Ln n (a ^^^ b) = Ln n a ^^^ Ln n b := by
  induction n with
  | zero => rfl
  | succ n ih => show L _ = L _ ^^^ L _; rw [ih, L_xor]
theorem L_zero : L 0 = 0 := rfl
theorem Ln_zero (n : Nat) : Ln n 0 = 0 := by
  induction n with
  | zero => rfl
  | succ n ih => show L _ = _; rw [ih]; rfl
theorem L_lt {c : Nat} (h : c < 4294967296) : L c < 4294967296 := by
  unfold L
  have : (c / 2) ^^^ (if c % 2 = 1 then 3988292384 else 0) < 2 ^ 32 := Nat.xor_lt_two_pow (by omega) (by split <;> omega)
  omega
theorem Ln_lt {c : Nat} (n : Nat) (h : c < 4294967296) : Ln n c < 4294967296 := by
  induction n with
  | zero => exact h
  | succ n ih => exact L_lt ih
theorem L_ker {c : Nat} (h : c < 4294967296) (h0 : L c = 0) : c = 0 := by
  have h31 : (L c).testBit 31 = false := by rw [h0]; exact Nat.zero_testBit 31
  rw [bit_L, Nat.testBit_lt_two_pow (show c < 2 ^ (31 + 1) by omega)] at h31
  have hp : Nat.testBit 3988292384 31 = true := by decide
  rw [hp] at h31
  have hb : c % 2 ≠ 1 := by
    intro hc
    rw [Nat.testBit_zero, hc] at h31
    exact absurd h31 (by decide)
  unfold L at h0
  rw [if_neg hb, Nat.xor_zero] at h0
  omega
theorem Ln_ker {c : Nat} (n : Nat) (h : c < 4294967296) (h0 : Ln n c = 0) : c = 0 := by
  induction n with
  | zero => exact h0
  | succ n ih => exact ih (L_ker (Ln_lt n h) h0)
theorem Ln_inj {a b : Nat} (n : Nat) (ha : a < 4294967296) (hb : b < 4294967296) (h : Ln n a = Ln n b) : a = b := by
  have h1 : Ln n (a ^^^ b) = 0 := by rw [Ln_xor, h, Nat.xor_self]
  have h2 : a ^^^ b < 2 ^ 32 := Nat.xor_lt_two_pow (by omega) (by omega)
  have h3 := Ln_ker n (by omega) h1
  have : (a ^^^ b) ^^^ b = 0 ^^^ b := by rw [h3]
  rwa [Nat.xor_assoc, Nat.xor_self, Nat.xor_zero, Nat.zero_xor] at this
theorem L_two (s : Nat) : L (2 * s) = s := by
  unfold L
  rw [if_neg (by omega), Nat.xor_zero]
  omega
theorem Ln_pow (n s : Nat) : Ln n (2 ^ n * s) = s := by
  induction n generalizing s with
  | zero => simp [Ln]
  | succ n ih =>
    show L (Ln n (2 ^ (n + 1) * s)) = s
    rw [Nat.pow_succ, Nat.mul_assoc, ih, L_two]
theorem xor_split (n s : Nat) : s = (s % 2 ^ n) ^^^ (2 ^ n * (s / 2 ^ n)) := by
  apply Nat.eq_of_testBit_eq
  intro i
  rw [Nat.testBit_xor, Nat.testBit_mod_two_pow, Nat.testBit_two_pow_mul, Nat.testBit_div_two_pow]
  by_cases h : i < n
  · simp [h, Nat.not_le.mpr h]
  · have : n ≤ i := by omega
    simp [h, this, Nat.sub_add_cancel this]
/-- The low n bits of s go in, the others stay. -/
theorem Ln_split (n c s : Nat) : Ln n (c ^^^ s) = Ln n (c ^^^ s % 2 ^ n) ^^^ (s / 2 ^ n) := by
  conv => lhs; rw [xor_split n s, ← Nat.xor_assoc]
  rw [Ln_xor n (c ^^^ s % 2 ^ n), Ln_pow]

/-- The sum of bytes, from c on. -/
def runL (c : Nat) (l : List Int) : Nat := l.foldl (fun c x => Ln 8 (c ^^^ x.toNat)) c
theorem runL_nil (c : Nat) : runL c [] = c := rfl
theorem runL_cons (c : Nat) (x : Int) (l : List Int) : runL c (x :: l) = runL (Ln 8 (c ^^^ x.toNat)) l := rfl
theorem runL_app (c : Nat) (a b : List Int) : runL c (a ++ b) = runL (runL c a) b := by simp [runL, List.foldl_append]
theorem runL_snoc (c : Nat) (a : List Int) (x : Int) : runL c (a ++ [x]) = Ln 8 (runL c a ^^^ x.toNat) := by rw [runL_app]; rfl
def Bytes (l : List Int) : Prop := ∀ x ∈ l, 0 ≤ x ∧ x < 256
theorem Bytes.app {a b : List Int} (ha : Bytes a) (hb : Bytes b) : Bytes (a ++ b) := fun x hx => (List.mem_append.1 hx).elim (ha x) (hb x)
theorem Bytes.left {a b : List Int} (h : Bytes (a ++ b)) : Bytes a := fun x hx => h x (List.mem_append_left _ hx)
theorem Bytes.right {a b : List Int} (h : Bytes (a ++ b)) : Bytes b := fun x hx => h x (List.mem_append_right _ hx)
theorem Bytes.take {l : List Int} (h : Bytes l) (n : Nat) : Bytes (l.take n) := fun x hx => h x (List.mem_of_mem_take hx)
theorem Bytes.drop {l : List Int} (h : Bytes l) (n : Nat) : Bytes (l.drop n) := fun x hx => h x (List.mem_of_mem_drop hx)
theorem Bytes.tail {x : Int} {l : List Int} (h : Bytes (x :: l)) : Bytes l := fun y hy => h y (List.mem_cons_of_mem _ hy)
theorem Bytes.head {x : Int} {l : List Int} (h : Bytes (x :: l)) : 0 ≤ x ∧ x < 256 := h x (by simp)
theorem bytes_nil : Bytes [] := fun _ h => by cases h
theorem xor_lt {a b : Nat} (ha : a < 4294967296) (hb : b < 4294967296) : a ^^^ b < 4294967296 := by
  have : a ^^^ b < 2 ^ 32 := Nat.xor_lt_two_pow (by omega) (by omega)
  omega
theorem runL_lt {c : Nat} {l : List Int} (hb : Bytes l) (h : c < 4294967296) : runL c l < 4294967296 := by
  induction l generalizing c with
  | nil => exact h
  | cons x l ih =>
    rw [runL_cons]
    have := hb.head
    exact ih hb.tail (Ln_lt 8 (xor_lt h (by omega)))
theorem xor_cancel {a b x : Nat} (h : a ^^^ x = b ^^^ x) : a = b := by
  have : (a ^^^ x) ^^^ x = (b ^^^ x) ^^^ x := by rw [h]
  rwa [Nat.xor_assoc, Nat.xor_self, Nat.xor_zero, Nat.xor_assoc, Nat.xor_self, Nat.xor_zero] at this
theorem runL_inj {l : List Int} (hb : Bytes l) {c d : Nat} (hc : c < 4294967296) (hd : d < 4294967296) (h : runL c l = runL d l) : c = d := by
  induction l generalizing c d with
  | nil => exact h
  | cons x l ih =>
    rw [runL_cons, runL_cons] at h
    have hx := hb.head
    have h1 := ih hb.tail (Ln_lt 8 (xor_lt hc (by omega))) (Ln_lt 8 (xor_lt hd (by omega))) h
    exact xor_cancel (Ln_inj 8 (xor_lt hc (by omega)) (xor_lt hd (by omega)) h1)
/-- The four bytes of a number, the lowest first. -/
def low4 (s : Nat) : List Int := [((s % 256 : Nat) : Int), ((s / 256 % 256 : Nat) : Int), ((s / 65536 % 256 : Nat) : Int), ((s / 16777216 % 256 : Nat) : Int)]
theorem low4_bytes (s : Nat) : Bytes (low4 s) := by
  intro x hx
  simp [low4] at hx
  omega
theorem low4_len (s : Nat) : (low4 s).length = 4 := rfl
theorem runL_low4 (c s : Nat) (h : s < 4294967296) : runL c (low4 s) = Ln 32 (c ^^^ s) := by
  have e1 := Ln_split 8 c s
  have e2 := Ln_split 8 (Ln 8 (c ^^^ s % 256)) (s / 256)
  have e3 := Ln_split 8 (Ln 8 (Ln 8 (c ^^^ s % 256) ^^^ s / 256 % 256)) (s / 65536)
  have e4 := Ln_split 8 (Ln 8 (Ln 8 (Ln 8 (c ^^^ s % 256) ^^^ s / 256 % 256) ^^^ s / 65536 % 256)) (s / 16777216)
  simp only [show (2 : Nat) ^ 8 = 256 from rfl] at e1 e2 e3 e4
  rw [show s / 256 / 256 = s / 65536 by omega] at e2
  rw [show s / 65536 / 256 = s / 16777216 by omega] at e3
  rw [show s / 16777216 / 256 = 0 by omega, Nat.xor_zero] at e4
  rw [show (32 : Nat) = 8 + (8 + (8 + 8)) from rfl, Ln_add, Ln_add, Ln_add, e1, e2, e3, e4]
  rfl
/-- A number's bytes, and back. -/
theorem low4_inj {s t : Nat} (hs : s < 4294967296) (ht : t < 4294967296) (h : low4 s = low4 t) : s = t := by
  simp only [low4, List.cons.injEq] at h
  omega
def val4 (l : List Int) : Nat := (l.getD 0 0).toNat + 256 * (l.getD 1 0).toNat + 65536 * (l.getD 2 0).toNat + 16777216 * (l.getD 3 0).toNat
theorem low4_val {l : List Int} (hb : Bytes l) (h : l.length = 4) : val4 l < 4294967296 ∧ low4 (val4 l) = l := by
  match l, h with
  | [a, b, c, d], _ =>
    have ha := hb a (by simp)
    have hb' := hb b (by simp)
    have hc := hb c (by simp)
    have hd := hb d (by simp)
    simp only [val4, low4, List.getD_cons_zero, List.getD_cons_succ, List.cons.injEq]
    refine ⟨by omega, by omega, by omega, by omega, by omega, trivial⟩
/-- All ones. -/
abbrev F : Nat := 4294967295
theorem not_xor {x : Nat} (h : x < 4294967296) : x ^^^ F = F - x := by
  have e : ((BitVec.ofNat 32 x) ^^^ (BitVec.allOnes 32)).toNat = (~~~(BitVec.ofNat 32 x)).toNat := by rw [BitVec.xor_allOnes]
  rw [BitVec.toNat_xor, BitVec.toNat_not, BitVec.toNat_ofNat, BitVec.toNat_allOnes, Nat.mod_eq_of_lt (by omega)] at e
  exact e
/-- The sum of bytes. -/
def crcS (l : List Int) : Nat := runL F l ^^^ F
theorem crcS_lt {l : List Int} (hb : Bytes l) : crcS l < 4294967296 := xor_lt (runL_lt hb (by decide)) (by decide)
def sealS (l : List Int) : List Int := l ++ low4 (crcS l)
theorem sealS_len (l : List Int) : (sealS l).length = l.length + 4 := by simp [sealS, low4]
theorem sealS_bytes {l : List Int} (h : Bytes l) : Bytes (sealS l) := h.app (low4_bytes _)
theorem run_seal {l : List Int} (hb : Bytes l) : runL F (sealS l) = Ln 32 F := by
  unfold sealS
  rw [runL_app, runL_low4 _ _ (crcS_lt hb)]
  unfold crcS
  rw [← Nat.xor_assoc, Nat.xor_self, Nat.zero_xor]
theorem crc_seal {l : List Int} (hb : Bytes l) : crcS (sealS l) = 558161692 := by
  unfold crcS
  rw [run_seal hb]
  decide
/-- What a frame answers. -/
def openS (l : List Int) : List Int × Int := if 4 ≤ l.length ∧ low4 (crcS (l.take (l.length - 4))) = l.drop (l.length - 4) then (l.take (l.length - 4), 0) else ([], 31)
theorem open_seal (l : List Int) : openS (sealS l) = (l, 0) := by
  unfold openS
  have e1 : (sealS l).length - 4 = l.length := by rw [sealS_len]; omega
  have e2 : (sealS l).take l.length = l := by simp [sealS]
  have e3 : (sealS l).drop l.length = low4 (crcS l) := by simp [sealS]
  rw [e1, e2, e3, if_pos ⟨by rw [sealS_len]; omega, rfl⟩]
theorem open_seal_of {l : List Int} (h : (openS l).2 = 0) : l = sealS (l.take (l.length - 4)) := by
  unfold openS at h
  split at h
  · rename_i hc
    unfold sealS
    rw [hc.2, List.take_append_drop]
  · exact absurd h (by decide)
theorem open_bad {l : List Int} (h : (openS l).2 ≠ 0) : openS l = ([], 31) := by
  unfold openS at h ⊢
  split
  · rename_i hc
    rw [if_pos hc] at h
    exact absurd rfl h
  · rfl

/-- The sum of so many bits that f tells. -/
def run (c : Nat) (f : Nat → Bool) : Nat → Nat
  | 0 => c
  | n + 1 => L (run c f n ^^^ (f n).toNat)
theorem run_xor (a b : Nat) (f g : Nat → Bool) (n : Nat) : run (a ^^^ b) (fun i => f i ^^ g i) n = run a f n ^^^ run b g n := by
  induction n with
  | zero => rfl
  | succ n ih =>
    show L (run (a ^^^ b) (fun i => f i ^^ g i) n ^^^ (f n ^^ g n).toNat) = _
    rw [ih]
    show _ = L _ ^^^ L _
    rw [← L_xor]
    congr 1
    have : (f n ^^ g n).toNat = (f n).toNat ^^^ (g n).toNat := by cases f n <;> cases g n <;> rfl
    rw [this]
    ac_rfl
theorem run_congr (c : Nat) {f g : Nat → Bool} (n : Nat) (h : ∀ i, i < n → f i = g i) : run c f n = run c g n := by
  induction n with
  | zero => rfl
  | succ n ih =>
    show L _ = L _
    rw [ih (fun i hi => h i (by omega)), h n (by omega)]
theorem run_add (c : Nat) (f : Nat → Bool) (a b : Nat) : run c f (a + b) = run (run c f a) (fun i => f (a + i)) b := by
  induction b with
  | zero => rfl
  | succ b ih =>
    show L (run c f (a + b) ^^^ (f (a + b)).toNat) = L _
    rw [ih]
theorem bit_parity (s m : Nat) : s / 2 ^ m = (s.testBit m).toNat ^^^ (2 * (s / 2 ^ (m + 1))) := by
  have h := xor_split 1 (s / 2 ^ m)
  rw [Nat.pow_one, Nat.div_div_eq_div_mul, ← Nat.pow_succ] at h
  rw [Nat.toNat_testBit]
  exact h
theorem run_num (c s : Nat) (f : Nat → Bool) (m : Nat) (h : ∀ i, i < m → f i = s.testBit i) : run c f m ^^^ (s / 2 ^ m) = Ln m (c ^^^ s) := by
  induction m with
  | zero => simp [run, Ln]
  | succ m ih =>
    show L (run c f m ^^^ (f m).toNat) ^^^ _ = L _
    rw [← ih (fun i hi => h i (by omega)), h m (by omega), bit_parity s m, ← Nat.xor_assoc, L_xor _ (2 * _), L_two]
/-- The bit i of bytes. -/
def bit (l : List Int) (i : Nat) : Bool := (l.getD (i / 8) 0).toNat.testBit (i % 8)
theorem runL_bits (c : Nat) (l : List Int) (hb : Bytes l) : runL c l = run c (bit l) (8 * l.length) := by
  have key : ∀ n, n ≤ l.length → runL c (l.take n) = run c (bit l) (8 * n) := by
    intro n
    induction n with
    | zero => intro _; simp [runL, run]
    | succ n ih =>
      intro hn
      have hlt : n < l.length := by omega
      rw [List.take_succ_eq_append_getElem hlt, runL_snoc, ih (by omega), Nat.mul_succ, run_add]
      have hx := hb l[n] (List.getElem_mem hlt)
      have h8 := run_num (run c (bit l) (8 * n)) (l[n]).toNat (fun i => bit l (8 * n + i)) 8 (by
        intro i hi
        unfold bit
        rw [show (8 * n + i) / 8 = n by omega, show (8 * n + i) % 8 = i by omega]
        simp [List.getD_eq_getElem?_getD, hlt])
      rw [show (l[n]).toNat / 2 ^ 8 = 0 by omega, Nat.xor_zero] at h8
      exact h8.symm
  have := key l.length (Nat.le_refl _)
  rwa [List.take_length] at this
/-- Bits that are turned in a run: from 'at' on, those of mask. -/
def pat (at_ mask : Nat) (i : Nat) : Bool := decide (at_ ≤ i) && mask.testBit (i - at_)
theorem run_pat {at_ mask m : Nat} (h : mask < 2 ^ m) : run 0 (pat at_ mask) (at_ + m) = Ln m mask := by
  have h0 : run 0 (pat at_ mask) at_ = 0 := by
    have : ∀ n, n ≤ at_ → run 0 (pat at_ mask) n = 0 := by
      intro n
      induction n with
      | zero => intro _; rfl
      | succ n ih =>
        intro hn
        show L _ = 0
        rw [ih (by omega)]
        have : pat at_ mask n = false := by simp [pat]; omega
        rw [this]
        rfl
    exact this at_ (Nat.le_refl _)
  rw [run_add, h0]
  have := run_num 0 mask (fun i => pat at_ mask (at_ + i)) m (by intro i _; simp [pat])
  rwa [Nat.div_eq_of_lt h, Nat.xor_zero, Nat.zero_xor] at this
/-- A frame in which such bits were turned is none. -/
theorem found {f x : List Int} {at_ mask m : Nat} (hf : Bytes f) (hx : Bytes x) (hl : x.length = f.length) (hm : mask < 2 ^ m) (hn : at_ + m = 8 * f.length) (h0 : mask ≠ 0) (hs : mask < 4294967296)
    (hb : ∀ i, i < 8 * f.length → bit x i = (bit f i ^^ pat at_ mask i)) (h1 : runL F f = Ln 32 F) : (openS x).2 ≠ 0 := by
  intro h
  have e := open_seal_of h
  have h2 : runL F x = Ln 32 F := by
    rw [e]
    exact run_seal (hx.take _)
  rw [runL_bits _ _ hx, hl, run_congr _ _ hb] at h2
  have h3 := run_xor F 0 (bit f) (pat at_ mask) (8 * f.length)
  rw [Nat.xor_zero, ← runL_bits _ _ hf, h1, h2, ← hn, run_pat hm] at h3
  have h4 : Ln m mask = 0 := by
    have : (Ln 32 F) ^^^ (Ln 32 F) = (Ln 32 F) ^^^ ((Ln 32 F) ^^^ Ln m mask) := by rw [← h3]
    rw [Nat.xor_self, ← Nat.xor_assoc, Nat.xor_self, Nat.zero_xor] at this
    exact this.symm
  exact h0 (Ln_ker m hs h4)
/-- One bit is turned. -/
def flip (x : List Int) (n : Nat) : List Int := x.set (n / 8) (((x.getD (n / 8) 0).toNat ^^^ 2 ^ (n % 8) : Nat) : Int)
theorem flip_len (x : List Int) (n : Nat) : (flip x n).length = x.length := by simp [flip]
theorem flip_bytes {x : List Int} (h : Bytes x) (n : Nat) (hn : n < 8 * x.length) : Bytes (flip x n) := by
  intro y hy
  rcases List.mem_or_eq_of_mem_set hy with h1 | rfl
  · exact h y h1
  · have hi : n / 8 < x.length := by omega
    have h2 := h _ (List.getElem_mem hi)
    have h3 : x.getD (n / 8) 0 = x[n / 8] := by simp [List.getD_eq_getElem?_getD, hi]
    rw [h3]
    have h4 : (2 : Nat) ^ (n % 8) < 2 ^ 8 := Nat.pow_lt_pow_right (by omega) (by omega)
    have h5 : (x[n / 8]).toNat ^^^ 2 ^ (n % 8) < 2 ^ 8 := Nat.xor_lt_two_pow (by omega) h4
    omega
theorem flip_bit {x : List Int} {n i : Nat} (hn : n < 8 * x.length) : bit (flip x n) i = (bit x i ^^ decide (i = n)) := by
  unfold bit flip
  have hi : n / 8 < x.length := by omega
  simp only [List.getD_eq_getElem?_getD, List.getElem?_set]
  by_cases h : n / 8 = i / 8
  · rw [if_pos h, if_pos hi]
    simp only [Option.getD_some, Int.toNat_natCast]
    rw [Nat.testBit_xor, Nat.testBit_two_pow, h]
    congr 1
    exact decide_eq_decide.mpr (by omega)
  · rw [if_neg h]
    have : decide (i = n) = false := by simp; intro hc; subst hc; exact h rfl
    rw [this, Bool.xor_false]
/-- The bits of mask below w are turned. -/
def flips (x : List Int) (at_ mask : Nat) : Nat → List Int
  | 0 => x
  | w + 1 => if mask.testBit w then flip (flips x at_ mask w) (at_ + w) else flips x at_ mask w
theorem flips_len (x : List Int) (at_ mask w : Nat) : (flips x at_ mask w).length = x.length := by
  induction w with
  | zero => rfl
  | succ w ih => simp only [flips]; split <;> simp [flip_len, ih]
theorem flips_bytes {x : List Int} (h : Bytes x) (at_ mask w : Nat) (hw : at_ + w ≤ 8 * x.length) : Bytes (flips x at_ mask w) := by
  induction w with
  | zero => exact h
  | succ w ih =>
    simp only [flips]
    split
    · exact flip_bytes (ih (by omega)) _ (by rw [flips_len]; omega)
    · exact ih (by omega)
theorem flips_bit {x : List Int} {at_ mask w : Nat} (hw : at_ + w ≤ 8 * x.length) (i : Nat) : bit (flips x at_ mask w) i = (bit x i ^^ (decide (at_ ≤ i ∧ i < at_ + w) && mask.testBit (i - at_))) := by
  induction w with
  | zero =>
    have h0 : decide (at_ ≤ i ∧ i < at_ + 0) = false := by simp
    rw [h0, Bool.false_and, Bool.xor_false]
    rfl
  | succ w ih =>
    have e : flips x at_ mask (w + 1) = if mask.testBit w then flip (flips x at_ mask w) (at_ + w) else flips x at_ mask w := rfl
    rw [e]
    by_cases hi : i = at_ + w
    · subst hi
      have h0 : decide (at_ ≤ at_ + w ∧ at_ + w < at_ + w) = false := by simp
      have h1 : decide (at_ ≤ at_ + w ∧ at_ + w < at_ + (w + 1)) = true := by simp
      rw [h0, Bool.false_and, Bool.xor_false] at ih
      rw [h1, Bool.true_and, Nat.add_sub_cancel_left]
      cases hb : mask.testBit w
      · simp [ih (by omega)]
      · rw [if_pos rfl, flip_bit (by rw [flips_len]; omega), ih (by omega)]
        simp
    · have h1 : decide (at_ ≤ i ∧ i < at_ + (w + 1)) = decide (at_ ≤ i ∧ i < at_ + w) := decide_eq_decide.mpr (by omega)
      rw [h1, ← ih (by omega)]
      split
      · rw [flip_bit (by rw [flips_len]; omega)]
        simp [hi]
      · rfl
theorem bits_eq {x y : List Int} (hx : Bytes x) (hy : Bytes y) (hl : x.length = y.length) (h : ∀ i, i < 8 * x.length → bit x i = bit y i) : x = y := by
  apply List.ext_getElem hl
  intro n h1 h2
  have a := hx _ (List.getElem_mem h1)
  have b := hy _ (List.getElem_mem h2)
  have e : (x[n]).toNat = (y[n]).toNat := by
    apply Nat.eq_of_testBit_eq
    intro j
    by_cases hj : j < 8
    · have := h (8 * n + j) (by omega)
      unfold bit at this
      rw [show (8 * n + j) / 8 = n by omega, show (8 * n + j) % 8 = j by omega] at this
      simpa [List.getD_eq_getElem?_getD, h1, h2] using this
    · have hp : 2 ^ 8 ≤ 2 ^ j := Nat.pow_le_pow_right (by omega) (by omega)
      rw [Nat.testBit_lt_two_pow (by omega), Nat.testBit_lt_two_pow (by omega)]
  omega
theorem flips_twice {x : List Int} (hb : Bytes x) {at_ mask w : Nat} (hw : at_ + w ≤ 8 * x.length) : flips (flips x at_ mask w) at_ mask w = x := by
  have h1 := flips_bytes hb at_ mask w hw
  have hw2 : at_ + w ≤ 8 * (flips x at_ mask w).length := by rw [flips_len]; exact hw
  refine bits_eq (flips_bytes h1 at_ mask w hw2) hb (by rw [flips_len, flips_len]) ?_
  intro i _
  rw [flips_bit hw2, flips_bit hw, Bool.xor_assoc, Bool.xor_self, Bool.xor_false]
/-- Beyond the last bit that is set nothing is turned. -/
theorem flips_more {x : List Int} {at_ mask w : Nat} (h : mask < 2 ^ w) (d : Nat) : flips x at_ mask (w + d) = flips x at_ mask w := by
  induction d with
  | zero => rfl
  | succ d ih =>
    have hp : 2 ^ w ≤ 2 ^ (w + d) := Nat.pow_le_pow_right (by omega) (by omega)
    show (if mask.testBit (w + d) then _ else _) = _
    rw [Nat.testBit_lt_two_pow (Nat.lt_of_lt_of_le h hp)]
    simpa using ih
end Go.Proofs.Ytjcpamclggbbdaa.Math
