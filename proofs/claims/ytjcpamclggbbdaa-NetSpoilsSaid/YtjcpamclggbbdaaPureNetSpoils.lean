/- Of what is sealed and put into a net, whatever is done: what comes out is opened as it was put, or it was spoilt, and isn't opened. -/
import Derived.Test.YtjcpamclggbbdaaNPure
import Derived.Test.YtjcpamclggbbdaaNetD
import Derived.Test.YtjcpamclggbbdaaPureNetNames
namespace Go.Proofs.Ytjcpamclggbbdaa.Pure
open Go.RowKit Go.Proofs.Ytjcpamclggbbdaa.PNgt Go.Proofs.Ytjcpamclggbbdaa.Math Go.Proofs.YtjcpamclggbbdaaW.PrintWords Go.Proofs.YtjcpamclggbbdaaW.PrintLast Go.Proofs.YtjcpamclggbbdaaW.PrintMore
/-- An item is as it was sealed, or spoilt and not to be opened. -/
def Good (texts : List (List Int)) (x : S72) : Prop := Bytes x.f0 ∧ x.f0.length ≤ 504 ∧ ((x.f1 = false ∧ ∃ b ∈ texts, x.f0 = sealS b) ∨ (x.f1 = true ∧ (openS x.f0).2 ≠ 0))
def AllGood (texts : List (List Int)) (l : List S72) : Prop := ∀ x ∈ l, Good texts x
def OkText (b : List Int) : Prop := Bytes b
def OkAct (a : S52) : Prop := (-9223372036854775808 ≤ a.f2 ∧ a.f2 < 9223372036854775808) ∧ (0 ≤ a.f3 ∧ a.f3 < 4294967296)
theorem rd72_mem {l : List S72} {i : Int} (h0 : 0 ≤ i) (h1 : i < l.length) : rd_T72 l i ∈ l := by
  unfold rd_T72
  have : i.toNat < l.length := by omega
  rw [List.getD_eq_getElem?_getD, List.getElem?_eq_getElem this]
  simp
theorem rd52_mem {l : List S52} {i : Int} (h0 : 0 ≤ i) (h1 : i < l.length) : rd_T52 l i ∈ l := by
  unfold rd_T52
  have : i.toNat < l.length := by omega
  rw [List.getD_eq_getElem?_getD, List.getElem?_eq_getElem this]
  simp
theorem after_good {texts : List (List Int)} {l : List S72} {f : List Int} {b : Bool} (h : AllGood texts l) (hx : Good texts (S72.mk f b)) : AllGood texts (after l f b) := by
  unfold after
  split
  · intro x hm
    rcases List.mem_append.1 hm with hm | hm
    · exact h x hm
    · rw [List.mem_singleton.1 hm]
      exact hx
  · exact h
theorem ev_const {α : Type} {g : Nat → Option α} {r : α} {o : Option α} (h : o = some r) (hg : ∀ k, g k = o) : Ev g r := Ev.congr (fun k => (hg k).trans h) (Ev.now _)
section
variable {texts : List (List Int)} {acts : List S52} (hT : ∀ b ∈ texts, OkText b) (hA : ∀ a ∈ acts, OkAct a) (hn : acts.length ≤ 200) (hm : texts.length ≤ 60)
include hm in
theorem l2_ev (b : List Int) (i : Int) (l : List S72) (hnext : Ev (fun k => ropewaylaw19_NetSpoils.l1 k texts acts (acts.length : Int) (wrap64 (i + 1)) l) true) : ∀ (d j : Nat) (found : Bool), j + d = texts.length → (found = true ∨ b ∈ texts.drop j) →
    Ev (fun k => ropewaylaw19_NetSpoils.l2 k texts b found acts (acts.length : Int) i texts (texts.length : Int) (j : Int) l) true
  | 0, j, found, hj, hf => by
    have hf' : found = true := by
      rcases hf with h | h
      · exact h
      · rw [List.drop_eq_nil_of_le (by omega)] at h
        cases h
    subst hf'
    refine Ev.step (fun k => ?_) hnext
    simp only [ropewaylaw19_NetSpoils.l2]
    rw [if_neg (by omega)]
    simp
  | d + 1, j, found, hj, hf => by
    have hlt : j < texts.length := by omega
    have e : wrap64 ((j : Int) + 1) = ((j + 1 : Nat) : Int) := by rw [w64 (by omega) (by omega)]; omega
    cases found
    · have hb : b ∈ texts.drop j := by
        rcases hf with h | h
        · cases h
        · exact h
      rw [rdL_drop hlt] at hb
      refine Ev.step (fun k => ?_) (l2_ev b i l hnext d (j + 1) ((strOfNums (rd_L1 texts (j : Int))).toList == (strOfNums b).toList) (by omega) ?_)
      · simp only [ropewaylaw19_NetSpoils.l2]
        rw [if_pos (by omega), if_pos (by omega), if_pos (by omega), if_neg (by simp), e]
      · rcases List.mem_cons.1 hb with h | h
        · left
          rw [h]
          simp
        · exact .inr h
    · refine Ev.step (fun k => ?_) (l2_ev b i l hnext d (j + 1) true (by omega) (.inl rfl))
      simp only [ropewaylaw19_NetSpoils.l2]
      rw [if_pos (by omega), if_pos (by omega), if_pos (by omega), if_pos trivial, e]
include hm in
theorem j4_ev (i : Int) (l : List S72) (a b c m : Int) (fr : List Int) (hl : AllGood texts l) (hnext : ∀ l', AllGood texts l' → Ev (fun k => ropewaylaw19_NetSpoils.l1 k texts acts (acts.length : Int) (wrap64 (i + 1)) l') true) :
    Ev (fun k => ropewaylaw19_NetSpoils.j4 k texts acts (acts.length : Int) i l a b c m fr) true := by
  have fin : ∀ (x : List Int) (q : Bool) (l' : List S72), AllGood texts l' → (q = true ∨ x ∈ texts) → Ev (fun k => ropewaylaw19_NetSpoils.j5 k texts x q acts (acts.length : Int) i l') true := fun x q l' h1 h2 => by
    refine Ev.step (fun k => ?_) (l2_ev hm x i l' (hnext l' h1) texts.length 0 q (by omega) (by simpa using h2))
    simp only [ropewaylaw19_NetSpoils.j5]
    rfl
  by_cases ha : a = 1
  · by_cases hr : 0 ≤ b ∧ b < (l.length : Int)
    · obtain ⟨gb, gl, gx⟩ := hl _ (rd72_mem hr.1 hr.2)
      have ht : net_Net_Take.f l b = some ((rd_T72 l b).f0, true, l.eraseIdx b.toNat) := by
        unfold net_Net_Take.f
        rw [if_pos hr, if_pos (by omega)]
      have hl' : AllGood texts (l.eraseIdx b.toNat) := fun x hx => hl x (List.mem_of_mem_eraseIdx hx)
      refine Ev.step (f := fun k => (crc_Open.f k (rd_T72 l b).f0).bind fun bt279 => ropewaylaw19_NetSpoils.j5 k texts bt279.1 (bt279.2 != 0) acts (acts.length : Int) i (l.eraseIdx b.toNat)) (fun k => ?_) ?_
      · simp only [ropewaylaw19_NetSpoils.j4]
        rw [if_pos ha, ht]
        simp only [Option.bind_some, if_true]
      · refine Ev.bind (open_ gb (by omega)) (fin _ _ _ hl' ?_)
        rcases gx with ⟨_, t, ht', hs⟩ | ⟨_, hs⟩
        · rw [hs, open_seal]
          exact .inr ht'
        · left
          simpa using hs
    · have ht : net_Net_Take.f l b = some ([], false, l) := by
        unfold net_Net_Take.f
        rw [if_neg hr]
      refine Ev.step (f := fun k => (crc_Open.f k []).bind fun bt279 => ropewaylaw19_NetSpoils.j5 k texts bt279.1 true acts (acts.length : Int) i l) (fun k => ?_) ?_
      · simp only [ropewaylaw19_NetSpoils.j4]
        rw [if_pos ha, ht]
        simp only [Option.bind_some, Bool.false_eq_true, if_false]
      · exact Ev.bind (open_ (fun x hx => by cases hx) (by simp)) (fin _ _ _ hl (.inl rfl))
  · refine Ev.step (fun k => ?_) (hnext l hl)
    simp only [ropewaylaw19_NetSpoils.j4]
    rw [if_neg ha]
include hT hm in
theorem j3_ev (i : Int) (l : List S72) (a b c m : Int) (fr : List Int) (hc : -9223372036854775808 ≤ c ∧ c < 9223372036854775808) (hmk : 0 ≤ m ∧ m < 4294967296) (hl : AllGood texts l) (hnext : ∀ l', AllGood texts l' → Ev (fun k => ropewaylaw19_NetSpoils.l1 k texts acts (acts.length : Int) (wrap64 (i + 1)) l') true) :
    Ev (fun k => ropewaylaw19_NetSpoils.j3 k texts acts (acts.length : Int) i l a b c m fr) true := by
  have j4 := fun l' h => j4_ev (acts := acts) hm i l' a b c m fr h hnext
  by_cases ha : a = 3
  · by_cases hr : 0 ≤ b ∧ b < (l.length : Int)
    · obtain ⟨gb, gl, gx⟩ := hl _ (rd72_mem hr.1 hr.2)
      have hat : net_Net_At.f l b = some ((rd_T72 l b).f0, true, l) := by
        unfold net_Net_At.f
        rw [if_pos hr, if_pos (by omega)]
      have keep : net_Net_Spoil.f l b c m = some (false, l) → Ev (fun k => ropewaylaw19_NetSpoils.j3 k texts acts (acts.length : Int) i l a b c m fr) true := fun hs => by
        refine Ev.step (f := fun k => (crc_Open.f k (rd_T72 l b).f0).bind fun bt259 => ropewaylaw19_NetSpoils.j4 k texts acts (acts.length : Int) i l a b c m fr) (fun k => ?_) (Ev.bind (open_ gb (by omega)) (j4 l hl))
        simp only [ropewaylaw19_NetSpoils.j3]
        rw [if_pos ha, hat]
        simp only [Option.bind_some, hs, Bool.false_eq_true, if_false]
      rcases gx with ⟨g1, t, ht', hs⟩ | ⟨g1, hs⟩
      · have hb := burst_k gb (by omega) hc hmk 40 (by omega)
        have hbl := burstS_len (rd_T72 l b).f0 c m
        have hbb := burstS_bytes gb c m
        have heq := equal_k (a := burstS (rd_T72 l b).f0 c m) (b := (rd_T72 l b).f0) (by omega) ((burstS (rd_T72 l b).f0 c m).length + 5) (by omega)
        have hsp : net_Net_Spoil.f l b c m = if burstS (rd_T72 l b).f0 c m = (rd_T72 l b).f0 then some (false, l) else some (true, l.set b.toNat (S72.mk (burstS (rd_T72 l b).f0 c m) true)) := by
          unfold net_Net_Spoil.f
          rw [if_pos hr, if_neg (by rw [g1]; simp), hb]
          simp only [Option.bind_some]
          rw [heq]
          simp only [Option.bind_some, decide_eq_true_eq]
        by_cases he : burstS (rd_T72 l b).f0 c m = (rd_T72 l b).f0
        · rw [if_pos he] at hsp
          exact keep hsp
        · rw [if_neg he] at hsp
          have hfound : openS (burstS (rd_T72 l b).f0 c m) = ([], 31) := by
            rw [hs] at he ⊢
            exact burst_found (hT t ht') hmk he
          have hl2 : AllGood texts (l.set b.toNat (S72.mk (burstS (rd_T72 l b).f0 c m) true)) := by
            intro x hx
            rcases List.mem_or_eq_of_mem_set hx with hx | rfl
            · exact hl x hx
            · exact ⟨hbb, by show (burstS _ _ _).length ≤ 504; omega, .inr ⟨rfl, by show (openS (burstS _ _ _)).2 ≠ 0; rw [hfound]; decide⟩⟩
          have hrd : rd_T72 (l.set b.toNat (S72.mk (burstS (rd_T72 l b).f0 c m) true)) b = S72.mk (burstS (rd_T72 l b).f0 c m) true := by
            conv => lhs; unfold rd_T72
            rw [List.getD_eq_getElem?_getD, List.getElem?_set_self (by omega)]
            rfl
          have hat2 : net_Net_At.f (l.set b.toNat (S72.mk (burstS (rd_T72 l b).f0 c m) true)) b = some (burstS (rd_T72 l b).f0 c m, true, l.set b.toNat (S72.mk (burstS (rd_T72 l b).f0 c m) true)) := by
            unfold net_Net_At.f
            rw [hrd, List.length_set, if_pos hr, if_pos (by show (burstS _ _ _).length < _; omega)]
          refine Ev.step (f := fun k => (crc_Open.f k (rd_T72 l b).f0).bind fun bt259 => (crc_Open.f k (burstS (rd_T72 l b).f0 c m)).bind fun bt270 => if bt259.2 = 0 then (if bt270.2 = 0 then some false else ropewaylaw19_NetSpoils.j4 k texts acts (acts.length : Int) i (l.set b.toNat (S72.mk (burstS (rd_T72 l b).f0 c m) true)) a b c m fr) else some false) (fun k => ?_) (Ev.bind (open_ gb (by omega)) (Ev.bind (open_ hbb (by omega)) ?_))
          · simp only [ropewaylaw19_NetSpoils.j3]
            rw [if_pos ha, hat]
            simp only [Option.bind_some, hsp, if_true, hat2]
          · rw [hfound, hs, open_seal]
            rw [← hs]
            refine Ev.congr (fun k => ?_) (j4 _ hl2)
            rw [if_pos rfl, if_neg (by decide)]
      · refine keep ?_
        unfold net_Net_Spoil.f
        rw [if_pos hr, if_pos g1]
    · have hat : net_Net_At.f l b = some ([], false, l) := by
        unfold net_Net_At.f
        rw [if_neg hr]
      have hs : net_Net_Spoil.f l b c m = some (false, l) := by
        unfold net_Net_Spoil.f
        rw [if_neg hr]
      refine Ev.step (f := fun k => (crc_Open.f k []).bind fun bt259 => ropewaylaw19_NetSpoils.j4 k texts acts (acts.length : Int) i l a b c m fr) (fun k => ?_) (Ev.bind (open_ (fun x hx => by cases hx) (by simp)) (j4 l hl))
      simp only [ropewaylaw19_NetSpoils.j3]
      rw [if_pos ha, hat]
      simp only [Option.bind_some, hs, Bool.false_eq_true, if_false]
  · refine Ev.step (fun k => ?_) (j4 l hl)
    simp only [ropewaylaw19_NetSpoils.j3]
    rw [if_neg ha]
include hT hA hn hm in
theorem l1_ev : ∀ (d i : Nat) (l : List S72), i + d = acts.length → AllGood texts l → Ev (fun k => ropewaylaw19_NetSpoils.l1 k texts acts (acts.length : Int) (i : Int) l) true
  | 0, i, l, hi, hl => by
    refine Ev.step (fun k => ?_) (Ev.now _)
    simp only [ropewaylaw19_NetSpoils.l1]
    rw [if_neg (by omega)]
  | d + 1, i, l, hi, hl => by
    have e : wrap64 ((i : Int) + 1) = ((i + 1 : Nat) : Int) := by rw [w64 (by omega) (by omega)]; omega
    have hnext : ∀ l', AllGood texts l' → Ev (fun k => ropewaylaw19_NetSpoils.l1 k texts acts (acts.length : Int) (wrap64 ((i : Int) + 1)) l') true := fun l' h' => by
      rw [e]
      exact l1_ev d (i + 1) l' (by omega) h'
    have hlt : (i : Int) < (acts.length : Int) := by omega
    obtain ⟨o1, o2⟩ := hA _ (rd52_mem (by omega) hlt)
    have j3 := fun l' h => j3_ev (acts := acts) hT hm (i : Int) l' (rd_T52 acts (i : Int)).f0 (rd_T52 acts (i : Int)).f1 _ _ (rd_T52 acts (i : Int)).f4 o1 o2 h hnext
    by_cases h2 : (rd_T52 acts (i : Int)).f0 = 2
    · obtain ⟨q, l', hd, hl'⟩ : ∃ q l', net_Net_Double.f l (rd_T52 acts (i : Int)).f1 = some (q, l') ∧ AllGood texts l' := by
        unfold net_Net_Double.f
        by_cases hr : 0 ≤ (rd_T52 acts (i : Int)).f1 ∧ (rd_T52 acts (i : Int)).f1 < (l.length : Int)
        · have g := hl _ (rd72_mem hr.1 hr.2)
          rw [if_pos hr, if_pos (by have := g.2.1; omega)]
          exact ⟨_, _, rfl, after_good hl g⟩
        · rw [if_neg hr]
          exact ⟨_, _, rfl, hl⟩
      refine Ev.step (fun k => ?_) (j3 l' hl')
      simp only [ropewaylaw19_NetSpoils.l1]
      rw [if_pos hlt, if_pos (by omega), if_pos hlt, if_pos h2, hd]
      rfl
    · refine Ev.step (fun k => ?_) (j3 l hl)
      simp only [ropewaylaw19_NetSpoils.l1]
      rw [if_pos hlt, if_pos (by omega), if_pos hlt, if_neg h2]
include hT hA hn hm in
theorem l0_ev : ∀ (d i : Nat) (l : List S72), i + d = texts.length → AllGood texts l → Ev (fun k => ropewaylaw19_NetSpoils.l0 k texts acts texts (texts.length : Int) (i : Int) l) true
  | 0, i, l, hi, hl => by
    refine Ev.step (fun k => ?_) (l1_ev hT hA hn hm acts.length 0 l (by omega) hl)
    simp only [ropewaylaw19_NetSpoils.l0]
    rw [if_neg (by omega)]
    rfl
  | d + 1, i, l, hi, hl => by
    have hlt : i < texts.length := by omega
    have e : wrap64 ((i : Int) + 1) = ((i + 1 : Nat) : Int) := by rw [w64 (by omega) (by omega)]; omega
    have hmem := rdL_mem hlt
    have hb := hT _ hmem
    generalize hbt : rd_L1 texts (i : Int) = b at hmem hb
    by_cases h5 : (b.length : Int) > 500
    · refine Ev.step (fun k => ?_) (Ev.now _)
      simp only [ropewaylaw19_NetSpoils.l0]
      rw [if_pos (by omega), if_pos (by omega), if_pos (by omega), hbt, if_pos h5]
    · have hsl := sealS_len b
      have hput : net_Net_Put.f l (sealS b) = some (decide (l.length < 3000), after l (sealS b) false) := by
        unfold net_Net_Put.f
        rw [if_pos (by omega)]
      refine Ev.step (f := fun k => (crc_Seal.f k b).bind fun t245 => (net_Net_Put.f l t245).bind fun bt248 => ropewaylaw19_NetSpoils.l0 k texts acts texts (texts.length : Int) ((i + 1 : Nat) : Int) bt248.2) (fun k => ?_) (Ev.bind (seal_ hb (by omega)) ?_)
      · simp only [ropewaylaw19_NetSpoils.l0]
        rw [if_pos (by omega), if_pos (by omega), if_pos (by omega), hbt, if_neg h5, e]
      · rw [hput]
        simp only [Option.bind_some]
        exact l0_ev d (i + 1) _ (by omega) (after_good hl ⟨sealS_bytes hb, by show (sealS b).length ≤ 504; omega, .inl ⟨rfl, b, hmem, rfl⟩⟩)
end
theorem netSpoils (texts : List (List Int)) (hT0 : ∀ p ∈ texts, p.length ≤ 140737488351232 ∧ Bytes p) (acts : List S52) (hA : ∀ a ∈ acts, OkAct a) : ∃ k, ropewaylaw19_NetSpoils.f k texts acts = some true := by
  have hT : ∀ b ∈ texts, OkText b := fun b hb => (hT0 b hb).2
  have h : Ev (fun k => ropewaylaw19_NetSpoils.f k texts acts) true := by
    unfold ropewaylaw19_NetSpoils.f
    refine Ev.bind (Ev.of (fun k => ropewaylaw19_netAlive.mono k) netAlive1) ?_
    simp only [if_true]
    have out : Ev (fun k => ropewaylaw19_NetSpoils.j0 k texts acts true) true := Ev.step (fun k => by simp only [ropewaylaw19_NetSpoils.j0]; exact if_pos trivial) (Ev.now _)
    by_cases h1 : (texts.length : Int) > 60
    · exact Ev.congr (fun k => if_pos h1) out
    · refine Ev.congr (fun k => if_neg h1) ?_
      by_cases h2 : (acts.length : Int) > 200
      · rw [decide_eq_true h2]
        exact out
      · rw [decide_eq_false h2]
        refine Ev.step (fun k => ?_) (l0_ev hT hA (by omega) (by omega) texts.length 0 [] (by omega) (fun x hx => by cases hx))
        simp only [ropewaylaw19_NetSpoils.j0]
        rw [if_neg (by simp)]
        rfl
  exact h.rounds
end Go.Proofs.Ytjcpamclggbbdaa.Pure
