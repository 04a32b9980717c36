/- Whatever is done with a net: it answers as the document says. -/
import Derived.Test.YtjcpamclggbbdaaNRef
import Derived.Test.YtjcpamclggbbdaaNruF
import Derived.Test.YtjcpamclggbbdaaPureNetNames
import Derived.Test.YtjcpamclggbbdaaNArgs
namespace Go.Proofs.Ytjcpamclggbbdaa.Pure
open Go.RowKit Go.Proofs.Ytjcpamclggbbdaa.PNgt Go.Proofs.Ytjcpamclggbbdaa.PNru Go.Proofs.Ytjcpamclggbbdaa.Math Go.Proofs.YtjcpamclggbbdaaW.PrintWords Go.Proofs.YtjcpamclggbbdaaW.PrintLast Go.Proofs.YtjcpamclggbbdaaW.PrintMore
/-- An item, as the document has it. -/
def cv (x : S72) : S56 := ⟨x.f0, x.f1⟩
def Inv (l : List S72) : Prop := l.length ≤ 3000 ∧ ∀ x ∈ l, Bytes x.f0 ∧ x.f0.length ≤ 140737488351232
theorem rd72m {l : List S72} {i : Int} (h0 : 0 ≤ i) (h1 : i < l.length) : rd_T72 l i ∈ l := by
  unfold rd_T72
  have : i.toNat < l.length := by omega
  rw [List.getD_eq_getElem?_getD, List.getElem?_eq_getElem this]
  simp
theorem rd52m {l : List S52} {i : Int} (h0 : 0 ≤ i) (h1 : i < l.length) : rd_T52 l i ∈ l := by
  unfold rd_T52
  have : i.toNat < l.length := by omega
  rw [List.getD_eq_getElem?_getD, List.getElem?_eq_getElem this]
  simp
theorem rd56 {l : List S72} {i : Int} (h0 : 0 ≤ i) (h1 : i < l.length) : rd_T56 (l.map cv) i = cv (rd_T72 l i) := by
  unfold rd_T56 rd_T72
  have : i.toNat < l.length := by omega
  rw [List.getD_eq_getElem?_getD, List.getD_eq_getElem?_getD, List.getElem?_map, List.getElem?_eq_getElem this]
  simp
theorem after_inv {l : List S72} {f : List Int} {b : Bool} (h : Inv l) (hb : Bytes f) (hl : f.length ≤ 140737488351232) : Inv (after l f b) := by
  unfold after
  split
  · refine ⟨by simp; omega, fun x hx => ?_⟩
    rcases List.mem_append.1 hx with hx | hx
    · exact h.2 x hx
    · rw [List.mem_singleton.1 hx]
      exact ⟨hb, hl⟩
  · exact h
theorem rput {l : List S72} {f : List Int} {b : Bool} (h : Inv l) (hl : f.length ≤ 140737488351232) : ropewayref19_Put.f (l.map cv) f b = some ((after l f b).map cv, decide (l.length < 3000)) := by
  have h1 := h.1
  unfold ropewayref19_Put.f after
  by_cases hc : l.length < 3000
  · rw [if_neg (by simp; omega), if_pos hc, decide_eq_true hc]
    simp only [Option.bind_some, List.nil_append, List.length_nil, Nat.zero_add, List.length_map]
    rw [if_pos (by omega), if_pos (by omega), if_pos (by omega)]
    simp [cv]
  · rw [if_pos (by simp; omega), if_neg hc, decide_eq_false hc]
theorem rat {l : List S72} (i : Int) : ropewayref19_At.f (l.map cv) i = if 0 ≤ i ∧ i < (l.length : Int) then some ((rd_T72 l i).f0, (rd_T72 l i).f1, true) else some ([], false, false) := by
  unfold ropewayref19_At.f
  rw [List.length_map]
  by_cases h0 : i < 0
  · rw [if_pos h0, if_neg (by omega)]
  · rw [if_neg h0]
    by_cases h1 : i ≥ (l.length : Int)
    · rw [if_pos h1, if_neg (by omega)]
    · rw [if_neg h1, if_pos (by omega), if_pos (by omega), if_pos ⟨by omega, by omega⟩, rd56 (by omega) (by omega)]
      rfl
theorem rtake {l : List S72} (h : Inv l) (i : Int) : ropewayref19_Take.f (l.map cv) i = if 0 ≤ i ∧ i < (l.length : Int) then some ((l.eraseIdx i.toNat).map cv, (rd_T72 l i).f0, true) else some (l.map cv, [], false) := by
  have h1 := h.1
  unfold ropewayref19_Take.f
  rw [rat]
  by_cases hr : 0 ≤ i ∧ i < (l.length : Int)
  · have e : wrap64 (i + 1) = i + 1 := w64 (by omega) (by omega)
    have et : (i + 1).toNat = i.toNat + 1 := by omega
    have h2 : ((l.map cv).take i.toNat).length ≤ 3000 := by rw [List.length_take, List.length_map]; omega
    have h3 : ((l.map cv).drop (i.toNat + 1)).length ≤ 3000 := by rw [List.length_drop, List.length_map]; omega
    rw [if_pos hr, if_pos hr]
    simp only [Option.bind_some, if_true, List.nil_append, List.length_nil, Nat.zero_add, List.length_map, e, et, List.length_append]
    rw [if_pos hr.1, if_pos (by omega), if_pos (by omega), if_pos (by omega), if_pos (by omega), if_pos (by omega), List.eraseIdx_eq_take_drop_succ, List.map_append, List.map_take, List.map_drop]
  · rw [if_neg hr, if_neg hr]
    simp
theorem rspoil {l : List S72} (h : Inv l) {i at_ mask : Int} (h1 : -9223372036854775808 ≤ at_ ∧ at_ < 9223372036854775808) (hm : 0 ≤ mask ∧ mask < 4294967296) :
    ∃ b l', net_Net_Spoil.f l i at_ mask = some (b, l') ∧ Inv l' ∧ Ev (fun k => ropewayref19_Spoil.f k (l.map cv) i at_ mask) (l'.map cv, b) := by
  have hn := h.1
  unfold net_Net_Spoil.f ropewayref19_Spoil.f
  rw [rat]
  by_cases hr : 0 ≤ i ∧ i < (l.length : Int)
  · obtain ⟨gb, gl⟩ := h.2 _ (rd72m hr.1 hr.2)
    rw [if_pos hr, if_pos hr]
    simp only [Option.bind_some, if_true]
    by_cases hs : (rd_T72 l i).f1 = true
    · rw [if_pos hs, hs]
      refine ⟨_, _, rfl, h, Ev.step (fun k => ?_) (Ev.now _)⟩
      simp only [ropewayref19_Spoil.j0]
      rw [if_pos trivial]
    · rw [if_neg hs, Bool.eq_false_iff.mpr hs]
      have hbb := burstS_bytes gb at_ mask
      have hbl := burstS_len (rd_T72 l i).f0 at_ mask
      have hb := burst_k gb (by omega) h1 hm 40 (by omega)
      have hrb := rburst_ gb (by omega) h1 hm
      have heq := equal_k (a := burstS (rd_T72 l i).f0 at_ mask) (b := (rd_T72 l i).f0) (by omega) ((burstS (rd_T72 l i).f0 at_ mask).length + 5) (by omega)
      rw [hb]
      simp only [Option.bind_some]
      rw [heq]
      simp only [Option.bind_some, decide_eq_true_eq]
      by_cases he : burstS (rd_T72 l i).f0 at_ mask = (rd_T72 l i).f0
      · rw [if_pos he]
        refine ⟨_, _, rfl, h, Ev.step (f := fun k => (ropewayref03_Burst.f k (rd_T72 l i).f0 at_ mask).bind fun t213 => (if (strOfNums t213).toList = (strOfNums (rd_T72 l i).f0).toList then (some (l.map cv, false)) else ((some (([] : List (S56)) : List (S56))).bind fun y216 => (if y216.length + (l.map cv).length < 4398046511104 then ((some (y216 ++ l.map cv : List (S56))).bind fun y219 => (if 0 ≤ i then (if i < (y219.length : Int) then (some ((y219.set (i : Int).toNat (⟨t213, true⟩ : S56)), true)) else (none)) else (none))) else (none))))) (fun k => ?_) (Ev.bind hrb (Ev.congr (fun k => ?_) (Ev.now _)))⟩
        · simp only [ropewayref19_Spoil.j0]
          rw [if_neg (by decide)]
        · rw [if_pos (by rw [he])]
      · rw [if_neg he]
        refine ⟨_, _, rfl, ⟨by rw [List.length_set]; exact hn, fun x hx => ?_⟩, Ev.step (f := fun k => (ropewayref03_Burst.f k (rd_T72 l i).f0 at_ mask).bind fun t213 => (if (strOfNums t213).toList = (strOfNums (rd_T72 l i).f0).toList then (some (l.map cv, false)) else ((some (([] : List (S56)) : List (S56))).bind fun y216 => (if y216.length + (l.map cv).length < 4398046511104 then ((some (y216 ++ l.map cv : List (S56))).bind fun y219 => (if 0 ≤ i then (if i < (y219.length : Int) then (some ((y219.set (i : Int).toNat (⟨t213, true⟩ : S56)), true)) else (none)) else (none))) else (none))))) (fun k => ?_) (Ev.bind hrb (Ev.congr (fun k => ?_) (Ev.now _)))⟩
        · rcases List.mem_or_eq_of_mem_set hx with hx | rfl
          · exact h.2 x hx
          · exact ⟨hbb, by show (burstS _ _ _).length ≤ _; omega⟩
        · simp only [ropewayref19_Spoil.j0]
          rw [if_neg (by decide)]
        · rw [if_neg (fun hc => he (str_inj hbb gb hc))]
          simp only [Option.bind_some, List.nil_append, List.length_nil, Nat.zero_add, List.length_map]
          rw [if_pos (by omega), if_pos hr.1, if_pos hr.2, List.map_set]
          rfl
  · rw [if_neg hr, if_neg hr]
    refine ⟨_, _, rfl, h, ?_⟩
    simp only [Option.bind_some]
    refine Ev.congr (fun k => if_neg (by decide)) (Ev.step (fun k => ?_) (Ev.now _))
    simp only [ropewayref19_Spoil.j0]
    rw [if_pos trivial]
section
variable {acts : List S52} (hA : ∀ a ∈ acts, NArgs.okAct a) (hn : acts.length ≤ 200)
theorem j2_ev (i : Int) (l : List S72) (x : List Int) (b : Bool) (hnext : Ev (fun k => ropewaylaw19_NetRuns.l0 k (l.map cv) acts (acts.length : Int) (wrap64 (i + 1)) l) true) :
    Ev (fun k => ropewaylaw19_NetRuns.j2 k (l.map cv) x x b b acts (acts.length : Int) i l) true := by
  refine Ev.step (fun k => ?_) hnext
  simp only [ropewaylaw19_NetRuns.j2, net_Net_Len.f, Option.bind_some]
  rw [if_pos trivial, if_neg (by simp), if_pos (by simp)]
theorem l1r_ev (i : Int) (l : List S72) (b : Bool) (hnext : Ev (fun k => ropewaylaw19_NetRuns.l0 k (l.map cv) acts (acts.length : Int) (wrap64 (i + 1)) l) true) : ∀ (d j : Nat) (own : List Int) (n : Nat), j + d = n → own.length = n → n < 9223372036854775807 →
    Ev (fun k => ropewaylaw19_NetRuns.l1 k (l.map cv) b b own acts (acts.length : Int) i (n : Int) (j : Int) l) true
  | 0, j, own, n, hj, ho, hb => by
    refine Ev.step (fun k => ?_) (j2_ev i l [] b hnext)
    simp only [ropewaylaw19_NetRuns.l1]
    rw [if_neg (by omega)]
  | d + 1, j, own, n, hj, ho, hb => by
    have e : wrap64 ((j : Int) + 1) = ((j + 1 : Nat) : Int) := by rw [w64 (by omega) (by omega)]; omega
    refine Ev.step (fun k => ?_) (l1r_ev i l b hnext d (j + 1) (own.set (j : Int).toNat ((rd own (j : Int) + 1) % 256)) n (by omega) (by rw [List.length_set]; exact ho) hb)
    simp only [ropewaylaw19_NetRuns.l1]
    rw [if_pos (by omega), if_pos (by omega), if_pos (by omega), e]
theorem l2r_ev (l : List S72) (h : Inv l) : ∀ (d j : Nat), j + d = l.length → Ev (fun k => ropewaylaw19_NetRuns.l2 k (l.map cv) ((l.map cv).length : Int) (j : Int) l) true
  | 0, j, hj => by
    refine Ev.step (fun k => ?_) (Ev.now _)
    simp only [ropewaylaw19_NetRuns.l2]
    rw [if_neg (by simp; omega)]
  | d + 1, j, hj => by
    have h1 := h.1
    have e : wrap64 ((j : Int) + 1) = ((j + 1 : Nat) : Int) := by rw [w64 (by omega) (by omega)]; omega
    have hr : 0 ≤ (j : Int) ∧ (j : Int) < (l.length : Int) := ⟨by omega, by omega⟩
    obtain ⟨gb, gl⟩ := h.2 _ (rd72m hr.1 hr.2)
    have hat : net_Net_At.f l (j : Int) = some ((rd_T72 l (j : Int)).f0, true, l) := by
      unfold net_Net_At.f
      rw [if_pos hr, if_pos (by omega)]
    refine Ev.step (fun k => ?_) (l2r_ev l h d (j + 1) (by omega))
    simp only [ropewaylaw19_NetRuns.l2]
    rw [if_pos (by simp; omega), hat]
    simp only [Option.bind_some, if_true]
    rw [if_pos hr.1, if_pos (by simp; omega), rd56 hr.1 hr.2]
    simp only [cv, if_true, e]
include hA hn in
theorem l0r_ev : ∀ (d i : Nat) (l : List S72), i + d = acts.length → Inv l → Ev (fun k => ropewaylaw19_NetRuns.l0 k (l.map cv) acts (acts.length : Int) (i : Int) l) true
  | 0, i, l, hi, hl => by
    refine Ev.step (fun k => ?_) (l2r_ev l hl l.length 0 (by omega))
    simp only [ropewaylaw19_NetRuns.l0]
    rw [if_neg (by omega)]
    rfl
  | d + 1, i, l, hi, hl => by
    have e : wrap64 ((i : Int) + 1) = ((i + 1 : Nat) : Int) := by rw [w64 (by omega) (by omega)]; omega
    have hnext : ∀ l', Inv l' → Ev (fun k => ropewaylaw19_NetRuns.l0 k (l'.map cv) acts (acts.length : Int) (wrap64 ((i : Int) + 1)) l') true := fun l' h' => by
      rw [e]
      exact l0r_ev d (i + 1) l' (by omega) h'
    have hlt : (i : Int) < (acts.length : Int) := by omega
    obtain ⟨o1, o2, _, _, o5, o6⟩ := hA _ (rd52m (by omega) hlt)
    have hi1 := hl.1
    generalize ha : rd_T52 acts (i : Int) = a at o1 o2 o5 o6
    by_cases h0 : a.f0 = 0
    · have hput : net_Net_Put.f l a.f4 = some (decide (l.length < 3000), after l a.f4 false) := by
        unfold net_Net_Put.f
        rw [if_pos (by omega)]
      refine Ev.step (fun k => ?_) (l1r_ev (acts := acts) (i : Int) (after l a.f4 false) (decide (l.length < 3000)) (hnext _ (after_inv hl o2 o1)) a.f4.length 0 a.f4 a.f4.length (by omega) rfl (by omega))
      simp only [ropewaylaw19_NetRuns.l0]
      rw [if_pos hlt, if_pos (by omega), if_pos hlt, ha, if_pos h0, if_pos (by omega), hput]
      simp only [Option.bind_some]
      rw [rput hl o1]
      rfl
    by_cases h1 : a.f0 = 1
    · by_cases hr : 0 ≤ a.f1 ∧ a.f1 < (l.length : Int)
      · obtain ⟨gb, gl⟩ := hl.2 _ (rd72m hr.1 hr.2)
        have ht : net_Net_Take.f l a.f1 = some ((rd_T72 l a.f1).f0, true, l.eraseIdx a.f1.toNat) := by
          unfold net_Net_Take.f
          rw [if_pos hr, if_pos (by omega)]
        have hl' : Inv (l.eraseIdx a.f1.toNat) := ⟨by rw [List.length_eraseIdx_of_lt (by omega)]; omega, fun x hx => hl.2 x (List.mem_of_mem_eraseIdx hx)⟩
        refine Ev.step (fun k => ?_) (j2_ev (acts := acts) (i : Int) (l.eraseIdx a.f1.toNat) (rd_T72 l a.f1).f0 true (hnext _ hl'))
        simp only [ropewaylaw19_NetRuns.l0]
        rw [if_pos hlt, if_pos (by omega), if_pos hlt, ha, if_neg h0, if_pos h1, ht]
        simp only [Option.bind_some]
        rw [rtake hl, if_pos hr]
        rfl
      · have ht : net_Net_Take.f l a.f1 = some ([], false, l) := by
          unfold net_Net_Take.f
          rw [if_neg hr]
        refine Ev.step (fun k => ?_) (j2_ev (acts := acts) (i : Int) l [] false (hnext _ hl))
        simp only [ropewaylaw19_NetRuns.l0]
        rw [if_pos hlt, if_pos (by omega), if_pos hlt, ha, if_neg h0, if_pos h1, ht]
        simp only [Option.bind_some]
        rw [rtake hl, if_neg hr]
        rfl
    by_cases h2 : a.f0 = 2
    · by_cases hr : 0 ≤ a.f1 ∧ a.f1 < (l.length : Int)
      · obtain ⟨gb, gl⟩ := hl.2 _ (rd72m hr.1 hr.2)
        have hd : net_Net_Double.f l a.f1 = some (decide (l.length < 3000), after l (rd_T72 l a.f1).f0 (rd_T72 l a.f1).f1) := by
          unfold net_Net_Double.f
          rw [if_pos hr, if_pos (by omega)]
        refine Ev.step (fun k => ?_) (j2_ev (acts := acts) (i : Int) (after l (rd_T72 l a.f1).f0 (rd_T72 l a.f1).f1) [] (decide (l.length < 3000)) (hnext _ (after_inv hl gb gl)))
        simp only [ropewaylaw19_NetRuns.l0]
        rw [if_pos hlt, if_pos (by omega), if_pos hlt, ha, if_neg h0, if_neg h1, if_pos h2, hd]
        simp only [Option.bind_some]
        rw [rat, if_pos hr]
        simp only [Option.bind_some, if_true]
        rw [rput hl gl]
        rfl
      · have hd : net_Net_Double.f l a.f1 = some (false, l) := by
          unfold net_Net_Double.f
          rw [if_neg hr]
        refine Ev.step (fun k => ?_) (j2_ev (acts := acts) (i : Int) l [] false (hnext _ hl))
        simp only [ropewaylaw19_NetRuns.l0]
        rw [if_pos hlt, if_pos (by omega), if_pos hlt, ha, if_neg h0, if_neg h1, if_pos h2, hd]
        simp only [Option.bind_some]
        rw [rat, if_neg hr]
        rfl
    by_cases h3 : a.f0 = 3
    · obtain ⟨b, l', hs, hl', hrs⟩ := rspoil hl (i := a.f1) o5 o6
      refine Ev.step (f := fun k => (ropewayref19_Spoil.f k (l.map cv) a.f1 a.f2 a.f3).bind fun c => ropewaylaw19_NetRuns.j2 k c.1 [] [] b c.2 acts (acts.length : Int) (i : Int) l') (fun k => ?_) (Ev.bind hrs (j2_ev (acts := acts) (i : Int) l' [] b (hnext _ hl')))
      simp only [ropewaylaw19_NetRuns.l0]
      rw [if_pos hlt, if_pos (by omega), if_pos hlt, ha, if_neg h0, if_neg h1, if_neg h2, if_pos h3, hs]
      rfl
    by_cases h4 : a.f0 = 4
    · by_cases hr : 0 ≤ a.f1 ∧ a.f1 < (l.length : Int)
      · obtain ⟨gb, gl⟩ := hl.2 _ (rd72m hr.1 hr.2)
        have hat : net_Net_At.f l a.f1 = some ((rd_T72 l a.f1).f0, true, l) := by
          unfold net_Net_At.f
          rw [if_pos hr, if_pos (by omega)]
        refine Ev.step (fun k => ?_) (j2_ev (acts := acts) (i : Int) l (rd_T72 l a.f1).f0 true (hnext _ hl))
        simp only [ropewaylaw19_NetRuns.l0]
        rw [if_pos hlt, if_pos (by omega), if_pos hlt, ha, if_neg h0, if_neg h1, if_neg h2, if_neg h3, if_pos h4, hat]
        simp only [Option.bind_some]
        rw [rat, if_pos hr]
        rfl
      · have hat : net_Net_At.f l a.f1 = some ([], false, l) := by
          unfold net_Net_At.f
          rw [if_neg hr]
        refine Ev.step (fun k => ?_) (j2_ev (acts := acts) (i : Int) l [] false (hnext _ hl))
        simp only [ropewaylaw19_NetRuns.l0]
        rw [if_pos hlt, if_pos (by omega), if_pos hlt, ha, if_neg h0, if_neg h1, if_neg h2, if_neg h3, if_pos h4, hat]
        simp only [Option.bind_some]
        rw [rat, if_neg hr]
        rfl
    · refine Ev.step (fun k => ?_) (j2_ev (acts := acts) (i : Int) l [] false (hnext _ hl))
      simp only [ropewaylaw19_NetRuns.l0]
      rw [if_pos hlt, if_pos (by omega), if_pos hlt, ha, if_neg h0, if_neg h1, if_neg h2, if_neg h3, if_neg h4]
end
theorem netRuns (acts : List S52) (hA : ∀ a ∈ acts, NArgs.okAct a) : ∃ k, ropewaylaw19_NetRuns.f k acts = some true := by
  have h : Ev (fun k => ropewaylaw19_NetRuns.f k acts) true := by
    unfold ropewaylaw19_NetRuns.f
    refine Ev.bind (Ev.of (fun k => ropewaylaw19_netAlive.mono k) netAlive1) ?_
    simp only [if_true]
    by_cases h1 : (acts.length : Int) > 200
    · exact Ev.congr (fun k => if_pos h1) (Ev.now _)
    · refine Ev.congr (fun k => if_neg h1) ?_
      exact l0r_ev hA (by omega) acts.length 0 [] (by omega) ⟨by simp, fun x hx => by cases hx⟩
  exact h.rounds
end Go.Proofs.Ytjcpamclggbbdaa.Pure
