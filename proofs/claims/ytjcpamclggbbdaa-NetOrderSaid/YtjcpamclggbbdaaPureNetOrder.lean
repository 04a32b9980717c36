/- Taken one by one from the first place on, frames come out of a net in the order in which they were put, one that was doubled behind all. -/
import Derived.Test.YtjcpamclggbbdaaNEvs
import Derived.Test.YtjcpamclggbbdaaNetE
import Derived.Test.YtjcpamclggbbdaaPureNetNames
namespace Go.Proofs.Ytjcpamclggbbdaa.Pure
open Go.RowKit Go.Proofs.Ytjcpamclggbbdaa.PNgt Go.Proofs.Ytjcpamclggbbdaa.Math Go.Proofs.YtjcpamclggbbdaaW.PrintWords Go.Proofs.YtjcpamclggbbdaaW.PrintLast Go.Proofs.YtjcpamclggbbdaaW.PrintMore
/-- What is on its way, where these frames were put. -/
def its (fs : List (List Int)) : List S72 := fs.map fun f => S72.mk f false
def Small (fs : List (List Int)) : Prop := ∀ f ∈ fs, f.length < 140737488355328
theorem its_len (fs : List (List Int)) : (its fs).length = fs.length := by simp [its]
theorem its_rd {fs : List (List Int)} {i : Int} (h0 : 0 ≤ i) (h1 : i < fs.length) : rd_T72 (its fs) i = S72.mk (rd_L1 fs i) false := by
  unfold rd_T72 rd_L1 its
  have : i.toNat < fs.length := by omega
  simp [List.getD_eq_getElem?_getD, this]
theorem rdL_memI {fs : List (List Int)} {i : Int} (h0 : 0 ≤ i) (h1 : i < fs.length) : rd_L1 fs i ∈ fs := by
  obtain ⟨n, rfl⟩ : ∃ n : Nat, i = (n : Int) := ⟨i.toNat, by omega⟩
  exact rdL_mem (by omega)
theorem order_take (ws : List (List Int)) (hs : Small ws) (hn : ws.length ≤ 300) : ∀ (d i : Nat), i + d = ws.length → Ev (fun k => ropewaylaw19_NetOrder.l1 k ws (ws.length : Int) (i : Int) (its (ws.drop i))) true
  | 0, i, hi => by
    refine Ev.step (fun k => ?_) (Ev.now _)
    simp only [ropewaylaw19_NetOrder.l1]
    rw [if_neg (by omega), List.drop_eq_nil_of_le (by omega)]
    rfl
  | d + 1, i, hi => by
    have hlt : i < ws.length := by omega
    have e : wrap64 ((i : Int) + 1) = ((i + 1 : Nat) : Int) := by rw [w64 (by omega) (by omega)]; omega
    have ht : net_Net_Take.f (its (ws.drop i)) 0 = some (rd_L1 ws (i : Int), true, its (ws.drop (i + 1))) := by
      have hm := hs _ (rdL_mem hlt)
      rw [rdL_drop hlt]
      generalize rd_L1 ws (i : Int) = f at hm ⊢
      unfold net_Net_Take.f
      rw [if_pos ⟨by omega, by first | (simp [its]; done) | (simp [its]; omega)⟩]
      exact if_pos hm
    refine Ev.step (fun k => ?_) (order_take ws hs hn d (i + 1) (by omega))
    simp only [ropewaylaw19_NetOrder.l1]
    rw [if_pos (by omega), if_pos (by omega), if_pos (by omega), ht]
    simp only [Option.bind_some, if_true]
    rw [e]
section
variable {fs : List (List Int)} (hs : Small fs) (hn : fs.length ≤ 200) (a : Int)
include hs hn
theorem order_end : Ev (fun k => ropewaylaw19_NetOrder.l0 k fs a fs (fs.length : Int) (fs.length : Int) (its fs)) true := by
  by_cases hr : 0 ≤ a ∧ a < (fs.length : Int)
  · have hm := rdL_memI hr.1 hr.2
    have hd : net_Net_Double.f (its fs) a = some (true, its (fs ++ [rd_L1 fs a])) := by
      unfold net_Net_Double.f after
      rw [its_len, if_pos hr, its_rd hr.1 hr.2, if_pos (hs _ hm), if_pos (by omega), decide_eq_true (by omega)]
      simp [its]
    have hs2 : Small (fs ++ [rd_L1 fs a]) := fun f hf => by
      rcases List.mem_append.1 hf with h | h
      · exact hs f h
      · rw [List.mem_singleton.1 h]
        exact hs _ hm
    have h1 := order_take (fs ++ [rd_L1 fs a]) hs2 (by simp; omega) (fs ++ [rd_L1 fs a]).length 0 (by omega)
    refine Ev.step (f := fun k => ropewaylaw19_NetOrder.j1 k fs a true false (its (fs ++ [rd_L1 fs a]))) (fun k => ?_) (Ev.step (f := fun k => ropewaylaw19_NetOrder.j2 k (fs ++ [rd_L1 fs a]) (its (fs ++ [rd_L1 fs a]))) (fun k => ?_) (Ev.step (fun k => ?_) h1))
    · simp only [ropewaylaw19_NetOrder.l0]
      rw [if_neg (by omega), hd]
      simp only [Option.bind_some]
      rw [if_pos (by omega), decide_eq_true hr.2]
      rfl
    · simp only [ropewaylaw19_NetOrder.j1]
      rw [if_neg (by simp), if_pos trivial, if_pos hr.1, if_pos hr.2]
    · simp only [ropewaylaw19_NetOrder.j2]
      rfl
  · have hd : net_Net_Double.f (its fs) a = some (false, its fs) := by
      unfold net_Net_Double.f
      rw [its_len, if_neg hr]
    have h1 := order_take fs hs (by omega) fs.length 0 (by omega)
    refine Ev.step (f := fun k => ropewaylaw19_NetOrder.j1 k fs a false false (its fs)) (fun k => ?_) (Ev.step (f := fun k => ropewaylaw19_NetOrder.j2 k fs (its fs)) (fun k => ?_) (Ev.step (fun k => ?_) h1))
    · simp only [ropewaylaw19_NetOrder.l0]
      rw [if_neg (by omega), hd]
      simp only [Option.bind_some]
      by_cases ha : a ≥ 0
      · rw [if_pos ha, decide_eq_false (fun h => hr ⟨ha, h⟩)]
        rfl
      · rw [if_neg ha]
        rfl
    · simp only [ropewaylaw19_NetOrder.j1]
      rw [if_neg (by simp), if_neg (by simp)]
    · simp only [ropewaylaw19_NetOrder.j2]
      rfl
theorem order_put : ∀ (d i : Nat), i + d = fs.length → Ev (fun k => ropewaylaw19_NetOrder.l0 k fs a fs (fs.length : Int) (i : Int) (its (fs.take i))) true
  | 0, i, hi => by
    obtain rfl : i = fs.length := by omega
    rw [List.take_length]
    exact order_end hs hn a
  | d + 1, i, hi => by
    have hlt : i < fs.length := by omega
    have e : wrap64 ((i : Int) + 1) = ((i + 1 : Nat) : Int) := by rw [w64 (by omega) (by omega)]; omega
    have hm := hs _ (rdL_mem hlt)
    have hput : net_Net_Put.f (its (fs.take i)) (([] : List Int) ++ rd_L1 fs (i : Int)) = some (true, its (fs.take (i + 1))) := by
      have et : fs.take (i + 1) = fs.take i ++ [rd_L1 fs (i : Int)] := by
        rw [List.take_add_one]
        simp [rd_L1, List.getD_eq_getElem?_getD, hlt]
      rw [et, List.nil_append]
      unfold net_Net_Put.f after
      have hl : (its (fs.take i)).length < 3000 := by rw [its_len, List.length_take]; omega
      rw [if_pos hm, if_pos hl, decide_eq_true hl]
      simp [its]
    refine Ev.step (fun k => ?_) (order_put d (i + 1) (by omega))
    simp only [ropewaylaw19_NetOrder.l0]
    rw [if_pos (by omega), if_pos (by omega), if_pos (by omega)]
    simp only [Option.bind_some]
    rw [if_pos (by simpa using hm), hput]
    simp only [Option.bind_some]
    rw [e]
end
theorem netOrder (fs : List (List Int)) (hT : ∀ p ∈ fs, p.length ≤ 140737488351232 ∧ Bytes p) (a : Int) (_ : (Lit.int .i64 a).wf = true) : ∃ k, ropewaylaw19_NetOrder.f k fs a = some true := by
  have hs : Small fs := fun f hf => by have := (hT f hf).1; omega
  have h : Ev (fun k => ropewaylaw19_NetOrder.f k fs a) true := by
    unfold ropewaylaw19_NetOrder.f
    refine Ev.bind (Ev.of (fun k => ropewaylaw19_netAlive.mono k) netAlive1) ?_
    simp only [if_true]
    by_cases h1 : (fs.length : Int) > 200
    · exact Ev.congr (fun k => if_pos h1) (Ev.now _)
    · refine Ev.congr (fun k => if_neg h1) ?_
      exact Ev.congr (fun k => rfl) (order_put hs (by omega) a fs.length 0 (by omega))
  exact h.rounds
end Go.Proofs.Ytjcpamclggbbdaa.Pure
