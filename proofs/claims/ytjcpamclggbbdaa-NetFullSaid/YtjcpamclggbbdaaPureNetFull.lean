/- So many have room in a net, and no more; they come out in the order in which they went in. -/
import Derived.Test.YtjcpamclggbbdaaNetC
import Derived.Test.YtjcpamclggbbdaaPureNetNames
namespace Go.Proofs.Ytjcpamclggbbdaa.Pure
open Go.RowKit Go.Proofs.Ytjcpamclggbbdaa.PNgt Go.Proofs.YtjcpamclggbbdaaW.PrintWords Go.Proofs.YtjcpamclggbbdaaW.PrintLast Go.Proofs.YtjcpamclggbbdaaW.PrintMore
theorem nw64 {x : Int} (h0 : -9223372036854775808 ≤ x) (h1 : x < 9223372036854775808) : wrap64 x = x := by unfold wrap64; omega
/-- The frame that is put in the k-th place. -/
def fr (k : Nat) : S72 := S72.mk [(k : Int) % 256, ((k / 256 : Nat) : Int) % 256] false
def frs (a n : Nat) : List S72 := (List.range' a n).map fr
theorem frs_len (a n : Nat) : (frs a n).length = n := by simp [frs]
theorem frs_snoc (n : Nat) : frs 0 n ++ [fr n] = frs 0 (n + 1) := by
  unfold frs
  rw [List.range'_concat]
  simp
theorem frs_cons (a n : Nat) : frs a (n + 1) = fr a :: frs (a + 1) n := by
  unfold frs
  rw [List.range'_succ]
  rfl
theorem tdiv256 (k : Nat) : Int.tdiv (k : Int) 256 = ((k / 256 : Nat) : Int) := by
  rw [Int.tdiv_eq_ediv_of_nonneg (by omega)]
  rfl
theorem put_eq (k m : Nat) (hk : m ≤ k) (h : k < 3000 → m = k) (hm : m ≤ 3000) (h2 : 3000 ≤ k → m = 3000) : net_Net_Put.f (frs 0 m) [(k : Int) % 256, (wrap64 (Int.tdiv (k : Int) 256)) % 256] = some (decide (k < 3000), frs 0 (if k < 3000 then k + 1 else 3000)) := by
  rw [tdiv256]
  unfold net_Net_Put.f after
  rw [if_pos (by simp), frs_len]
  by_cases hlt : k < 3000
  · obtain rfl := h hlt
    rw [if_pos hlt, if_pos hlt, ← frs_snoc]
    have : wrap64 ((m / 256 : Nat) : Int) = ((m / 256 : Nat) : Int) := nw64 (by omega) (by omega)
    rw [this]
    rfl
  · obtain rfl := h2 (by omega)
    rw [if_neg (by omega), if_neg hlt]
    simp [hlt]
theorem full_take (x0 : Int) (hx : 0 ≤ x0) : ∀ (d : Nat) (i n k : Nat), (i : Int) + d = mn x0 40 → d ≤ n → d < k → ropewaylaw19_NetFull.l1 k x0 (i : Int) (frs i n) = some true
  | 0, i, n, k, hi, hn, hk => by
    obtain ⟨k, rfl⟩ : ∃ q, k = q + 1 := ⟨k - 1, by omega⟩
    simp only [ropewaylaw19_NetFull.l1]
    rw [if_neg (by omega)]
  | d + 1, i, n, k, hi, hn, hk => by
    obtain ⟨k, rfl⟩ : ∃ q, k = q + 1 := ⟨k - 1, by omega⟩
    obtain ⟨n, rfl⟩ : ∃ q, n = q + 1 := ⟨n - 1, by omega⟩
    have hi40 : (i : Int) < 40 := by unfold mn at hi; split at hi <;> omega
    have ht : net_Net_Take.f (frs i (n + 1)) 0 = some ([(i : Int) % 256, ((i / 256 : Nat) : Int) % 256], true, frs (i + 1) n) := by
      rw [frs_cons]
      unfold net_Net_Take.f
      rw [if_pos ⟨by omega, by first | (simp; done) | (simp; omega)⟩]
      rfl
    simp only [ropewaylaw19_NetFull.l1]
    rw [if_pos (by omega), ht]
    simp only [Option.bind_some, if_true]
    have hw : wrap64 ((i / 256 : Nat) : Int) = ((i / 256 : Nat) : Int) := nw64 (by omega) (by omega)
    rw [if_pos (by simp), if_pos (by rfl), if_pos (by simp), tdiv256, hw, if_pos (by rfl), nw64 (x := (i : Int) + 1) (by omega) (by omega)]
    exact full_take x0 hx d (i + 1) n k (by omega) (by omega) (by omega)
theorem full_end (x0 : Int) (hx : 0 ≤ x0) (hx2 : x0 ≤ 3100) (k : Nat) (hk : 50 ≤ k) (m : Nat) (hm : (m : Int) = mn x0 3000) : ropewaylaw19_NetFull.l0 (k + 1) x0 x0 (frs 0 m) = some true := by
  obtain ⟨k, rfl⟩ : ∃ q, k = q + 1 := ⟨k - 1, by omega⟩
  simp only [ropewaylaw19_NetFull.l0]
  have hl : net_Net_Len.f (frs 0 m) = some ((m : Int), frs 0 m) := by unfold net_Net_Len.f; rw [frs_len]
  rw [if_neg (by omega), hl]
  simp only [Option.bind_some]
  rw [if_pos hm]
  have key : ∀ (n : Nat), mn x0 40 ≤ (n : Int) → ropewaylaw19_NetFull.l1 k x0 0 (frs 0 n) = some true := fun n hn => by
    have h0 : 0 ≤ mn x0 40 ∧ mn x0 40 ≤ 40 := by unfold mn; split <;> omega
    exact full_take x0 hx (mn x0 40).toNat 0 n k (by omega) (by omega) (by omega)
  have hm40 : mn x0 40 ≤ (m : Int) := by rw [hm]; unfold mn; (repeat' split) <;> omega
  by_cases h0 : x0 > 0
  · have hm0 : 0 < m := by unfold mn at hm; split at hm <;> omega
    have hd : net_Net_Double.f (frs 0 m) 0 = some (decide (x0 < 3000), after (frs 0 m) (fr 0).f0 (fr 0).f1) := by
      unfold net_Net_Double.f
      rw [frs_len, if_pos ⟨by omega, by omega⟩]
      obtain ⟨m', rfl⟩ : ∃ q, m = q + 1 := ⟨m - 1, by omega⟩
      have hr : rd_T72 (frs 0 (m' + 1)) 0 = fr 0 := by rw [frs_cons]; rfl
      rw [hr, if_pos (by decide)]
      have : decide (m' + 1 < 3000) = decide (x0 < 3000) := by
        rw [decide_eq_decide]
        unfold mn at hm
        split at hm <;> omega
      rw [this]
    rw [hd]
    simp only [Option.bind_some]
    rw [if_pos h0]
    simp only [bne_self_eq_false, ropewaylaw19_NetFull.j2]
    rw [if_neg (by simp)]
    unfold after
    split
    · obtain ⟨m', rfl⟩ : ∃ q, m = q + 1 := ⟨m - 1, by omega⟩
      have hgen : ∀ (d i n : Nat) (rest : List S72) (k : Nat), (i : Int) + d = mn x0 40 → d ≤ n → d < k → ropewaylaw19_NetFull.l1 k x0 (i : Int) (frs i n ++ rest) = some true := by
        intro d
        induction d with
        | zero =>
          intro i n rest k hi hn hk
          obtain ⟨k, rfl⟩ : ∃ q, k = q + 1 := ⟨k - 1, by omega⟩
          simp only [ropewaylaw19_NetFull.l1]
          rw [if_neg (by omega)]
        | succ d ih =>
          intro i n rest k hi hn hk
          obtain ⟨k, rfl⟩ : ∃ q, k = q + 1 := ⟨k - 1, by omega⟩
          obtain ⟨n, rfl⟩ : ∃ q, n = q + 1 := ⟨n - 1, by omega⟩
          have hi40 : (i : Int) < 40 := by unfold mn at hi; split at hi <;> omega
          have ht : net_Net_Take.f (frs i (n + 1) ++ rest) 0 = some ([(i : Int) % 256, ((i / 256 : Nat) : Int) % 256], true, frs (i + 1) n ++ rest) := by
            rw [frs_cons]
            unfold net_Net_Take.f
            rw [if_pos ⟨by omega, by simp; omega⟩]
            rfl
          simp only [ropewaylaw19_NetFull.l1]
          rw [if_pos (by omega), ht]
          simp only [Option.bind_some, if_true]
          have hw : wrap64 ((i / 256 : Nat) : Int) = ((i / 256 : Nat) : Int) := nw64 (by omega) (by omega)
          rw [if_pos (by simp), if_pos (by rfl), if_pos (by simp), tdiv256, hw, if_pos (by rfl), nw64 (x := (i : Int) + 1) (by omega) (by omega)]
          exact ih (i + 1) n rest k (by omega) (by omega) (by omega)
      have h40 : 0 ≤ mn x0 40 ∧ mn x0 40 ≤ 40 := by unfold mn; split <;> omega
      exact hgen (mn x0 40).toNat 0 (m' + 1) _ k (by omega) (by omega) (by omega)
    · exact key m hm40
  · have hx0 : x0 = 0 := by omega
    subst hx0
    obtain rfl : m = 0 := by unfold mn at hm; split at hm <;> omega
    have hd : net_Net_Double.f (frs 0 0) 0 = some (false, frs 0 0) := rfl
    rw [hd]
    simp only [Option.bind_some]
    rw [if_neg h0]
    simp only [bne_self_eq_false, ropewaylaw19_NetFull.j2]
    rw [if_neg (by simp)]
    exact key 0 (by decide)
theorem full_put (x0 : Int) (hx : 0 ≤ x0) (hx2 : x0 ≤ 3100) : ∀ (d i m k : Nat), (i : Int) + d = x0 → m ≤ 3000 → (i < 3000 → m = i) → (3000 ≤ i → m = 3000) → d + 60 < k → ropewaylaw19_NetFull.l0 k x0 (i : Int) (frs 0 m) = some true
  | 0, i, m, k, hi, hm, h1, h2, hk => by
    obtain ⟨k, rfl⟩ : ∃ q, k = q + 1 := ⟨k - 1, by omega⟩
    obtain rfl : x0 = (i : Int) := by omega
    exact full_end _ hx hx2 k (by omega) m (by unfold mn; split <;> omega)
  | d + 1, i, m, k, hi, hm, h1, h2, hk => by
    obtain ⟨k, rfl⟩ : ∃ q, k = q + 1 := ⟨k - 1, by omega⟩
    simp only [ropewaylaw19_NetFull.l0]
    rw [if_pos (by omega), put_eq i m (by by_cases h : i < 3000 <;> omega) h1 hm h2]
    simp only [Option.bind_some]
    have he : decide (i < 3000) = decide ((i : Int) < 3000) := by rw [decide_eq_decide]; omega
    rw [he]
    simp only [bne_self_eq_false]
    rw [if_neg (by simp), nw64 (x := (i : Int) + 1) (by omega) (by omega)]
    exact full_put x0 hx hx2 d (i + 1) _ k (by omega) (by split <;> omega) (by intro h; split <;> omega) (by intro h; split <;> omega) (by omega)
theorem NetFull : ropewaylaw19_NetFull.Pure := by
  intro x0 _
  obtain ⟨K, hK⟩ : ∃ K : Nat, 3900 < K := ⟨3999, by omega⟩
  refine ⟨K + 1, ?_⟩
  unfold ropewaylaw19_NetFull.f
  rw [netAlive_ok K]
  simp only [Option.bind_some, if_true]
  by_cases h0 : x0 < 0
  · rw [if_pos h0]
    rfl
  · rw [if_neg h0]
    by_cases h1 : x0 > 3100
    · rw [decide_eq_true h1]
      rfl
    · rw [decide_eq_false h1]
      simp only [ropewaylaw19_NetFull.j0]
      rw [if_neg (by simp)]
      have hn : net_New.f = some (frs 0 0) := rfl
      rw [hn]
      exact full_put x0 (by omega) (by omega) x0.toNat 0 0 K (by omega) (by omega) (fun _ => rfl) (by intro h; omega) (by omega)
end Go.Proofs.Ytjcpamclggbbdaa.Pure
