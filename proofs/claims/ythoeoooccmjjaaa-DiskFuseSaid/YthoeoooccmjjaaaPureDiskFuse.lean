/- DiskFuse: just so many bytes are written as the fuse says. -/
import Derived.Test.YthoeoooccmjjaaaEvs
import Derived.Test.YthoeoooccmjjaaaPDskx5
namespace Go.Proofs.Ythoeoooccmjjaaa.Pure
open Go.RowKit Go.Proofs.Ythoeoooccmjjaaa.PDsk Go.Proofs.Ythoeoooccmjjaaa.Args Go.Proofs.YthoeoooccmjjaaaW.PrintWords Go.Proofs.YthoeoooccmjjaaaW.PrintLast Go.Proofs.YthoeoooccmjjaaaW.PrintMore
/-- What holds from round to round. -/
def FInv (n sum : Int) (d : ByteArray) (f : Int) (o : Bool) : Prop :=
  Gd d 0 60000 f ∧ ((o = false ∧ sum ≤ n ∧ (d.size : Int) = sum ∧ f = n - sum) ∨ (o = true ∧ n < sum ∧ (d.size : Int) = n))
theorem fuse_end (n : Int) (ls : List (List Int)) (i : Int) (hi : ¬ i < ls.length) (k : Nat) (sum : Int) (d : ByteArray) (f : Int) (o : Bool) (h : FInv n sum d f o) :
    ropewaylaw08_DiskFuse.l0 (k + 1) n sum ls (ls.length : Int) i d 0 60000 f o = some true := by
  obtain ⟨hG, h⟩ := h
  have hd := hG.1
  simp only [ropewaylaw08_DiskFuse.l0]
  rw [if_neg hi, bytes_eq _ _ _ _ hd]
  simp only [Option.bind_some, nb_length]
  have hmin : (d.size : Int) = mn sum n := by unfold mn; rcases h with h | h <;> split <;> omega
  rw [if_pos hmin, off_eq]
  simp only [Option.bind_some]
  rcases h with ⟨rfl, _⟩ | ⟨rfl, _⟩
  · rw [if_neg (by simp)]
  · rw [if_pos rfl, bytes_eq _ _ _ _ hd]
    simp only [Option.bind_some]
    have hs : disk_Disk_Sync.f d 0 60000 f true = some (d, 0, 60000, f, true) := rfl
    have hc : disk_Disk_Cut.f d 0 60000 f true 0 = some (d, 0, 60000, f, true) := by unfold disk_Disk_Cut.f; rw [if_pos hG, if_pos rfl]
    have ha : disk_Disk_Append.f d 0 60000 f true ([] : List Int) = some (82, d, 0, 60000, f, true) := app_off hG (fun _ h => by cases h)
    rw [hs]
    simp only [Option.bind_some]
    rw [hc]
    simp only [Option.bind_some]
    rw [ha]
    simp only [Option.bind_some, if_true, safe_eq]
    rw [bytes_eq _ _ _ _ hd]
    simp
theorem fuse_loop (n : Int) (hn : 0 ≤ n) (hn2 : n < 9223372036854775808) (ls : List (List Int)) (hin : ∀ p ∈ ls, inB p) (hl : ls.length ≤ 60) : ∀ (m : Nat) (i : Int) (k : Nat) (sum : Int) (d : ByteArray) (f : Int) (o : Bool),
    0 ≤ i → i + m = ls.length → m < k → 0 ≤ sum → sum ≤ 900 * i → FInv n sum d f o → ropewaylaw08_DiskFuse.l0 k n sum ls (ls.length : Int) i d 0 60000 f o = some true
  | 0, i, k, sum, d, f, o, h0, hi, hk, _, _, h => by
    obtain ⟨k, rfl⟩ : ∃ q, k = q + 1 := ⟨k - 1, by omega⟩
    exact fuse_end n ls i (by omega) k sum d f o h
  | m + 1, i, k, sum, d, f, o, h0, hi, hk, hs0, hs, h => by
    obtain ⟨k, rfl⟩ : ∃ q, k = q + 1 := ⟨k - 1, by omega⟩
    have hlt : i < (ls.length : Int) := by omega
    have hb := hin _ (rd_mem h0 hlt)
    simp only [ropewaylaw08_DiskFuse.l0]
    rw [if_pos hlt, if_pos h0, if_pos hlt]
    by_cases h9 : ((rd_L2 ls i).length : Int) > 900
    · rw [if_pos h9]
    · rw [if_neg h9]
      simp only [Option.bind_some, List.nil_append, List.length_nil, Nat.zero_add]
      rw [if_pos (by omega), w64 (x := sum + _) (by omega) (by omega), w64 (x := i + 1) (by omega) (by omega)]
      obtain ⟨hG, h⟩ := h
      obtain ⟨g1, g2, g3, g4, g5, g6, g7⟩ := id hG
      generalize rd_L2 ls i = b at hb h9 ⊢
      rcases h with ⟨rfl, h1, h2, h3⟩ | ⟨rfl, h1, h2⟩
      · have hroom : (b.length : Int) ≤ mx 0 (60000 - (d.size : Int)) := by unfold mx; split <;> omega
        by_cases hf : (b.length : Int) ≤ f
        · rw [app_less hG hb hroom (by omega) hf]
          simp only [Option.bind_some, off_eq]
          rw [if_neg (by have : ¬ sum + (b.length : Int) > n := by omega
                         simp [this])]
          have hsz := size_app d b
          exact fuse_loop n hn hn2 ls hin hl m (i + 1) k _ _ _ _ (by omega) (by omega) (by omega) (by omega) (by omega) ⟨⟨by omega, by omega, by omega, by omega, by omega, by omega, by omega⟩, .inl ⟨rfl, by omega, by omega, by omega⟩⟩
        · rw [app_blow hG hb hroom (by omega) (by omega)]
          simp only [Option.bind_some, off_eq]
          rw [if_neg (by have : sum + (b.length : Int) > n := by omega
                         simp [this])]
          have hsz := size_app d (b.take f.toNat)
          have htl : (b.take f.toNat).length = f.toNat := by rw [List.length_take]; omega
          exact fuse_loop n hn hn2 ls hin hl m (i + 1) k _ _ _ _ (by omega) (by omega) (by omega) (by omega) (by omega) ⟨⟨by omega, by omega, by omega, by omega, by omega, by omega, by omega⟩, .inr ⟨rfl, by omega, by omega⟩⟩
      · rw [app_off hG hb]
        simp only [Option.bind_some, off_eq]
        rw [if_neg (by have : sum + (b.length : Int) > n := by omega
                       simp [this])]
        exact fuse_loop n hn hn2 ls hin hl m (i + 1) k _ _ _ _ (by omega) (by omega) (by omega) (by omega) (by omega) ⟨hG, .inr ⟨rfl, by omega, by omega⟩⟩
theorem diskFuse (ls : List (List Int)) (hin0 : ∀ p ∈ ls, p.length ≤ 140737488351232 ∧ inB p) (n : Int) (hn0 : (Lit.int .i64 n).wf = true) : ∃ k, ropewaylaw08_DiskFuse.f k ls n = some true := by
  have hin := fun p hp => (hin0 p hp).2
  have hn := (wf_i64 hn0).2
  refine ⟨100, ?_⟩
  unfold ropewaylaw08_DiskFuse.f
  rw [alive]
  simp only [Option.bind_some, if_true]
  by_cases hl : (ls.length : Int) > 60
  · rw [if_pos hl]
    rfl
  · rw [if_neg hl]
    simp only [ropewaylaw08_DiskFuse.j0]
    by_cases h0 : n < 0
    · rw [if_pos (by simp [h0])]
    · rw [if_neg (by simp [h0]), new_eq]
      simp only [Option.bind_some, fuse_eq]
      have e1 : mx 0 (mn 60000 60000) = 60000 := by decide
      have e2 : mx (-1) n = n := by unfold mx; split <;> omega
      rw [e1, e2]
      refine fuse_loop n (by omega) hn ls hin (by omega) ls.length 0 99 0 _ _ _ (by omega) (by omega) (by omega) (by omega) (by omega) ⟨⟨by simp [ByteArray.size], by omega, by simp, by omega, by omega, by omega, by omega⟩, .inl ⟨rfl, by omega, by simp [ByteArray.size], by omega⟩⟩
end Go.Proofs.Ythoeoooccmjjaaa.Pure
