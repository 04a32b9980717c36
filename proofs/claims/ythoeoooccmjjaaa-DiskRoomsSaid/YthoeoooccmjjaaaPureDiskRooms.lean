/- DiskRooms: a text is there just if it has room; refused, it leaves the disk as it was. -/
import Derived.Test.YthoeoooccmjjaaaEvs
import Derived.Test.YthoeoooccmjjaaaPDskx6
namespace Go.Proofs.Ythoeoooccmjjaaa.Pure
open Go.RowKit Go.Proofs.Ythoeoooccmjjaaa.PDsk Go.Proofs.Ythoeoooccmjjaaa.Args Go.Proofs.YthoeoooccmjjaaaW.PrintWords Go.Proofs.YthoeoooccmjjaaaW.PrintLast Go.Proofs.YthoeoooccmjjaaaW.PrintMore
theorem rooms_judge (room : Int) (ls : List (List Int)) (i : Int) (k : Nat) (d : ByteArray) (fits : Bool) (e : Int) (r : Int) (hd : d.size ≤ 60000) (he : ((e == 0) != fits) = false) (h01 : e = 0 ∨ e = 81) :
    ropewaylaw08_DiskRooms.j2 (k + 1) room d fits e ls (ls.length : Int) i d 0 r (-1) false = ropewaylaw08_DiskRooms.l0 k room d ls (ls.length : Int) (wrap64 (i + 1)) d 0 r (-1) false := by
  simp only [ropewaylaw08_DiskRooms.j2]
  rw [if_neg (by rw [he]; simp)]
  rcases h01 with rfl | rfl
  · rw [if_pos rfl, bytes_eq _ _ _ _ hd]
    simp only [Option.bind_some, str_nb, if_true, safe_eq, off_eq]
    rw [if_neg (by simp)]
  · rw [if_neg (by decide), if_pos rfl, bytes_eq _ _ _ _ hd]
    simp only [Option.bind_some, str_nb, if_true, safe_eq, off_eq]
    rw [if_neg (by simp)]
theorem str_nil : strOfNums [] = (⟨#[]⟩ : ByteArray) := rfl
theorem app_nil (d : ByteArray) : d ++ strOfNums [] = d := by
  apply ByteArray.ext
  simp [str_nil]
theorem rooms_loop (room : Int) (r : Int) (hroom : r = mx 0 (mn room 60000)) (ls : List (List Int)) (hin : ∀ p ∈ ls, inB p) (hl : ls.length ≤ 60) : ∀ (m : Nat) (i : Int) (k : Nat) (d : ByteArray),
    0 ≤ i → i + m = ls.length → 3 * m < k → (d.size : Int) ≤ r → ropewaylaw08_DiskRooms.l0 k room d ls (ls.length : Int) i d 0 r (-1) false = some true
  | 0, i, k, d, h0, hi, hk, _ => by
    obtain ⟨k, rfl⟩ : ∃ q, k = q + 1 := ⟨k - 1, by omega⟩
    simp only [ropewaylaw08_DiskRooms.l0]
    rw [if_neg (by omega)]
  | m + 1, i, k, d, h0, hi, hk, hd => by
    obtain ⟨k, rfl⟩ : ∃ q, k = q + 3 := ⟨k - 3, by omega⟩
    have hlt : i < (ls.length : Int) := by omega
    have hb := hin _ (rd_mem h0 hlt)
    have hr : 0 ≤ r ∧ r ≤ 60000 ∧ (r = 0 ∨ r = mn room 60000) ∧ (room ≤ 0 ∨ r = mn room 60000) := by rw [hroom]; unfold mx mn; (repeat' split) <;> omega
    have hG : Gd d 0 r (-1) := ⟨by omega, by omega, by omega, by omega, by omega, by omega, by omega⟩
    have ih : ∀ d' : ByteArray, (d'.size : Int) ≤ r → ropewaylaw08_DiskRooms.l0 k room d' ls (ls.length : Int) (wrap64 (i + 1)) d' 0 r (-1) false = some true := fun d' h' => by
      rw [w64 (x := i + 1) (by omega) (by omega)]
      exact rooms_loop room r hroom ls hin hl m (i + 1) k d' (by omega) (by omega) (by omega) h'
    show ropewaylaw08_DiskRooms.l0 (k + 2 + 1) room d ls (ls.length : Int) i d 0 r (-1) false = some true
    simp only [ropewaylaw08_DiskRooms.l0]
    rw [if_pos hlt, if_pos h0, if_pos hlt]
    generalize rd_L2 ls i = b at hb ⊢
    by_cases h9 : ((b.length : Nat) : Int) > 2000
    · rw [if_pos h9]
    · rw [if_neg h9]
      by_cases hz : (b.length : Int) = 0
      · rw [if_pos hz]
        obtain rfl : b = [] := List.eq_nil_of_length_eq_zero (by omega)
        show ropewaylaw08_DiskRooms.j1 (k + 1 + 1) room d [] true ls (ls.length : Int) i d 0 r (-1) false = some true
        simp only [ropewaylaw08_DiskRooms.j1, Option.bind_some, List.nil_append, List.length_nil, Nat.zero_add]
        rw [if_pos (by omega), app_free hG hb (by unfold mx; simp only [List.length_nil]; split <;> omega)]
        simp only [Option.bind_some, if_true]
        rw [if_pos (by rw [strOfNums_size]; simp only [List.length_nil]; omega), rooms_judge _ _ _ _ _ _ _ _ (by rw [size_app]; simp only [List.length_nil]; omega) (by decide) (.inl rfl), app_nil]
        exact ih d hd
      · rw [if_neg hz, w64 (x := (d.size : Int) + _) (by omega) (by omega)]
        by_cases hf : (d.size : Int) + (b.length : Int) ≤ mn room 60000
        · rw [decide_eq_true hf]
          have hroom2 : (d.size : Int) + (b.length : Int) ≤ r := by
            rcases hr.2.2.2 with h | h
            · have : mn room 60000 ≤ 0 := by unfold mn; split <;> omega
              omega
            · omega
          show ropewaylaw08_DiskRooms.j1 (k + 1 + 1) room d b true ls (ls.length : Int) i d 0 r (-1) false = some true
          simp only [ropewaylaw08_DiskRooms.j1, Option.bind_some, List.nil_append, List.length_nil, Nat.zero_add]
          rw [if_pos (by omega), app_free hG hb (by unfold mx; split <;> omega)]
          simp only [Option.bind_some, if_true]
          have hsz := size_app d b
          rw [if_pos (by rw [strOfNums_size]; omega), rooms_judge _ _ _ _ _ _ _ _ (by omega) (by decide) (.inl rfl)]
          exact ih _ (by omega)
        · rw [decide_eq_false hf]
          show ropewaylaw08_DiskRooms.j1 (k + 1 + 1) room d b false ls (ls.length : Int) i d 0 r (-1) false = some true
          simp only [ropewaylaw08_DiskRooms.j1, Option.bind_some, List.nil_append, List.length_nil, Nat.zero_add]
          rw [if_pos (by omega), app_full hG hb (by rcases hr.2.2.1 with h | h <;> (unfold mx; split <;> omega))]
          simp only [Option.bind_some, Bool.false_eq_true, if_false]
          rw [rooms_judge _ _ _ _ _ _ _ _ (by omega) (by decide) (.inr rfl)]
          exact ih _ hd
theorem diskRooms (room : Int) (_ : (Lit.int .i64 room).wf = true) (ls : List (List Int)) (hin0 : ∀ p ∈ ls, p.length ≤ 140737488351232 ∧ inB p) : ∃ k, ropewaylaw08_DiskRooms.f k room ls = some true := by
  have hin := fun p hp => (hin0 p hp).2
  refine ⟨200, ?_⟩
  unfold ropewaylaw08_DiskRooms.f
  rw [alive]
  simp only [Option.bind_some, if_true]
  by_cases hl : (ls.length : Int) > 60
  · rw [if_pos hl]
  · rw [if_neg hl, new_eq]
    simp only [Option.bind_some]
    have hz : ((⟨#[]⟩ : ByteArray).size : Int) ≤ mx 0 (mn room 60000) := by
      have : (⟨#[]⟩ : ByteArray).size = 0 := rfl
      rw [this]
      unfold mx
      split <;> omega
    exact rooms_loop room _ rfl ls hin (by omega) ls.length 0 200 _ (by omega) (by omega) (by omega) hz
end Go.Proofs.Ythoeoooccmjjaaa.Pure
