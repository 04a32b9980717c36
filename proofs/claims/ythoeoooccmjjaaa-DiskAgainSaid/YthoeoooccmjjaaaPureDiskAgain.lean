/- DiskAgain: a crash behind a crash changes nothing; synced, a crash changes nothing at all. -/
import Derived.Test.YthoeoooccmjjaaaEvs2
import Derived.Test.YthoeoooccmjjaaaPDskx7
namespace Go.Proofs.Ythoeoooccmjjaaa.Pure
open Go.RowKit Go.Proofs.Ythoeoooccmjjaaa.PDsk Go.Proofs.Ythoeoooccmjjaaa.Args Go.Proofs.YthoeoooccmjjaaaW.PrintWords Go.Proofs.YthoeoooccmjjaaaW.PrintLast Go.Proofs.YthoeoooccmjjaaaW.PrintMore
theorem again_end (ls : List S34) (i : Int) (hi : ¬ i < ls.length) (k : Nat) (p q : Int) (d : ByteArray) (s f : Int) (o : Bool) (hG : Gd d s 60000 f) (hd : d.size ≤ 50000) :
    ropewaylaw08_DiskAgain.l0 (k + 2) ls (ls.length : Int) i p q d s 60000 f o = some true := by
  show ropewaylaw08_DiskAgain.l0 (k + 1 + 1) ls (ls.length : Int) i p q d s 60000 f o = some true
  simp only [ropewaylaw08_DiskAgain.l0]
  rw [if_neg hi]
  obtain ⟨d1, hc, hG1, hsz⟩ := crash_any o p hG
  rw [hc]
  simp only [Option.bind_some]
  have hd1 : d1.size ≤ 60000 := by omega
  rw [bytes_eq _ _ _ _ hd1]
  simp only [Option.bind_some, str_nb]
  rw [crash_all false q hG1]
  simp only [Option.bind_some]
  rw [bytes_eq _ _ _ _ hd1]
  simp only [Option.bind_some, str_nb, if_true, safe_eq, off_eq]
  simp only [ropewaylaw08_DiskAgain.j1]
  rw [if_neg (by simp)]
  have hend : inB [101, 110, 100] := by decide
  rw [app_free hG1 hend (by unfold mx; simp only [List.length_cons, List.length_nil]; split <;> omega)]
  simp only [Option.bind_some, if_true]
  have hs2 := size_app d1 [101, 110, 100]
  simp only [List.length_cons, List.length_nil] at hs2
  have hsy : disk_Disk_Sync.f (d1 ++ strOfNums [101, 110, 100]) (d1.size : Int) 60000 (-1) false = some (d1 ++ strOfNums [101, 110, 100], ((d1 ++ strOfNums [101, 110, 100]).size : Int), 60000, -1, false) := rfl
  rw [hsy]
  simp only [Option.bind_some]
  rw [crash_all false q ⟨by omega, by omega, by omega, by omega, by omega, by omega, by omega⟩]
  simp only [Option.bind_some]
  rw [bytes_eq _ _ _ _ (by omega)]
  simp only [Option.bind_some, str_nb]
  rw [if_pos (by omega)]
  have he : strOfNums [101, 110, 100] = (⟨#[101, 110, 100]⟩ : ByteArray) := rfl
  rw [he]
  simp
theorem again_loop (ls : List S34) (hin : ∀ p ∈ ls, okAct p) (hl : ls.length ≤ 100) (p q : Int) : ∀ (m : Nat) (i : Int) (k : Nat) (d : ByteArray) (s f : Int) (o : Bool),
    0 ≤ i → i + m = ls.length → m + 1 < k → Gd d s 60000 f → (d.size : Int) ≤ 500 * i → ropewaylaw08_DiskAgain.l0 k ls (ls.length : Int) i p q d s 60000 f o = some true
  | 0, i, k, d, s, f, o, h0, hi, hk, hG, hd => by
    obtain ⟨k, rfl⟩ : ∃ q, k = q + 2 := ⟨k - 2, by omega⟩
    exact again_end ls i (by omega) k p q d s f o hG (by omega)
  | m + 1, i, k, d, s, f, o, h0, hi, hk, hG, hd => by
    obtain ⟨k, rfl⟩ : ∃ q, k = q + 1 := ⟨k - 1, by omega⟩
    have hlt : i < (ls.length : Int) := by omega
    obtain ⟨b1, b2, b3, b4⟩ := hin _ (rdT_mem h0 hlt)
    have b5 := wf_i64 b4
    have ih : ∀ (d' : ByteArray) (s' f' : Int) (o' : Bool), Gd d' s' 60000 f' → (d'.size : Int) ≤ 500 * (i + 1) → ropewaylaw08_DiskAgain.l0 k ls (ls.length : Int) (wrap64 (i + 1)) p q d' s' 60000 f' o' = some true := fun d' s' f' o' h1 h2 => by
      rw [w64 (x := i + 1) (by omega) (by omega)]
      exact again_loop ls hin hl p q m (i + 1) k d' s' f' o' (by omega) (by omega) (by omega) h1 h2
    simp only [ropewaylaw08_DiskAgain.l0]
    rw [if_pos hlt, if_pos h0, if_pos hlt]
    generalize rd_T34 ls i = a at b1 b2 b5 ⊢
    by_cases h1 : a.f0 = 0
    · rw [if_pos h1]
      by_cases h5 : (a.f2.length : Int) > 500
      · rw [if_pos h5]
      · rw [if_neg h5]
        simp only [Option.bind_some, List.nil_append, List.length_nil, Nat.zero_add]
        rw [if_pos (by omega)]
        obtain ⟨e, d', f', o', he, hG', hsz⟩ := app_any o hG b2
        rw [he]
        simp only [Option.bind_some]
        exact ih _ _ _ _ hG' (by omega)
    · rw [if_neg h1]
      by_cases h2 : a.f0 = 1
      · rw [if_pos h2]
        obtain ⟨s', he, hG'⟩ := sync_any o hG
        rw [he]
        simp only [Option.bind_some]
        exact ih _ _ _ _ hG' (by omega)
      · rw [if_neg h2]
        by_cases h3 : a.f0 = 5
        · rw [if_pos h3, fuse_eq]
          simp only [Option.bind_some]
          exact ih _ _ _ _ (fuse_any a.f1 b5.2 hG) (by omega)
        · rw [if_neg h3]
          exact ih _ _ _ _ hG (by omega)
theorem diskAgain (ls : List S34) (hin : ∀ p ∈ ls, okAct p) (p q : Int) (_ : (Lit.int .i64 p).wf = true) (_ : (Lit.int .i64 q).wf = true) : ∃ k, ropewaylaw08_DiskAgain.f k ls p q = some true := by
  refine ⟨200, ?_⟩
  unfold ropewaylaw08_DiskAgain.f
  rw [alive]
  simp only [Option.bind_some, if_true]
  by_cases hl : (ls.length : Int) > 100
  · rw [if_pos hl]
  · rw [if_neg hl, new_eq]
    simp only [Option.bind_some]
    have e1 : mx 0 (mn 60000 60000) = 60000 := by decide
    rw [e1]
    have hz : ((⟨#[]⟩ : ByteArray).size : Int) ≤ 500 * 0 := by decide
    exact again_loop ls hin (by omega) p q ls.length 0 200 _ _ _ _ (by omega) (by omega) (by omega) gd_new hz
end Go.Proofs.Ythoeoooccmjjaaa.Pure
