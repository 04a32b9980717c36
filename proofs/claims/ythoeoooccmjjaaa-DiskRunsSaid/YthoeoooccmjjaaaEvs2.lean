/- What any step of a disk leaves. -/
import Derived.Test.YthoeoooccmjjaaaEvs
namespace Go.Proofs.Ythoeoooccmjjaaa.Pure
open Go.RowKit Go.Proofs.Ythoeoooccmjjaaa.PDsk Go.Proofs.Ythoeoooccmjjaaa.Args Go.Proofs.YthoeoooccmjjaaaW.PrintWords Go.Proofs.YthoeoooccmjjaaaW.PrintLast Go.Proofs.YthoeoooccmjjaaaW.PrintMore
theorem gd_new : Gd (⟨#[]⟩ : ByteArray) 0 60000 (-1) := by decide
section
variable {d : ByteArray} {s r f : Int} {l : List Int}
theorem gd_app (hG : Gd d s r f) (h : (l.length : Int) ≤ mx 0 (r - (d.size : Int))) (f' : Int) (h1 : -1 ≤ f') (h2 : f' ≤ 9223372036854775807) : Gd (d ++ strOfNums l) s r f' := by
  obtain ⟨g1, g2, g3, g4, g5, g6, g7⟩ := hG
  have hs := size_app d l
  have : d.size + l.length ≤ 60000 := by unfold mx at h; split at h <;> omega
  exact ⟨by omega, by omega, by omega, by omega, by omega, by omega, by omega⟩
theorem app_any (o : Bool) (hG : Gd d s r f) (hb : inB l) : ∃ e d' f' o', disk_Disk_Append.f d s r f o l = some (e, d', s, r, f', o') ∧ Gd d' s r f' ∧ d'.size ≤ d.size + l.length := by
  obtain ⟨g1, g2, g3, g4, g5, g6, g7⟩ := id hG
  cases o
  · by_cases hm : mx 0 (r - (d.size : Int)) < (l.length : Int)
    · exact ⟨_, _, _, _, app_full hG hb hm, hG, by omega⟩
    · have hm' : (l.length : Int) ≤ mx 0 (r - (d.size : Int)) := by omega
      have hs := size_app d l
      by_cases hf : f = -1
      · subst hf
        exact ⟨_, _, _, _, app_free hG hb hm', gd_app hG hm' _ (by omega) (by omega), by omega⟩
      · by_cases h2 : (l.length : Int) ≤ f
        · exact ⟨_, _, _, _, app_less hG hb hm' hf h2, gd_app hG hm' _ (by omega) (by omega), by omega⟩
        · have hlen : (l.take f.toNat).length ≤ l.length := by rw [List.length_take]; omega
          have hs2 := size_app d (l.take f.toNat)
          exact ⟨_, _, _, _, app_blow hG hb hm' hf (by omega), gd_app hG (by omega) _ (by omega) (by omega), by omega⟩
  · exact ⟨_, _, _, _, app_off hG hb, hG, by omega⟩
theorem sync_any (o : Bool) (hG : Gd d s r f) : ∃ s', disk_Disk_Sync.f d s r f o = some (d, s', r, f, o) ∧ Gd d s' r f := by
  obtain ⟨g1, g2, g3, g4, g5, g6, g7⟩ := id hG
  cases o
  · exact ⟨_, rfl, ⟨g1, by omega, by omega, g4, g5, g6, g7⟩⟩
  · exact ⟨_, rfl, hG⟩
theorem fuse_any (n : Int) (hn : n < 9223372036854775808) (hG : Gd d s r f) : Gd d s r (mx (-1) n) := by
  obtain ⟨g1, g2, g3, g4, g5, g6, g7⟩ := hG
  exact ⟨g1, g2, g3, g4, g5, by unfold mx; split <;> omega, by unfold mx; split <;> omega⟩
theorem take_size (d : ByteArray) (m : Nat) (h : m ≤ d.size) : (strOfNums ((nb d).take m)).size = m := by
  rw [strOfNums_size, List.length_take, nb_length]
  omega
theorem crash_eq (o : Bool) (p : Int) (hG : Gd d s r f) : ∃ m : Nat, (m : Int) = s + mx 0 (mn p ((d.size : Int) - s)) ∧ m ≤ d.size ∧ disk_Disk_Crash.f d s r f o p = some (strOfNums ((nb d).take m), (m : Int), r, -1, false) := by
  obtain ⟨g1, g2, g3, g4, g5, g6, g7⟩ := id hG
  have h1 : 0 ≤ s + mx 0 (mn p ((d.size : Int) - s)) ∧ s + mx 0 (mn p ((d.size : Int) - s)) ≤ d.size := by unfold mx mn; (repeat' split) <;> omega
  refine ⟨(s + mx 0 (mn p ((d.size : Int) - s))).toNat, by omega, by omega, ?_⟩
  unfold disk_Disk_Crash.f
  rw [if_pos hG]
  have : ((s + mx 0 (mn p ((d.size : Int) - s))).toNat : Int) = s + mx 0 (mn p ((d.size : Int) - s)) := by omega
  rw [this]
theorem crash_any (o : Bool) (p : Int) (hG : Gd d s r f) : ∃ d', disk_Disk_Crash.f d s r f o p = some (d', (d'.size : Int), r, -1, false) ∧ Gd d' (d'.size : Int) r (-1) ∧ d'.size ≤ d.size := by
  obtain ⟨g1, g2, g3, g4, g5, g6, g7⟩ := id hG
  obtain ⟨m, h1, h2, h3⟩ := crash_eq o p hG
  have hs := take_size d m h2
  refine ⟨_, by rw [h3, hs], ?_, by omega⟩
  rw [hs]
  exact ⟨by omega, by omega, by omega, g4, g5, by omega, by omega⟩
theorem crash_all (o : Bool) (p : Int) (hG : Gd d (d.size : Int) r f) : disk_Disk_Crash.f d (d.size : Int) r f o p = some (d, (d.size : Int), r, -1, false) := by
  obtain ⟨m, h1, h2, h3⟩ := crash_eq o p hG
  have : m = d.size := by unfold mx mn at h1; (repeat' split at h1) <;> omega
  subst this
  rw [h3, List.take_of_length_le (by rw [nb_length]; exact Nat.le_refl _), str_nb]
end
end Go.Proofs.Ythoeoooccmjjaaa.Pure
