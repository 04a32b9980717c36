/- DiskKeeps: what is safe stays; behind it some of what was appended, from the first byte on. -/
import Derived.Test.YthoeoooccmjjaaaEvs2
import Derived.Test.YthoeoooccmjjaaaPDskx4
namespace Go.Proofs.Ythoeoooccmjjaaa.Pure
open Go.RowKit Go.Proofs.Ythoeoooccmjjaaa.PDsk Go.Proofs.Ythoeoooccmjjaaa.Args Go.Proofs.YthoeoooccmjjaaaW.PrintWords Go.Proofs.YthoeoooccmjjaaaW.PrintLast Go.Proofs.YthoeoooccmjjaaaW.PrintMore
theorem nb_extract (b : ByteArray) (m : Nat) : nb (b.extract 0 m) = (nb b).take m := by
  unfold nb
  rw [ByteArray.data_extract, ← List.map_take]
  simp
/-- What holds from round to round: 'all' is what the disk has, and some more where it is off. -/
def KInv (all : ByteArray) (safe : Int) (d : ByteArray) (s f : Int) (o : Bool) : Prop :=
  Gd d s 60000 f ∧ safe = s ∧ ∃ rest : List Int, nb all = nb d ++ rest ∧ (o = false → rest = []) ∧ all.size ≤ 60000
theorem kinv_size {all : ByteArray} {safe : Int} {d : ByteArray} {s f : Int} {o : Bool} (h : KInv all safe d s f o) : d.size ≤ all.size := by
  obtain ⟨_, _, rest, h1, _, _⟩ := h
  have := congrArg List.length h1
  rw [List.length_append, nb_length, nb_length] at this
  omega
theorem keeps_end (acts : List S34) (fuse keep : Int) (i : Int) (hi : ¬ i < acts.length) (k : Nat) (all : ByteArray) (safe : Int) (d : ByteArray) (s f : Int) (o : Bool) (h : KInv all safe d s f o) :
    ropewaylaw08_DiskKeeps.l0 (k + 1) acts fuse keep all safe acts (acts.length : Int) i d s 60000 f o = some true := by
  have hds := kinv_size h
  obtain ⟨hG, rfl, rest, h1, h2, h3⟩ := h
  obtain ⟨g1, g2, g3, g4, g5, g6, g7⟩ := id hG
  simp only [ropewaylaw08_DiskKeeps.l0]
  rw [if_neg hi]
  obtain ⟨m, e1, e2, e3⟩ := crash_eq o keep hG
  have hs := take_size d m e2
  rw [e3]
  simp only [Option.bind_some]
  rw [bytes_eq _ _ _ _ (by omega)]
  simp only [Option.bind_some, nb_length, hs, str_nb]
  have hms : safe ≤ (m : Int) := by rw [e1]; unfold mx; split <;> omega
  rw [if_pos hms, if_pos (by omega), if_pos (by omega)]
  have hx : strOfNums ((nb d).take m) = all.extract 0 ((m : Int) : Int).toNat := by
    rw [← str_nb (all.extract 0 ((m : Int) : Int).toNat), nb_extract, h1, Int.toNat_natCast, List.take_append_of_le_length (by rw [nb_length]; exact e2)]
  rw [if_pos (congrArg ByteArray.toList hx)]
  simp only [safe_eq, Option.bind_some, if_true, off_eq, Bool.not_false]
theorem keeps_step (acts : List S34) (fuse keep : Int) (i : Int) (k : Nat) (all : ByteArray) (safe : Int) (d : ByteArray) (s f : Int) (o : Bool) (a b : Int) (l : List Int) (hb : inB l) (hl : l.length ≤ 140737488351232) (h : KInv all safe d s f o)
    (ih : ∀ (all' : ByteArray) (safe' : Int) (d' : ByteArray) (s' f' : Int) (o' : Bool), KInv all' safe' d' s' f' o' → ropewaylaw08_DiskKeeps.l0 k acts fuse keep all' safe' acts (acts.length : Int) (wrap64 (i + 1)) d' s' 60000 f' o' = some true) :
    ropewaylaw08_DiskKeeps.j1 (k + 1) acts fuse keep all safe acts (acts.length : Int) i d s 60000 f o a b l = some true := by
  have hds := kinv_size h
  obtain ⟨hG, rfl, rest, h1, h2, h3⟩ := id h
  obtain ⟨g1, g2, g3, g4, g5, g6, g7⟩ := id hG
  simp only [ropewaylaw08_DiskKeeps.j1]
  by_cases ha : a = 1
  · rw [if_pos ha]
    cases o
    · have hsy : disk_Disk_Sync.f d safe 60000 f false = some (d, (d.size : Int), 60000, f, false) := rfl
      rw [hsy]
      simp only [Option.bind_some, off_eq]
      rw [if_neg (by simp)]
      obtain rfl := h2 rfl
      have : all = d := by rw [← str_nb all, ← str_nb d, h1, List.append_nil]
      subst this
      exact ih _ _ _ _ _ _ ⟨⟨by omega, by omega, by omega, by omega, by omega, by omega, by omega⟩, rfl, [], h1, fun _ => rfl, h3⟩
    · have hsy : disk_Disk_Sync.f d safe 60000 f true = some (d, safe, 60000, f, true) := rfl
      rw [hsy]
      simp only [Option.bind_some, off_eq]
      rw [if_pos trivial]
      exact ih _ _ _ _ _ _ h
  · rw [if_neg ha, off_eq]
    simp only [Option.bind_some, List.nil_append, List.length_nil, Nat.zero_add]
    rw [if_pos (by omega)]
    cases o
    · obtain rfl := h2 rfl
      have hall : all = d := by rw [← str_nb all, ← str_nb d, h1, List.append_nil]
      subst hall
      by_cases hm : mx 0 (60000 - (all.size : Int)) < (l.length : Int)
      · rw [app_full hG hb hm]
        simp only [Option.bind_some]
        rw [if_neg (by decide), if_neg (by decide)]
        exact ih _ _ _ _ _ _ h
      · have hm' : (l.length : Int) ≤ mx 0 (60000 - (all.size : Int)) := by omega
        have hsz : all.size + l.length ≤ 60000 := by unfold mx at hm'; split at hm' <;> omega
        have happ := size_app all l
        by_cases hf : f = -1
        · subst hf
          rw [app_free hG hb hm']
          simp only [Option.bind_some]
          rw [if_pos trivial, if_pos (by rw [strOfNums_size]; omega)]
          exact ih _ _ _ _ _ _ ⟨gd_app hG hm' _ (by omega) (by omega), rfl, [], (List.append_nil _).symm, fun _ => rfl, by omega⟩
        · by_cases h4 : (l.length : Int) ≤ f
          · rw [app_less hG hb hm' hf h4]
            simp only [Option.bind_some]
            rw [if_pos trivial, if_pos (by rw [strOfNums_size]; omega)]
            exact ih _ _ _ _ _ _ ⟨gd_app hG hm' _ (by omega) (by omega), rfl, [], (List.append_nil _).symm, fun _ => rfl, by omega⟩
          · rw [app_blow hG hb hm' hf (by omega)]
            simp only [Option.bind_some]
            rw [if_neg (by decide), if_pos trivial, if_neg (by simp), if_pos (by rw [strOfNums_size]; omega)]
            have htl : (l.take f.toNat).length ≤ l.length := by rw [List.length_take]; omega
            refine ih _ _ _ _ _ _ ⟨gd_app hG (by omega) _ (by omega) (by omega), rfl, l.drop f.toNat, ?_, (fun h => by cases h), by omega⟩
            rw [nb_app _ _ hb, nb_app _ _ (inB_take hb _), List.append_assoc, List.take_append_drop]
    · rw [app_off hG hb]
      simp only [Option.bind_some]
      rw [if_neg (by decide), if_pos trivial, if_pos trivial]
      exact ih _ _ _ _ _ _ h
theorem keeps_loop (acts : List S34) (hin : ∀ p ∈ acts, okAct p) (hl : acts.length ≤ 200) (fuse keep : Int) (hfu : fuse < 9223372036854775808) : ∀ (m : Nat) (i : Int) (k : Nat) (all : ByteArray) (safe : Int) (d : ByteArray) (s f : Int) (o : Bool),
    0 ≤ i → i + m = acts.length → 2 * m < k → KInv all safe d s f o → ropewaylaw08_DiskKeeps.l0 k acts fuse keep all safe acts (acts.length : Int) i d s 60000 f o = some true
  | 0, i, k, all, safe, d, s, f, o, h0, hi, hk, h => by
    obtain ⟨k, rfl⟩ : ∃ q, k = q + 1 := ⟨k - 1, by omega⟩
    exact keeps_end acts fuse keep i (by omega) k all safe d s f o h
  | m + 1, i, k, all, safe, d, s, f, o, h0, hi, hk, h => by
    obtain ⟨k, rfl⟩ : ∃ q, k = q + 2 := ⟨k - 2, by omega⟩
    have hlt : i < (acts.length : Int) := by omega
    obtain ⟨b1, b2, b3, b4⟩ := hin _ (rdT_mem h0 hlt)
    have ih : ∀ (all' : ByteArray) (safe' : Int) (d' : ByteArray) (s' f' : Int) (o' : Bool), KInv all' safe' d' s' f' o' → ropewaylaw08_DiskKeeps.l0 k acts fuse keep all' safe' acts (acts.length : Int) (wrap64 (i + 1)) d' s' 60000 f' o' = some true := fun all' safe' d' s' f' o' h' => by
      rw [w64 (x := i + 1) (by omega) (by omega)]
      exact keeps_loop acts hin hl fuse keep hfu m (i + 1) k all' safe' d' s' f' o' (by omega) (by omega) (by omega) h'
    show ropewaylaw08_DiskKeeps.l0 (k + 1 + 1) acts fuse keep all safe acts (acts.length : Int) i d s 60000 f o = some true
    simp only [ropewaylaw08_DiskKeeps.l0]
    rw [if_pos hlt, if_pos h0, if_pos hlt]
    by_cases hh : i = wrap64 ((acts.length : Int) / 2)
    · rw [if_pos hh, fuse_eq]
      simp only [Option.bind_some]
      obtain ⟨hG, h5, h6⟩ := h
      exact keeps_step acts fuse keep i k all safe d s _ o _ _ _ b2 b1 ⟨fuse_any fuse hfu hG, h5, h6⟩ ih
    · rw [if_neg hh]
      exact keeps_step acts fuse keep i k all safe d s f o _ _ _ b2 b1 h ih
theorem diskKeeps (acts : List S34) (hin : ∀ p ∈ acts, okAct p) (fuse : Int) (hf : (Lit.int .i64 fuse).wf = true) (keep : Int) (_ : (Lit.int .i64 keep).wf = true) : ∃ k, ropewaylaw08_DiskKeeps.f k acts fuse keep = some true := by
  refine ⟨500, ?_⟩
  unfold ropewaylaw08_DiskKeeps.f
  rw [alive]
  simp only [Option.bind_some, if_true, new_eq]
  by_cases hl : (acts.length : Int) > 200
  · rw [if_pos hl]
  · rw [if_neg hl]
    have e1 : mx 0 (mn 60000 60000) = 60000 := by decide
    rw [e1]
    exact keeps_loop acts hin (by omega) fuse keep (wf_i64 hf).2 acts.length 0 500 _ _ _ _ _ _ (by omega) (by omega) (by omega) ⟨gd_new, rfl, [], rfl, fun _ => rfl, by decide⟩
end Go.Proofs.Ythoeoooccmjjaaa.Pure
