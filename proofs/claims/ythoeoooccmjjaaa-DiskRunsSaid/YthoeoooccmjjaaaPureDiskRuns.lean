/- Whatever is done with a disk: it answers as the document's disk does. -/
import Derived.Test.YthoeoooccmjjaaaEvs2
import Derived.Test.YthoeoooccmjjaaaDruF
namespace Go.Proofs.Ythoeoooccmjjaaa.Pure
open Go.RowKit Go.Proofs.Ythoeoooccmjjaaa.PDsk Go.Proofs.Ythoeoooccmjjaaa.PDru Go.Proofs.Ythoeoooccmjjaaa.Args Go.Proofs.YthoeoooccmjjaaaW.PrintWords Go.Proofs.YthoeoooccmjjaaaW.PrintLast Go.Proofs.YthoeoooccmjjaaaW.PrintMore
/-! ### The reference -/
theorem limit_r (l : List Int) (s r f : Int) (o : Bool) (n : Int) : ropewayref08_Limit.f l s r f o n = some (l, s, mx 0 (mn n 60000), f, o) := by
  have e : mx 0 (mn n 60000) = if n < 0 then 0 else if n > 60000 then 60000 else n := by unfold mx mn; (repeat' split) <;> omega
  unfold ropewayref08_Limit.f
  rw [e]
  by_cases h1 : n < 0
  · rw [if_pos h1, if_neg (by omega), if_pos h1]
  · rw [if_neg h1, if_neg h1]
    by_cases h2 : n > 60000
    · rw [if_pos h2, if_pos h2]
    · rw [if_neg h2, if_neg h2]
theorem new_r (n : Int) : ropewayref08_New.f n = some ([], 0, mx 0 (mn n 60000), -1, false) := by
  unfold ropewayref08_New.f
  rw [limit_r]
  rfl
theorem fuse_r (l : List Int) (s r f : Int) (o : Bool) (n : Int) : ropewayref08_Fuse.f l s r f o n = some (l, s, r, mx (-1) n, o) := by
  unfold ropewayref08_Fuse.f mx
  by_cases h1 : n < 0
  · rw [if_pos h1]
    split
    · omega
    · rfl
  · rw [if_neg h1, if_pos (by omega)]
theorem rd_take {b : List Int} {i : Nat} (h : i < b.length) : b.take i ++ [rd b (i : Int)] = b.take (i + 1) := by
  rw [List.take_add_one]
  simp [rd, List.getD_eq_getElem?_getD, h]
theorem nx {i : Nat} (h : i < 9223372036854775807) : wrap64 ((i : Int) + 1) = ((i + 1 : Nat) : Int) := by rw [w64 (by omega) (by omega)]; omega
section
variable {l b : List Int} {s r f : Int} (hl : l.length ≤ 60000)
theorem crash_l0 (o : Bool) (n : Int) {m s : Nat} (hl : l.length ≤ 60000) (hm : m ≤ l.length) (h1 : m = l.length ∨ n ≤ (m : Int) - s) (h2 : ∀ j : Nat, s ≤ j → j < m → (j : Int) - s < n) : ∀ d i : Nat, s ≤ i → i + d = m →
    Ev (fun k => ropewayref08_Crash.l0 k n (l.take i) (i : Int) l (s : Int) r f o) (l.take m, (m : Int), r, -1, false)
  | 0, i, hs, hi => by
    obtain rfl : i = m := by omega
    have hlen : (l.take i).length = i := by rw [List.length_take]; omega
    refine Ev.step (fun k => ?_) (Ev.now _)
    simp only [ropewayref08_Crash.l0]
    rw [hlen]
    by_cases h : (i : Int) < (l.length : Int)
    · rw [if_pos h, w64 (by omega) (by omega), if_neg (by omega)]
    · rw [if_neg h]
  | d + 1, i, hs, hi => by
    have h3 := h2 i hs (by omega)
    refine Ev.step (fun k => ?_) (crash_l0 o n hl hm h1 h2 d (i + 1) (by omega) (by omega))
    simp only [ropewayref08_Crash.l0]
    rw [if_pos (by omega), w64 (x := (i : Int) - (s : Int)) (by omega) (by omega), if_pos h3, if_pos (by omega), if_pos (by rw [List.length_take]; omega), rd_take (by omega), nx (by omega)]
theorem crash_r (hl : l.length ≤ 60000) (o : Bool) (n : Int) {s : Nat} (hs : s ≤ l.length) {m : Nat} (hm : (m : Int) = s + mx 0 (mn n ((l.length : Int) - s))) : Ev (fun k => ropewayref08_Crash.f k l (s : Int) r f o n) (l.take m, (m : Int), r, -1, false) := by
  have hmx : mx 0 (mn n ((l.length : Int) - s)) = if n ≤ 0 then 0 else if n < (l.length : Int) - s then n else (l.length : Int) - s := by unfold mx mn; (repeat' split) <;> omega
  rw [hmx] at hm
  have h0 := crash_l0 (r := r) (f := f) (l := l) o n (m := m) (s := s) hl (by split at hm <;> (try split at hm) <;> omega) (by split at hm <;> (try split at hm) <;> omega) (fun j h5 h6 => by split at hm <;> (try split at hm) <;> omega) (m - s) s (Nat.le_refl _) (by split at hm <;> (try split at hm) <;> omega)
  refine Ev.congr (fun k => ?_) h0
  unfold ropewayref08_Crash.f
  simp only [Option.bind_some, List.nil_append, List.length_nil, Nat.zero_add]
  rw [if_pos (by omega), if_pos (by omega), Int.toNat_natCast, if_pos (by rw [List.length_take]; omega)]
theorem cut_l0 (n : Int) {m : Nat} (hl : l.length ≤ 60000) (hm : m ≤ l.length) (h1 : m = l.length ∨ n ≤ (m : Int)) (h2 : ∀ j : Nat, j < m → (j : Int) < n) : ∀ d i : Nat, i + d = m →
    Ev (fun k => ropewayref08_Cut.l0 k n (l.take i) (i : Int) l s r f false) (l.take m, mn s (m : Int), r, f, false)
  | 0, i, hi => by
    obtain rfl : i = m := by omega
    have hlen : (l.take i).length = i := by rw [List.length_take]; omega
    have e : (if s > (i : Int) then some (l.take i, (i : Int), r, f, false) else some (l.take i, s, r, f, false)) = some (l.take i, mn s (i : Int), r, f, false) := by
      unfold mn
      by_cases h : s > (i : Int)
      · rw [if_pos h, if_pos (by omega)]
      · rw [if_neg h, if_neg (by omega)]
    refine Ev.step (fun k => ?_) (Ev.now _)
    simp only [ropewayref08_Cut.l0]
    rw [hlen]
    by_cases h : (i : Int) < (l.length : Int)
    · rw [if_pos h, if_neg (by omega), e]
    · rw [if_neg h, e]
  | d + 1, i, hi => by
    have h3 := h2 i (by omega)
    refine Ev.step (fun k => ?_) (cut_l0 n hl hm h1 h2 d (i + 1) (by omega))
    simp only [ropewayref08_Cut.l0]
    rw [if_pos (by omega), if_pos h3, if_pos (by omega), if_pos (by rw [List.length_take]; omega), rd_take (by omega), nx (by omega)]
theorem cut_r (hl : l.length ≤ 60000) (n : Int) {m : Nat} (hm : (m : Int) = mx 0 (mn n (l.length : Int))) : Ev (fun k => ropewayref08_Cut.f k l s r f false n) (l.take m, mn s (m : Int), r, f, false) := by
  have hmx : mx 0 (mn n (l.length : Int)) = if n ≤ 0 then 0 else if n < (l.length : Int) then n else (l.length : Int) := by unfold mx mn; (repeat' split) <;> omega
  rw [hmx] at hm
  have h0 := cut_l0 (s := s) (r := r) (f := f) (l := l) n (m := m) hl (by split at hm <;> (try split at hm) <;> omega) (by split at hm <;> (try split at hm) <;> omega) (fun j h6 => by split at hm <;> (try split at hm) <;> omega) m 0 (by omega)
  refine Ev.congr (fun k => ?_) h0
  unfold ropewayref08_Cut.f
  rw [if_neg (by simp), List.take_zero]
  rfl
theorem app_r_off (k : Nat) : ropewayref08_Append.f k l s r f true b = some (l, s, r, f, true, 82) := by
  unfold ropewayref08_Append.f
  rw [if_pos rfl]
theorem app_r_full (hl : l.length ≤ 60000) (hr : 0 ≤ r ∧ r ≤ 60000) (h : mx 0 (r - (l.length : Int)) < (b.length : Int)) : Ev (fun k => ropewayref08_Append.f k l s r f false b) (l, s, r, f, false, 81) := by
  have h0 : (b.length : Int) > 0 ∧ (b.length : Int) > r - (l.length : Int) := by unfold mx at h; split at h <;> omega
  refine Ev.congr (f := fun k => ropewayref08_Append.j0 k b true l s r f false) (fun k => ?_) (Ev.step (fun k => ?_) (Ev.now _))
  · unfold ropewayref08_Append.f
    rw [if_neg (by simp), if_pos h0.1, w64 (by omega) (by omega), decide_eq_true h0.2]
  · simp only [ropewayref08_Append.j0]
    rw [if_pos trivial]
theorem app_free_l0 (hl : l.length ≤ 60000) (hb : b.length ≤ 60000) : ∀ d i : Nat, i + d = b.length → Ev (fun k => ropewayref08_Append.l0 k (l ++ b.take i) b (b.length : Int) (i : Int) l s r (-1) false) (l ++ b, s, r, -1, false, 0)
  | 0, i, hi => by
    refine Ev.step (fun k => ?_) (Ev.now _)
    simp only [ropewayref08_Append.l0]
    rw [if_neg (by omega), List.take_of_length_le (by omega)]
  | d + 1, i, hi => by
    refine Ev.step (fun k => ?_) (app_free_l0 hl hb d (i + 1) (by omega))
    simp only [ropewayref08_Append.l0]
    rw [if_pos (by omega), if_pos (by omega), if_pos (by omega), if_neg (by decide), if_neg (by decide), if_pos (by rw [List.length_append, List.length_take]; omega), List.append_assoc, rd_take (by omega), nx (by omega)]
theorem app_less_l0 (hl : l.length ≤ 60000) (hb : b.length ≤ 60000) : ∀ (d i m : Nat), i + d = b.length → d ≤ m → m ≤ 9223372036854775807 → Ev (fun k => ropewayref08_Append.l0 k (l ++ b.take i) b (b.length : Int) (i : Int) l s r (m : Int) false) (l ++ b, s, r, (m : Int) - d, false, 0)
  | 0, i, m, hi, hd, hm => by
    refine Ev.step (fun k => ?_) (Ev.now _)
    simp only [ropewayref08_Append.l0]
    rw [if_neg (by omega), List.take_of_length_le (by omega)]
    simp
  | d + 1, i, m, hi, hd, hm => by
    obtain ⟨m, rfl⟩ : ∃ q, m = q + 1 := ⟨m - 1, by omega⟩
    have e : ((m + 1 : Nat) : Int) - ((d + 1 : Nat) : Int) = (m : Int) - d := by omega
    have e2 : wrap64 (((m + 1 : Nat) : Int) - 1) = (m : Int) := by rw [w64 (by omega) (by omega)]; omega
    rw [e]
    refine Ev.step (fun k => ?_) (app_less_l0 hl hb d (i + 1) m (by omega) (by omega) (by omega))
    simp only [ropewayref08_Append.l0]
    rw [if_pos (by omega), if_pos (by omega), if_pos (by omega), if_neg (by omega), if_pos (by omega), if_pos (by rw [List.length_append, List.length_take]; omega), List.append_assoc, rd_take (by omega), nx (by omega), e2]
theorem app_blow_l0 (hl : l.length ≤ 60000) (hb : b.length ≤ 60000) : ∀ (m i : Nat), i + m < b.length → Ev (fun k => ropewayref08_Append.l0 k (l ++ b.take i) b (b.length : Int) (i : Int) l s r (m : Int) false) (l ++ b.take (i + m), s, r, 0, true, 82)
  | 0, i, hi => by
    refine Ev.step (fun k => ?_) (Ev.now _)
    simp only [ropewayref08_Append.l0]
    rw [if_pos (by omega), if_pos (by omega), if_pos (by omega), if_pos (by rfl)]
    rfl
  | m + 1, i, hi => by
    have e2 : wrap64 (((m + 1 : Nat) : Int) - 1) = (m : Int) := by rw [w64 (by omega) (by omega)]; omega
    have h0 := app_blow_l0 hl hb m (i + 1) (by omega)
    rw [show i + 1 + m = i + (m + 1) by omega] at h0
    refine Ev.step (fun k => ?_) h0
    simp only [ropewayref08_Append.l0]
    rw [if_pos (by omega), if_pos (by omega), if_pos (by omega), if_neg (by omega), if_pos (by omega), if_pos (by rw [List.length_append, List.length_take]; omega), List.append_assoc, rd_take (by omega), nx (by omega), e2]
theorem app_r_fits (hl : l.length ≤ 60000) (hr : 0 ≤ r ∧ r ≤ 60000) (h : (b.length : Int) ≤ mx 0 (r - (l.length : Int))) {R : List Int × Int × Int × Int × Bool × Int} (h0 : Ev (fun k => ropewayref08_Append.l0 k (l ++ b.take 0) b (b.length : Int) ((0 : Nat) : Int) l s r f false) R) : Ev (fun k => ropewayref08_Append.f k l s r f false b) R := by
  refine Ev.congr (f := fun k => ropewayref08_Append.j0 k b false l s r f false) (fun k => ?_) (Ev.step (fun k => ?_) h0)
  · unfold ropewayref08_Append.f
    rw [if_neg (by simp)]
    by_cases hb : (b.length : Int) > 0
    · rw [if_pos hb, w64 (by omega) (by omega), decide_eq_false (by unfold mx at h; split at h <;> omega)]
    · rw [if_neg hb]
  · simp only [ropewayref08_Append.j0, Option.bind_some, List.nil_append, List.length_nil, Nat.zero_add]
    rw [if_neg (by simp), if_pos (by omega), List.take_zero, List.append_nil]
    rfl
end
/-! ### The law -/
section
variable {acts : List S34} (hin : ∀ p ∈ acts, okAct p) (hlen : acts.length ≤ 200)
/-- The two disks: alike, but for the fuse of one that is off. -/
def Like (d : ByteArray) (s r f : Int) (o : Bool) (f' : Int) : Prop := Gd d s r f ∧ (-1 ≤ f' ∧ f' ≤ 9223372036854775807) ∧ (o = false → f' = f)
theorem judge (e : Int) (i : Int) (d : ByteArray) (s r f : Int) (o : Bool) (f' : Int) (hd : d.size ≤ 60000) (h : Ev (fun k => ropewaylaw08_DiskRuns.l0 k acts (acts.length : Int) (wrap64 (i + 1)) d s r f o (nb d) s r f' o) true) :
    Ev (fun k => ropewaylaw08_DiskRuns.j2 k e e acts (acts.length : Int) i d s r f o (nb d) s r f' o) true := by
  refine Ev.step (fun k => ?_) h
  simp only [ropewaylaw08_DiskRuns.j2]
  rw [if_pos trivial, bytes_eq _ _ _ _ hd]
  simp only [Option.bind_some, if_true, safe_eq, off_eq]
  rw [if_neg (by simp)]
theorem own_loop (e : Int) (i : Int) (d : ByteArray) (s r f : Int) (o : Bool) (f' : Int) (n : Nat) (hn : n ≤ 140737488355328) (h : Ev (fun k => ropewaylaw08_DiskRuns.j2 k e e acts (acts.length : Int) i d s r f o (nb d) s r f' o) true) : ∀ (m j : Nat) (own : List Int), j + m = n → own.length = n →
    Ev (fun k => ropewaylaw08_DiskRuns.l1 k e e own acts (acts.length : Int) i (n : Int) (j : Int) d s r f o (nb d) s r f' o) true
  | 0, j, own, hj, ho => by
    refine Ev.step (fun k => ?_) h
    simp only [ropewaylaw08_DiskRuns.l1]
    rw [if_neg (by omega)]
  | m + 1, j, own, hj, ho => by
    refine Ev.step (fun k => ?_) (own_loop e i d s r f o f' n hn h m (j + 1) (own.set (j : Int).toNat ((rd own (j : Int) + 1) % 256)) (by omega) (by rw [List.length_set]; exact ho))
    simp only [ropewaylaw08_DiskRuns.l1]
    rw [if_pos (by omega), if_pos (by omega), if_pos (by omega), nx (by omega)]
include hin hlen in
theorem runs_loop : ∀ (m i : Nat) (d : ByteArray) (s r f : Int) (o : Bool) (f' : Int), i + m = acts.length → Like d s r f o f' →
    Ev (fun k => ropewaylaw08_DiskRuns.l0 k acts (acts.length : Int) (i : Int) d s r f o (nb d) s r f' o) true
  | 0, i, d, s, r, f, o, f', hi, h => by
    refine Ev.step (fun k => ?_) (Ev.now _)
    simp only [ropewaylaw08_DiskRuns.l0]
    rw [if_neg (by omega)]
  | m + 1, i, d, s, r, f, o, f', hi, h => by
    have hlt : (i : Int) < (acts.length : Int) := by omega
    obtain ⟨b1, b2, b3, b4⟩ := hin _ (rdT_mem (by omega) hlt)
    have wn := wf_i64 b4
    have ih : ∀ (e : Int) (d' : ByteArray) (s' r' f1 : Int) (o' : Bool) (f2 : Int), Like d' s' r' f1 o' f2 → Ev (fun k => ropewaylaw08_DiskRuns.j2 k e e acts (acts.length : Int) (i : Int) d' s' r' f1 o' (nb d') s' r' f2 o') true := fun e d' s' r' f1 o' f2 h' => by
      refine judge e i d' s' r' f1 o' f2 h'.1.1 ?_
      rw [nx (by omega)]
      exact runs_loop m (i + 1) d' s' r' f1 o' f2 (by omega) h'
    obtain ⟨hG, hf', hoff⟩ := id h
    obtain ⟨g1, g2, g3, g4, g5, g6, g7⟩ := id hG
    have hnb := nb_length d
    have head : ∀ k, ropewaylaw08_DiskRuns.l0 (k + 1) acts (acts.length : Int) (i : Int) d s r f o (nb d) s r f' o = _ := fun k => by
      simp only [ropewaylaw08_DiskRuns.l0]
      rw [if_pos hlt, if_pos (by omega), if_pos hlt]
    generalize (rd_T34 acts (i : Int)).f0 = kind at head
    generalize (rd_T34 acts (i : Int)).f1 = n at head wn
    generalize (rd_T34 acts (i : Int)).f2 = b at head b1 b2
    by_cases k0 : kind = 0
    · have go : ∀ (e : Int) (d' : ByteArray) (f1 f2 : Int) (o' : Bool), disk_Disk_Append.f d s r f o b = some (e, d', s, r, f1, o') → Ev (fun k => ropewayref08_Append.f k (nb d) s r f' o b) (nb d', s, r, f2, o', e) → Like d' s r f1 o' f2 → Ev (fun k => ropewaylaw08_DiskRuns.l0 k acts (acts.length : Int) (i : Int) d s r f o (nb d) s r f' o) true := fun e d' f1 f2 o' h1 h2 h3 => by
        refine Ev.step (f := fun k => (ropewayref08_Append.f k (nb d) s r f' o b).bind fun bt232 => ropewaylaw08_DiskRuns.l1 k e bt232.2.2.2.2.2 b acts (acts.length : Int) (i : Int) (b.length : Int) 0 d' s r f1 o' bt232.1 bt232.2.1 bt232.2.2.1 bt232.2.2.2.1 bt232.2.2.2.2.1) (fun k => ?_) (Ev.bind h2 ?_)
        · rw [head, if_pos k0]
          simp only [Option.bind_some, List.nil_append, List.length_nil, Nat.zero_add]
          rw [if_pos (by omega), h1]
          rfl
        · exact own_loop e i d' s r f1 o' f2 b.length (by omega) (ih e d' s r f1 o' f2 h3) b.length 0 b (by omega) rfl
      cases o
      · obtain rfl := hoff rfl
        by_cases hm : mx 0 (r - (d.size : Int)) < (b.length : Int)
        · exact go 81 d f' f' false (app_full hG b2 hm) (app_r_full (by omega) ⟨g4, g5⟩ (by rw [hnb]; exact hm)) h
        · have hm' : (b.length : Int) ≤ mx 0 (r - (d.size : Int)) := by omega
          have hm2 : (b.length : Int) ≤ mx 0 (r - ((nb d).length : Int)) := by rw [hnb]; exact hm'
          have hb6 : b.length ≤ 60000 := by unfold mx at hm'; split at hm' <;> omega
          have hl6 : (nb d).length ≤ 60000 := by omega
          by_cases hf : f' = -1
          · subst hf
            refine go 0 _ (-1) (-1) false (app_free hG b2 hm') ?_ ⟨gd_app hG hm' _ (by omega) (by omega), ⟨by omega, by omega⟩, fun _ => rfl⟩
            rw [nb_app _ _ b2]
            exact app_r_fits hl6 ⟨g4, g5⟩ hm2 (app_free_l0 hl6 hb6 b.length 0 (by omega))
          · obtain ⟨q, rfl⟩ : ∃ q : Nat, f' = (q : Int) := ⟨f'.toNat, by omega⟩
            by_cases h4 : (b.length : Int) ≤ (q : Int)
            · refine go 0 _ _ _ false (app_less hG b2 hm' hf h4) ?_ ⟨gd_app hG hm' _ (by omega) (by omega), ⟨by omega, by omega⟩, fun _ => rfl⟩
              rw [nb_app _ _ b2]
              exact app_r_fits hl6 ⟨g4, g5⟩ hm2 (app_less_l0 hl6 hb6 b.length 0 q (by omega) (by omega) (by omega))
            · have htl : (b.take (q : Int).toNat).length ≤ b.length := by rw [List.length_take]; omega
              refine go 82 _ _ 0 true (app_blow hG b2 hm' hf (by omega)) ?_ ⟨gd_app hG (by omega) _ (by omega) (by omega), ⟨by omega, by omega⟩, fun h => by cases h⟩
              rw [nb_app _ _ (inB_take b2 _), Int.toNat_natCast]
              have h5 := app_blow_l0 (l := nb d) (b := b) (s := s) (r := r) hl6 hb6 q 0 (by omega)
              rw [Nat.zero_add] at h5
              exact app_r_fits hl6 ⟨g4, g5⟩ hm2 h5
      · exact go 82 d f f' true (app_off hG b2) (Ev.congr (fun k => app_r_off k) (Ev.now _)) h
    · by_cases k1 : kind = 1
      · cases o
        · refine Ev.step (fun k => ?_) (ih 0 d (d.size : Int) r f false f' ⟨⟨g1, by omega, by omega, g4, g5, g6, g7⟩, hf', hoff⟩)
          rw [head, if_neg k0, if_pos k1]
          have hsy : disk_Disk_Sync.f d s r f false = some (d, (d.size : Int), r, f, false) := rfl
          have hsr : ropewayref08_Sync.f (nb d) s r f' false = some (nb d, ((nb d).length : Int), r, f', false) := rfl
          rw [hsy, hsr, hnb]
          rfl
        · refine Ev.step (fun k => ?_) (ih 0 d s r f true f' h)
          rw [head, if_neg k0, if_pos k1]
          rfl
      · by_cases k2 : kind = 2
        · obtain ⟨sn, rfl⟩ : ∃ q : Nat, s = (q : Int) := ⟨s.toNat, by omega⟩
          obtain ⟨m', e1, e2, e3⟩ := crash_eq o n hG
          have hs := take_size d m' e2
          have hcr := crash_r (l := nb d) (r := r) (f := f') (by omega) o n (s := sn) (by omega) (m := m') (by rw [hnb]; exact e1)
          have hlk : Like (strOfNums ((nb d).take m')) (m' : Int) r (-1) false (-1) := ⟨⟨by omega, by omega, by omega, g4, g5, by omega, by omega⟩, ⟨by omega, by omega⟩, fun _ => rfl⟩
          have hj := ih 0 _ _ _ _ _ _ hlk
          rw [nb_take] at hj
          refine Ev.step (f := fun k => (ropewayref08_Crash.f k (nb d) (sn : Int) r f' o n).bind fun bt259 => ropewaylaw08_DiskRuns.j2 k 0 0 acts (acts.length : Int) (i : Int) (strOfNums ((nb d).take m')) (m' : Int) r (-1) false bt259.1 bt259.2.1 bt259.2.2.1 bt259.2.2.2.1 bt259.2.2.2.2) (fun k => ?_) (Ev.bind hcr hj)
          rw [head, if_neg k0, if_neg k1, if_pos k2, e3]
          rfl
        · by_cases k3 : kind = 3
          · have hmr : 0 ≤ mx 0 (mn n 60000) ∧ mx 0 (mn n 60000) ≤ 60000 := by unfold mx mn; (repeat' split) <;> omega
            refine Ev.step (fun k => ?_) (ih 0 d s (mx 0 (mn n 60000)) f o f' ⟨⟨g1, g2, g3, hmr.1, hmr.2, g6, g7⟩, hf', hoff⟩)
            rw [head, if_neg k0, if_neg k1, if_neg k2, if_pos k3, limit_r]
            rfl
          · by_cases k4 : kind = 4
            · cases o
              · obtain ⟨m', hm⟩ : ∃ m' : Nat, (m' : Int) = mx 0 (mn n (d.size : Int)) := ⟨(mx 0 (mn n (d.size : Int))).toNat, by unfold mx mn; (repeat' split) <;> omega⟩
                have hmle : m' ≤ d.size := by unfold mx mn at hm; (repeat' split at hm) <;> omega
                have hs := take_size d m' hmle
                have hct : disk_Disk_Cut.f d s r f false n = some (strOfNums ((nb d).take m'), mn s (m' : Int), r, f, false) := by
                  unfold disk_Disk_Cut.f
                  rw [if_pos hG, if_neg (by simp), ← hm, Int.toNat_natCast]
                have hcr := cut_r (l := nb d) (s := s) (r := r) (f := f') (by omega) n (m := m') (by rw [hnb]; exact hm)
                have hlk : Like (strOfNums ((nb d).take m')) (mn s (m' : Int)) r f false f' := ⟨⟨by omega, by unfold mn; split <;> omega, by unfold mn; split <;> omega, g4, g5, g6, g7⟩, hf', hoff⟩
                have hj := ih 0 _ _ _ _ _ _ hlk
                rw [nb_take] at hj
                refine Ev.step (f := fun k => (ropewayref08_Cut.f k (nb d) s r f' false n).bind fun bt283 => ropewaylaw08_DiskRuns.j2 k 0 0 acts (acts.length : Int) (i : Int) (strOfNums ((nb d).take m')) (mn s (m' : Int)) r f false bt283.1 bt283.2.1 bt283.2.2.1 bt283.2.2.2.1 bt283.2.2.2.2) (fun k => ?_) (Ev.bind hcr hj)
                rw [head, if_neg k0, if_neg k1, if_neg k2, if_neg k3, if_pos k4, hct]
                rfl
              · refine Ev.step (fun k => ?_) (ih 0 d s r f true f' h)
                have hct : disk_Disk_Cut.f d s r f true n = some (d, s, r, f, true) := by
                  unfold disk_Disk_Cut.f
                  rw [if_pos hG, if_pos rfl]
                have hcr : ropewayref08_Cut.f k (nb d) s r f' true n = some (nb d, s, r, f', true) := by
                  unfold ropewayref08_Cut.f
                  rw [if_pos rfl]
                rw [head, if_neg k0, if_neg k1, if_neg k2, if_neg k3, if_pos k4, hct, hcr]
                rfl
            · by_cases k5 : kind = 5
              · have hmf : -1 ≤ mx (-1) n ∧ mx (-1) n ≤ 9223372036854775807 := by unfold mx; split <;> omega
                refine Ev.step (fun k => ?_) (ih 0 d s r (mx (-1) n) o (mx (-1) n) ⟨⟨g1, g2, g3, g4, g5, hmf.1, hmf.2⟩, hmf, fun _ => rfl⟩)
                rw [head, if_neg k0, if_neg k1, if_neg k2, if_neg k3, if_neg k4, if_pos k5, fuse_r]
                rfl
              · refine Ev.step (fun k => ?_) (ih 0 d s r f o f' h)
                rw [head, if_neg k0, if_neg k1, if_neg k2, if_neg k3, if_neg k4, if_neg k5]
end
theorem diskRuns (room : Int) (_ : (Lit.int .i64 room).wf = true) (acts : List S34) (hin : ∀ p ∈ acts, okAct p) : ∃ k, ropewaylaw08_DiskRuns.f k room acts = some true := by
  have h : Ev (fun k => ropewaylaw08_DiskRuns.f k room acts) true := by
    unfold ropewaylaw08_DiskRuns.f
    rw [alive]
    simp only [Option.bind_some, if_true, new_eq, new_r]
    by_cases hl : (acts.length : Int) > 200
    · exact Ev.congr (fun k => if_pos hl) (Ev.now _)
    · have hmr : 0 ≤ mx 0 (mn room 60000) ∧ mx 0 (mn room 60000) ≤ 60000 := by unfold mx mn; (repeat' split) <;> omega
      have hz : (⟨#[]⟩ : ByteArray).size = 0 := rfl
      exact Ev.congr (fun k => if_neg hl) (runs_loop hin (by omega) acts.length 0 _ _ _ _ _ _ (by omega) ⟨⟨by omega, by omega, by omega, hmr.1, hmr.2, by omega, by omega⟩, ⟨by omega, by omega⟩, fun _ => rfl⟩)
  exact h.rounds
end Go.Proofs.Ythoeoooccmjjaaa.Pure
