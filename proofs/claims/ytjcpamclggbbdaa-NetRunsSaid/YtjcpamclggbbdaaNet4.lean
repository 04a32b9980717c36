/- The net's Take. -/
import Derived.Test.YtjcpamclggbbdaaNet3
namespace Go.Proofs.Ytjcpamclggbbdaa.PNgt
open Go.RowKit Go.Proofs.YtjcpamclggbbdaaW.PrintWords Go.Proofs.YtjcpamclggbbdaaW.PrintLast Go.Proofs.YtjcpamclggbbdaaW.PrintMore
attribute [local go_sem] max2_int min2_int max_two min_two max_three min_three max_four min_four
set_option linter.unusedVariables false
set_option linter.unusedSimpArgs false
theorem one72 {w : World} {base : Nat} {ok : Nat → Prop} {l : List S72} {inner : List Value} (h : Reps (k72.M w base ok) 2 l inner) : ∀ u ∈ inner, u.oneCell' = true :=
  Kd.reps_one h (by decide) (fun p c hp => k72.K_one (k72.K_of_M hp))
theorem reps_erase {α : Type} {R : α → List Value → Prop} {l : List α} {inner : List Value} (h : Reps R 2 l inner) (i : Nat) (hi : i < l.length) : Reps R 2 (l.eraseIdx i) (inner.take (i * 2) ++ inner.drop ((i + 1) * 2)) := by
  obtain ⟨h1, h2⟩ := h
  refine ⟨?_, fun j p hj => ?_⟩
  · rw [List.length_append, List.length_take, List.length_drop, List.length_eraseIdx_of_lt hi, h1]
    omega
  · rw [List.getElem?_eraseIdx] at hj
    split at hj
    · rename_i hlt
      have hj2 : j < l.length := (List.getElem?_eq_some_iff.1 hj).1
      have := h2 j p hj
      rw [List.drop_append_of_le_length (by rw [List.length_take, h1]; omega), List.take_append_of_le_length (by rw [List.length_drop, List.length_take, h1]; omega), List.drop_take, List.take_take]
      have e : min 2 (i * 2 - j * 2) = 2 := by omega
      rw [e]
      exact this
    · rename_i hge
      have hj2 : j + 1 < l.length := (List.getElem?_eq_some_iff.1 hj).1
      have := h2 (j + 1) p hj
      have hl : (inner.take (i * 2)).length = i * 2 := by rw [List.length_take, h1]; omega
      rw [List.drop_append, List.drop_eq_nil_of_le (by rw [hl]; omega), hl, List.nil_append, List.drop_drop]
      have e : (i + 1) * 2 + (j * 2 - i * 2) = (j + 1) * 2 := by omega
      rw [e]
      exact this
theorem netErase (g blk cap i : Nat) (l : List S72) (w : World) (base : Nat) (h : NetAt w g (.slice (some ⟨blk, 0, none⟩) l.length cap)) (hR : k72.R 72 w base (fun _ => True) (.slice (some ⟨blk, 0, none⟩) l.length cap) l) (hi : i < l.length) :
    Calls Try.prog 42 #[.slice (some ⟨blk, 0, none⟩) l.length cap, .int .i64 i, .int .i64 ((i : Int) + 1)] w fun e w' => e = .returned (.slice (some ⟨blk, 0, none⟩) (l.eraseIdx i).length cap) ∧ NetAt w' g (.slice (some ⟨blk, 0, none⟩) l.length cap) ∧
      k72.R 72 w' base (fun _ => True) (.slice (some ⟨blk, 0, none⟩) (l.eraseIdx i).length cap) (l.eraseIdx i) ∧ Below base w w' ∧ (∀ k, k ≠ blk → w'.heap[k]? = w.heap[k]?) ∧ w.heap.size ≤ w'.heap.size := by
  obtain ⟨hok, inner, ⟨hil, hown⟩, hreps⟩ := hR
  rcases hown with ⟨h1, _⟩ | ⟨g', cap', cur, hv, hbase, hb, hnc, hm, hcs, htake⟩
  · injection h1 with h2
    cases h2
  injection hv with e1 e2 e3
  injection e1 with e1
  injection e1 with e1
  subst e1 e3
  have hsz2 : k72.sz = 2 := rfl
  rw [hsz2] at hil hcs htake hreps
  have hcl : cur.toList.length = cap * 2 := by rw [← hcs]; simp
  have hle : (l.eraseIdx i).length = i + (l.length - (i + 1)) := by rw [List.length_eraseIdx_of_lt hi]; omega
  have hne : g ≠ blk := by
    rintro rfl
    unfold NetAt at h
    rw [h] at hb
    injection hb with hb
    injection hb with _ hb
    exact absurd hb (by decide)
  refine (netDelete blk l.length cap i (i + 1) cur w hb (by omega) (by omega) hnc (Nat.le_trans hm (by decide)) hcs (by rw [htake]; exact one72 hreps)).mono ?_
  rintro e w' ⟨rfl, rfl⟩
  have hbd : w.drew.heap[blk]? = some (.cells cur 72 (0, 0)) := hb
  have hnl : ((cur.toList.take (l.length * 2)).drop ((i + 1) * 2)).length = (l.length - (i + 1)) * 2 := by rw [List.length_drop, List.length_take, hcl]; omega
  obtain ⟨cur1, hb1, hs1, ht1⟩ := cells_kept (vs := (cur.toList.take (l.length * 2)).drop ((i + 1) * 2)) (o := 0 + i * 2) hbd (by rw [hnl, hcs]; omega)
  obtain ⟨cur2, hb2, hs2, ht2⟩ := cells_kept (vs := zs (l.length - (i + (l.length - (i + 1))))) (o := (i + (l.length - (i + 1))) * 2) hb1 (by rw [zs_length, hs1, hcs]; omega)
  have hfar : ∀ k, k ≠ blk → ((w.drew.setCells blk (0 + i * 2) ((cur.toList.take (l.length * 2)).drop ((i + 1) * 2))).setCells blk ((i + (l.length - (i + 1))) * 2) (zs (l.length - (i + (l.length - (i + 1)))))).heap[k]? = w.heap[k]? := fun k hk =>
    (setCells_far _ _ _ hk).trans (setCells_far _ _ _ hk)
  obtain ⟨a1, a2, a3, a4⟩ := setCells_same blk ((cur.toList.take (l.length * 2)).drop ((i + 1) * 2)) (0 + i * 2) w.drew
  obtain ⟨b1, b2, b3, b4⟩ := setCells_same blk (zs (l.length - (i + (l.length - (i + 1))))) ((i + (l.length - (i + 1))) * 2) (w.drew.setCells blk (0 + i * 2) ((cur.toList.take (l.length * 2)).drop ((i + 1) * 2)))
  generalize (w.drew.setCells blk (0 + i * 2) ((cur.toList.take (l.length * 2)).drop ((i + 1) * 2))).setCells blk ((i + (l.length - (i + 1))) * 2) (zs (l.length - (i + (l.length - (i + 1))))) = w2 at hb2 hfar b1 b2 b3 b4 ⊢
  have hsz : w2.heap.size = w.heap.size := by rw [b4, a4]; rfl
  refine ⟨by rw [hle], (hfar g hne).trans h, ?_, ⟨by rw [b1, a1]; rfl, by rw [b2, a2]; rfl, by rw [b3, a3]; rfl, by omega, fun k hk => hfar k (by omega)⟩, hfar, by omega⟩
  refine ⟨fun _ _ => trivial, inner.take (i * 2) ++ inner.drop ((i + 1) * 2), ⟨?_, .inr ⟨blk, cap, cur2, rfl, hbase, hb2, by rw [hle]; omega, hm, by rw [hs2, hs1, hcs, hsz2], ?_⟩⟩, ?_⟩
  · rw [hle, List.length_append, List.length_take, List.length_drop, hil]
    show _ = (i + (l.length - (i + 1))) * 2
    omega
  · have hcl1 : cur1.toList.length = cap * 2 := by rw [← hcs, ← hs1]; simp
    have hl1 : (cur.toList.take (0 + i * 2)).length = i * 2 := by rw [List.length_take, hcl]; omega
    have hl2 : (cur.toList.take (0 + i * 2) ++ (cur.toList.take (l.length * 2)).drop ((i + 1) * 2)).length = (i + (l.length - (i + 1))) * 2 := by rw [List.length_append, hl1, hnl]; omega
    rw [hle, hsz2, ht2, List.append_assoc, List.take_append_of_le_length (by rw [List.length_take, hcl1]; omega), List.take_take, Nat.min_self, ht1, List.take_append_of_le_length (by rw [hl2]; omega), List.take_of_length_le (by rw [hl2]; omega), htake]
    have e : min (i * 2) (l.length * 2) = 0 + i * 2 := by omega
    rw [← htake, List.take_take, e]
  · refine (reps_erase hreps i hi).imp_ (fun p c hp => ?_)
    refine k72.M_mono (fun k hk => hk) (Kd.M_step hp (fun k hk hlt => hfar k (fun e => hk.2 (by rw [e]; rfl))))
def net_Net_Take.f (l : List S72) (i : Int) : Option (List Int × Bool × List S72) :=
  if 0 ≤ i ∧ i < (l.length : Int) then (if (rd_T72 l i).f0.length < 140737488355328 then some ((rd_T72 l i).f0, true, l.eraseIdx i.toNat) else none) else some ([], false, l)
theorem blk_of_R {w : World} {base cap : Nat} {A : Option Addr} {l : List S72} {ok : Nat → Prop} (h : k72.R 72 w base ok (.slice A l.length cap) l) (hl : 0 < l.length) : ∃ blk, A = some ⟨blk, 0, none⟩ ∧ base ≤ blk ∧ blk < w.heap.size := by
  obtain ⟨inner, ho⟩ := Kd.R_own h
  rcases ho.2 with ⟨_, h1⟩ | ⟨g, cap', cur, hv, hbase, hb, _⟩
  · omega
  · injection hv with e1 _ _
    exact ⟨g, e1, hbase, blk_lt hb⟩
set_option maxHeartbeats 8000000 in
theorem net_Net_Take.calls (g : Nat) (s0_0 : List S72) (a1 : Int) (r1 : List Int) (r2 : Bool) (r3 : List S72) (w0 w : World) (hI : IsS70 w0 w g s0_0) (hB : Below w0.heap.size w0 w) (h : net_Net_Take.f s0_0 a1 = some (r1, r2, r3)) :
    Calls Try.prog 32 #[.pointer (some ⟨g, 0, none⟩), .int .i64 a1] w fun e w' => ∃ v0_ : Value, e = .returned (.tuple #[v0_, .bool r2]) ∧ Kd.R (Kd.int .u8) 5 w' w.heap.size (fun _ => True) v0_ r1 ∧ IsS70 w0 w' g r3 ∧ Below w0.heap.size w0 w' ∧ KeepT w w' g := by
  unfold net_Net_Take.f at h
  obtain ⟨A, c, h1, h2, h3⟩ := id hI
  split at h
  · rename_i hi
    split at h
    case isFalse => cases h
    case isTrue hl =>
    simp only [Option.some.injEq, Prod.mk.injEq] at h
    obtain ⟨rfl, rfl, rfl⟩ := h
    obtain ⟨ia, rfl⟩ : ∃ n : Nat, a1 = (n : Int) := ⟨a1.toNat, by omega⟩
    have hia : ia < s0_0.length := by omega
    obtain ⟨blk, rfl, hbb, hblt⟩ := blk_of_R h2 (by omega)
    have HA := Aside0.mk (netAt_yes g _ c s0_0 (ia : Int) w h1 (Kd.R_reads' h2).2.2 hi.1 hi.2 hl)
    have hw : wrap64 ((ia : Int) + 1) = (ia : Int) + 1 := by
      have := (Kd.R_reads' h2).2.2.2.1
      unfold wrap64
      omega
    have HN := Aside0.mk h1
    have HR := Aside0.mk h2
    have HG := Aside0.mk h3
    have HB0 := Aside0.mk hB
    have HI := Aside0.mk hia
    have HLt := Aside0.mk hblt
    have hne : Aside0 (g ≠ blk) := ⟨fun e => by
      obtain ⟨cells, hc⟩ := Kd.R_typed h2 blk rfl
      subst e
      unfold NetAt at h1
      rw [hc] at h1
      injection h1 with h1
      injection h1 with _ h1
      exact absurd h1 (by decide)⟩
    generalize hfr : (rd_T72 s0_0 (ia : Int)).f0 = fr at HA ⊢
    clear hI hB h1 h2 h3 hi hl hia hbb hblt hfr
    go_enter Try.func32, Try.ntmps32
    go_wp2_with (first | ((with_reducible refine gate_callee (f := 25) rfl ?_); refine goesL_ (some 11) rfl rfl Try.func25 (by kernel_rfl) rfl #[.pointer (some ⟨g, 0, none⟩), .int .i64 (ia : Int)] rfl (by (try simp only [List.map_toArray, List.map_cons, List.map_nil]); first | done | rfl) ?_; (with_reducible refine HA.out.mono ?_); rintro e w1 ⟨u, rfl, hu, hb⟩; refine ⟨_, rfl, ?_⟩; have HU := Aside0.mk hu; have HB1 := Aside0.mk hb; have hn1 := NetAt.below HN.out hb; have k0 := NetAt.c0 hn1; have HD := Aside0.mk (netErase g blk c ia s0_0 w1 w0.heap.size hn1 (Kd.R_below HR.out hb) HI.out); clear hu hb hn1) | (go_at_call 42; (with_reducible refine HD.out.mono ?_); rintro e w2 ⟨rfl, hn2, hr2, hb2, hf2, hs2⟩; have HN2 := Aside0.mk hn2; have HR2 := Aside0.mk hr2; have HB2 := Aside0.mk hb2; have HF2 := Aside0.mk hf2; have HS2 := Aside0.mk hs2; have q0 := NetAt.c0 hn2; have j0 := blk_frozen hn2 0; clear hn2 hr2 hb2 hf2 hs2 HD))
    go_ret2
    refine ⟨_, rfl, ?_, ⟨_, _, NetAt.set0 HN2.out _, R_set70 HN2.out HR2.out, HG.out⟩, ?_, ?_⟩
    · refine Kd.R_mono (Kd.R_step (Kd.R_mono (Kd.R_bound HU.out) (fun k hk => hk.2.1)) (fun k hk hlt => ?_)) (fun _ _ => trivial)
      have hgl := blk_lt HN.out
      have hll := HLt.out
      exact (Below.heap_setCell _ ⟨g, 0, none⟩ _ k (by show k ≠ g; omega)).trans (HF2.out k (by omega))
    · exact (HB0.out.trans ((HB1.out.mono HB0.out.size).trans HB2.out)).setCell (p := ⟨g, 0, none⟩) HG.out _
    · refine ⟨Nat.le_trans HB1.out.size (Nat.le_trans HS2.out (by simp [World.setCell])), fun i cs t fr hi ht hb => ?_⟩
      have hlt := blk_lt hb
      have hib : i ≠ blk := by
        rintro rfl
        obtain ⟨cells, hc⟩ := Kd.R_typed HR.out i rfl
        rw [hc] at hb
        injection hb with hb
        injection hb with _ hb
        exact ht hb.symm
      exact (Below.heap_setCell _ ⟨g, 0, none⟩ _ i hi).trans ((HF2.out i hib).trans (HB1.out.block i hlt))
  · rename_i hi
    simp only [Option.some.injEq, Prod.mk.injEq] at h
    obtain ⟨rfl, rfl, rfl⟩ := h
    have HA := Aside0.mk (netAt_no g A s0_0.length c a1 w h1 hi)
    have HI := Aside0.mk hI
    have HB := Aside0.mk hB
    clear hI hB h1 h2 h3 hi
    go_enter Try.func32, Try.ntmps32
    go_wp2_with (first | ((with_reducible refine gate_callee (f := 25) rfl ?_); refine goesL_ (some 11) rfl rfl Try.func25 (by kernel_rfl) rfl #[.pointer (some ⟨g, 0, none⟩), .int .i64 a1] rfl (by (try simp only [List.map_toArray, List.map_cons, List.map_nil]); first | done | rfl) ?_; (with_reducible refine HA.out.mono ?_); rintro e w1 ⟨rfl, rfl⟩; refine ⟨_, rfl, ?_⟩))
    go_ret2
    exact ⟨_, rfl, Kd.R_nil _ _ _ _ _, HI.out, HB.out, KeepT.refl _ _⟩
def net_New.f : Option (List S72) := some []
theorem net_New.calls (r : List S72) (w0 w : World) (hB : Below w0.heap.size w0 w) (h : net_New.f = some r) :
    Calls Try.prog 24 #[] w fun e w' => ∃ g_ : Nat, e = .returned (.pointer (some ⟨g_, 0, none⟩)) ∧ IsS70 w0 w' g_ r ∧ Below w0.heap.size w0 w' ∧ Below w.heap.size w w' := by
  obtain rfl := Option.some.inj h
  refine (netNew w).mono ?_
  rintro e w' ⟨rfl, rfl⟩
  exact ⟨_, rfl, ⟨none, 0, blk_new w _, Kd.R_nil _ _ _ _ _, hB.size⟩, below_alloc hB _, below_alloc (Below.refl _ _) _⟩
end Go.Proofs.Ytjcpamclggbbdaa.PNgt
