/- A net beside rows of others: its items and their frames lie in blocks that are none of the others' (IsV); the net's functions keep it so. -/
import Derived.Test.YtjcpamclggbbdaaNetB
namespace Go.Proofs.Ytjcpamclggbbdaa.PNru
open Go.RowKit Go.Proofs.Ytjcpamclggbbdaa.PNgt Go.Proofs.YtjcpamclggbbdaaW.PrintWords Go.Proofs.YtjcpamclggbbdaaW.PrintLast Go.Proofs.YtjcpamclggbbdaaW.PrintMore
attribute [local go_sem] max2_int min2_int max_two min_two max_three min_three max_four min_four
set_option linter.unusedVariables false
set_option linter.unusedSimpArgs false
def p3.T3 : Bool × List (List Nat × List Nat) := (true, [([], []), ([], []), ([1], [1]), ([2], [2]), ([3], [3]), ([], []), ([5], [5]), ([6], [6]), ([], []), ([8], [8]), ([7, 9], [7, 9]), ([10], [10]), ([4, 11, 7], [4, 11]), ([0, 0, 1, 2, 3, 4, 5, 6, 7, 8, 9, 10, 11, 12], [0]), ([13, 0, 1, 2, 3, 4, 5, 6, 7, 8, 9, 10, 11, 12], [13]), ([14, 12, 12, 0, 1, 2, 3, 4, 5, 6, 7, 8, 9, 10, 11, 12], [12, 14])])
def p3.B3 : List Nat := [0, 0, 2, 6, 14, 0, 32, 96, 0, 256, 992, 2016, 4094, 8191, 16383, 32767]
theorem p3.tab3 : rtab .any (opsOf Try.f41 3) = p3.T3 := by kernel_rfl
theorem p3.bits3 : waitsOk p3.T3.2 p3.B3 = true := by kernel_rfl
theorem size_setCell (W : World) (p : Addr) (u : Value) : (W.setCell p u).heap.size = W.heap.size := by simp [World.setCell]
def IsV (P : Nat → Prop) (w0 W : World) (g : Nat) (l : List S72) : Prop := (∃ A c, NetAt W g (.slice A l.length c) ∧ k72.R 72 W w0.heap.size (fun k => ¬ P k) (.slice A l.length c) l ∧ w0.heap.size ≤ g) ∧ ∀ k, P k → k < W.heap.size ∧ k ≠ g
/-- What a call on a net keeps: every block that is not the net's nor one of items, and the blocks of others. -/
def KeepU (P : Nat → Prop) (w w' : World) (g : Nat) : Prop := KeepT w w' g ∧ ∀ k, P k → w'.heap[k]? = w.heap[k]?
theorem KeepU.refl (P : Nat → Prop) (w : World) (g : Nat) : KeepU P w w g := ⟨KeepT.refl _ _, fun _ _ => rfl⟩
theorem KeepU.of_below {P : Nat → Prop} {w w' : World} (h : Below w.heap.size w w') (g : Nat) (hP : ∀ k, P k → k < w.heap.size ∧ k ≠ g) : KeepU P w w' g := ⟨KeepT.of_below h g, fun k hk => h.block k (hP k hk).1⟩
theorem KeepU.of_kept {P : Nat → Prop} {w w' : World} {g base : Nat} {v : Value} {l : List S72} (hk : Kept w w' (fun k => k = g ∨ some k = v.ownBlock)) (hR : k72.R 72 w base (fun k => ¬ P k) v l) (hP : ∀ k, P k → k < w.heap.size ∧ k ≠ g) : KeepU P w w' g := by
  refine ⟨⟨hk.1, fun i cs t fr hi ht hb => hk.2 i (blk_lt hb) ?_⟩, fun k hp => hk.2 k (hP k hp).1 ?_⟩
  · rintro (h | h)
    · exact hi h
    · obtain ⟨cells, hc⟩ := Kd.R_typed hR i h.symm
      rw [hc] at hb
      injection hb with hb
      injection hb with _ hb
      exact ht hb.symm
  · rintro (h | h)
    · exact (hP k hp).2 h
    · exact hR.1 k h.symm hp
section
variable {P P' Q : Nat → Prop} {w0 W W1 : World} {g : Nat} {l : List S72}
theorem IsV.any (h : IsV P w0 W g l) : IsS70 w0 W g l := by
  obtain ⟨⟨A, c, h1, h2, h3⟩, _⟩ := h
  exact ⟨A, c, h1, Kd.R_mono h2 (fun _ _ => trivial), h3⟩
theorem IsV.below (h : IsV P w0 W g l) (hb : Below W.heap.size W W1) : IsV P w0 W1 g l := by
  obtain ⟨⟨A, c, h1, h2, h3⟩, h4⟩ := h
  exact ⟨⟨A, c, NetAt.below h1 hb, Kd.R_below h2 hb, h3⟩, fun k hk => ⟨Nat.lt_of_lt_of_le (h4 k hk).1 hb.size, (h4 k hk).2⟩⟩
theorem IsV.alloc (h : IsV P w0 W g l) (o : Obj) : IsV P w0 (W.alloc o) g l := h.below (below_alloc (Below.refl _ _) o)
theorem IsV.drewN (h : IsV P w0 W g l) (m : Nat) : IsV P w0 (W.drewN m) g l := h.below (pw_below_drewN (Below.refl _ _) m)
theorem IsV.drew (h : IsV P w0 W g l) : IsV P w0 W.drew g l := h.below (below_drew (Below.refl _ _))
theorem IsV.lt (h : IsV P w0 W g l) : g < W.heap.size := IsS70.lt h.any
theorem IsV.ge (h : IsV P w0 W g l) : w0.heap.size ≤ g := IsS70.ge h.any
theorem IsV.ne_blk {a : Nat} {cs : Array Value} {t : TypeId} {fr : Nat × Nat} (h : IsV P w0 W g l) (hb2 : W.heap[a]? = some (.cells cs t fr)) (ht : t ≠ 70) : g ≠ a := IsS70.ne_blk h.any hb2 ht
/-- Blocks of others change, others come. -/
theorem IsV.go (h : IsV P w0 W g l) (hk : Kept W W1 Q) (hQ : ∀ k, Q k → P k) (hP : ∀ k, P' k → (P k ∨ W.heap.size ≤ k) ∧ k < W1.heap.size) : IsV P' w0 W1 g l := by
  obtain ⟨⟨A, c, h1, h2, h3⟩, h4⟩ := h
  have hg2 : g < W.heap.size := blk_lt h1
  have hg : ¬ Q g := fun hq => (h4 g (hQ g hq)).2 rfl
  refine ⟨⟨A, c, (hk.2 g hg2 hg).trans h1, ?_, h3⟩, fun k hp => ⟨(hP k hp).2, ?_⟩⟩
  · have hb : k72.R 72 W w0.heap.size (fun k => ¬ P k ∧ k < W.heap.size) (.slice A l.length c) l := Kd.R_mono (Kd.R_bound h2) (fun k hk => ⟨hk.1, hk.2.2.1⟩)
    refine Kd.R_mono (Kd.R_move hb (fun k hk2 => hk.2 k hk2.2 (fun hq => hk2.1 (hQ k hq)))) (fun k hk2 hp => ?_)
    rcases (hP k hp).1 with h5 | h5
    · exact hk2.1 h5
    · omega
  · rcases (hP k hp).1 with h5 | h5
    · exact (h4 k h5).2
    · omega
theorem IsV.of (h : IsS70 w0 W g l) : IsV (fun _ => False) w0 W g l := by
  obtain ⟨A, c, h1, h2, h3⟩ := h
  exact ⟨⟨A, c, h1, Kd.R_mono h2 (fun _ _ h => h), h3⟩, fun k hk => hk.elim⟩
theorem IsV.next (h : IsV P w0 W g l) (hb : Below W.heap.size W W1) (hP : ∀ k, P' k → (P k ∨ W.heap.size ≤ k) ∧ k < W1.heap.size) : IsV P' w0 W1 g l :=
  IsV.go h (Kept.of_below hb (fun _ => False)) (fun _ hq => hq.elim) hP
end

set_option maxHeartbeats 8000000 in
theorem put_roomN (N : Nat → Prop) (g : Nat) (A A0 : Option Addr) (c c0 : Nat) (l : List S72) (f : List Int) (b : Bool) (w w0 : World) (base : Nat) (h : NetAt w g (.slice A l.length c)) (hR : k72.R 72 w base N (.slice A l.length c) l) (hN : ∀ k, w.heap.size ≤ k → N k) (hf : Kd.C (Kd.int .u8) w A0 f.length f) (hc : f.length ≤ c0) (hlen : f.length < 140737488355328)
    (hB : Below base w0 w) (hg : base ≤ g) (hn : l.length < 3000) :
    Calls Try.prog 41 #[.pointer (some ⟨g, 0, none⟩), .agg #[.slice A0 f.length c0, .bool b]] w fun e w' => e = .returned (.bool true) ∧ ∃ A1 c1, NetAt w' g (.slice A1 (l ++ [(S72.mk f b)]).length c1) ∧ k72.R 72 w' base N (.slice A1 (l ++ [(S72.mk f b)]).length c1) (l ++ [(S72.mk f b)]) ∧ Below base w0 w' ∧ Kept w w' (fun k => k = g ∨ some k = (.slice A l.length c : Value).ownBlock) := by
  obtain ⟨ys, hys⟩ : ∃ ys : List S72, Aside0 (ys = l ++ [(S72.mk f b)]) := ⟨_, ⟨rfl⟩⟩
  rw [← hys.out]
  have hbs := netSize h hg
  obtain ⟨W0, hW0⟩ : ∃ W0, W0 = w.alloc (.cells #[.slice A0 f.length c0, .bool b] 72) := ⟨_, rfl⟩
  have hb0 : Below w.heap.size w W0 := by rw [hW0]; exact below_alloc (Below.refl _ _) _
  have HBw := Aside0.mk hb0
  have HN := Aside0.mk h
  have HN0 := Aside0.mk (NetAt.below h hb0)
  have HBx : Aside0 (W0.heap[w.heap.size]? = some (.cells #[.slice A0 f.length c0, .bool b] 72 (0, 0))) := ⟨by rw [hW0]; exact blk_new w _⟩
  have HF := Aside0.mk (Kd.C_drew (Kd.C_below hf hb0))
  have HFc := Aside0.mk hc
  have HCl : Aside0 (slices_Clone_byte_byte.f f = some f) := ⟨by unfold slices_Clone_byte_byte.f; rw [if_pos hlen]⟩
  have HR := Aside0.mk (Kd.R_drew (Kd.R_below hR hb0))
  have HRw := Aside0.mk hR
  have HG0 : Aside0 (base ≤ W0.drew.heap.size) := ⟨Nat.le_trans hbs hb0.size⟩
  have HB0 : Aside0 (Below base w0 W0.drew) := ⟨(hB.trans (hb0.mono hbs)).drew⟩
  have HLn : Aside0 ((l.length + 1) * 32 ≤ 140737488355328) := ⟨by omega⟩
  have HNf : Aside0 (∀ k, w.heap.size ≤ k → N k) := ⟨hN⟩
  have HOK : Aside0 (∀ k, W0.heap.size ≤ k → N k ∧ some k ≠ (.slice A l.length c : Value).ownBlock) := ⟨fun k hk => ⟨hN k (Nat.le_trans hb0.size hk), fun e => by have := Kd.R_lt hR k e.symm; have := hb0.size; omega⟩⟩
  have HNe : Aside0 (some g ≠ (.slice A l.length c : Value).ownBlock) := ⟨Kd.R_ne hR h (by decide)⟩
  have HNb : Aside0 (some w.heap.size ≠ (.slice A l.length c : Value).ownBlock) := ⟨fun e => by have := Kd.R_lt hR _ e.symm; omega⟩
  have HGg := Aside0.mk hg
  have hd : decide (3000 ≤ (l.length : Int)) = false := decide_eq_false (by omega)
  have hd2 : (3000 ≤ l.length) = False := eq_false (by omega)
  have h0 := NetAt.c0 HN0.out
  have x0 := cell_of_row _ _ 0 _ _ _ HBx.out
  have x1 := cell_of_row _ _ 1 _ _ _ HBx.out
  simp only [List.getElem?_toArray, List.getElem?_cons_zero, List.getElem?_cons_succ] at x0 x1
  have hWk := Aside0.mk hW0
  rw [hW0] at h0 x0 x1
  clear h hR hN hf hc hlen hB hg hn hb0 hbs hW0
  go_enter Try.func41, Try.ntmps41
  go_wp2
  rw [← hWk.out]
  refine start_ (n := 16) (S := fun w' => NetAt w' g (.slice A l.length c) ∧ w'.heap[w.heap.size]? = some (.cells #[.slice A0 f.length c0, .bool b] 72 (0, 0))) (ds := [12, 15]) #[false, false, false, false, false, false, false, false, false, false, false, false, false, false, false, false] (by kernel_rfl) rfl rfl ⟨HN0.out, HBx.out⟩ (fun hHeld => ?_)
  refine with_tabW p3.tab3 p3.bits3 (fun HT_ HW_ => ?_)
  refine pure_ (i := 0) (N := some 11) (v := ?_) (a' := ?_) #[true, false, false, false, false, false, false, false, false, false, false, false, false, false, false, false] rfl rfl (any_of HT_.out (by kernel_rfl)) (fun _ _ _ h => h) (Or.inl ⟨by rfl, ?_⟩) ?_ ?_
  rotate_left
  · intro w'
    go_simp
    with_reducible rfl
  rotate_left
  · simp only [Act.put, List.setIfInBounds_toArray, List.set_cons_zero, List.set_cons_succ, i64_w, i32_w]
    rfl
  refine pure_ (i := 1) (N := some 12) (v := ?_) (a' := ?_) #[true, true, false, false, false, false, false, false, false, false, false, false, false, false, false, false] rfl rfl (any_of HT_.out (by kernel_rfl)) (fun _ _ _ h => h) (Or.inl ⟨by rfl, ?_⟩) ?_ ?_
  rotate_left
  · intro w'
    go_simp
    with_reducible rfl
  rotate_left
  · simp only [Act.put, List.setIfInBounds_toArray, List.set_cons_zero, List.set_cons_succ, i64_w, i32_w]
    rfl
  refine pure_ (i := 2) (N := some 13) (v := ?_) (a' := ?_) #[true, true, true, false, false, false, false, false, false, false, false, false, false, false, false, false] rfl rfl (any_of HT_.out (by kernel_rfl)) (fun _ _ _ h => h) (Or.inl ⟨by rfl, ?_⟩) ?_ ?_
  rotate_left
  · intro w'
    go_simp
    with_reducible rfl
  rotate_left
  · simp only [Act.put, List.setIfInBounds_toArray, List.set_cons_zero, List.set_cons_succ, i64_w, i32_w]
    rfl
  refine pure_ (i := 3) (N := some 14) (v := ?_) (a' := ?_) #[true, true, true, true, false, false, false, false, false, false, false, false, false, false, false, false] rfl rfl (any_of HT_.out (by kernel_rfl)) (fun _ _ _ h => h) (Or.inl ⟨by rfl, ?_⟩) ?_ ?_
  rotate_left
  · intro w'
    go_simp
    with_reducible rfl
  rotate_left
  · simp only [Act.put, List.setIfInBounds_toArray, List.set_cons_zero, List.set_cons_succ, i64_w, i32_w]
    rfl
  refine pure_ (i := 5) (N := some 16) (v := ?_) (a' := ?_) #[true, true, true, true, false, true, false, false, false, false, false, false, false, false, false, false] rfl rfl (any_of HT_.out (by kernel_rfl)) (fun _ _ _ h => h) (Or.inl ⟨by rfl, ?_⟩) ?_ ?_
  rotate_left
  · intro w'
    go_simp
    with_reducible rfl
  rotate_left
  · simp only [Act.put, List.setIfInBounds_toArray, List.set_cons_zero, List.set_cons_succ, i64_w, i32_w]
    rfl
  refine pure_ (i := 8) (N := some 19) (v := ?_) (a' := ?_) #[true, true, true, true, false, true, false, false, true, false, false, false, false, false, false, false] rfl rfl (any_of HT_.out (by kernel_rfl)) (fun _ _ _ h => h) (Or.inl ⟨by rfl, ?_⟩) ?_ ?_
  rotate_left
  · intro w'
    go_simp
    with_reducible rfl
  rotate_left
  · simp only [Act.put, List.setIfInBounds_toArray, List.set_cons_zero, List.set_cons_succ, i64_w, i32_w]
    rfl
  refine take_ (i := 4) (N := some 15) (v := ?_) (a' := ?_) #[true, true, true, true, true, true, false, false, true, false, false, false, false, false, false, false] rfl rfl (take_ofW HT_.out HW_.out (by kernel_rfl)) (fun _ _ _ h => h) (Or.inl ⟨by rfl, ?_⟩) hHeld ?_ ?_
  rotate_left
  · rintro w' ⟨s0, s1⟩
    have k0 := NetAt.c0 s0
    have k1 := cell_of_row _ _ 0 _ _ _ s1
    have k2 := cell_of_row _ _ 1 _ _ _ s1
    simp only [List.getElem?_toArray, List.getElem?_cons_zero, List.getElem?_cons_succ] at k1 k2
    go_simp
    with_reducible rfl
  rotate_left
  · simp only [Act.put, List.setIfInBounds_toArray, List.set_cons_zero, List.set_cons_succ, i64_w, i32_w]
    rfl
  refine take_ (i := 6) (N := some 17) (v := ?_) (a' := ?_) #[true, true, true, true, true, true, true, false, true, false, false, false, false, false, false, false] rfl rfl (take_ofW HT_.out HW_.out (by kernel_rfl)) (fun _ _ _ h => h) (Or.inl ⟨by rfl, ?_⟩) hHeld ?_ ?_
  rotate_left
  · rintro w' ⟨s0, s1⟩
    have k0 := NetAt.c0 s0
    have k1 := cell_of_row _ _ 0 _ _ _ s1
    have k2 := cell_of_row _ _ 1 _ _ _ s1
    simp only [List.getElem?_toArray, List.getElem?_cons_zero, List.getElem?_cons_succ] at k1 k2
    go_simp
    with_reducible rfl
  rotate_left
  · simp only [Act.put, List.setIfInBounds_toArray, List.set_cons_zero, List.set_cons_succ, i64_w, i32_w]
    rfl
  refine take_ (i := 9) (N := some 20) (v := ?_) (a' := ?_) #[true, true, true, true, true, true, true, false, true, true, false, false, false, false, false, false] rfl rfl (take_ofW HT_.out HW_.out (by kernel_rfl)) (fun _ _ _ h => h) (Or.inl ⟨by rfl, ?_⟩) hHeld ?_ ?_
  rotate_left
  · rintro w' ⟨s0, s1⟩
    have k0 := NetAt.c0 s0
    have k1 := cell_of_row _ _ 0 _ _ _ s1
    have k2 := cell_of_row _ _ 1 _ _ _ s1
    simp only [List.getElem?_toArray, List.getElem?_cons_zero, List.getElem?_cons_succ] at k1 k2
    go_simp
    with_reducible rfl
  rotate_left
  · simp only [Act.put, List.setIfInBounds_toArray, List.set_cons_zero, List.set_cons_succ, i64_w, i32_w]
    rfl
  refine one_ (i := 7) (N := some 18) #[true, true, true, true, true, true, true, true, true, true, false, false, false, false, false, false] rfl rfl (one_of HT_.out (by kernel_rfl)) (by decide) (fun K hK => ?_)
  refine goes_ Try.func38 (by kernel_rfl) rfl #[.slice A0 f.length c0] (by rfl) rfl rfl (by (try simp only [List.map_toArray, List.map_cons, List.map_nil]); first | done | rfl) ?_
  with_reducible refine (slices_Clone_byte_byte.calls A0 c0 f f _ HF.out HFc.out HCl.out).mono ?_
  rintro e w2 ⟨u, rfl, hu, hb⟩
  refine ⟨_, rfl, ?_⟩
  have HU := Aside0.mk hu
  have HB2 := Aside0.mk hb
  have hs0 := NetAt.below hHeld.1 hb
  have hs1 := blk_below hHeld.2 hb
  obtain ⟨Au, cu, eu⟩ := Kd.R_slice hu
  subst eu
  clear hu hb
  refine hK.out _ _ ⟨hs0, hs1⟩ (fun hHeld => ?_)
  clear hK K
  refine norm_ (a' := ?_) ?_ ?_
  rotate_left
  · show Act.put _ (some 18) _ = _
    simp only [Act.put, List.setIfInBounds_toArray, List.set_cons_zero, List.set_cons_succ, i64_w, i32_w]
    rfl
  refine pure_ (i := 10) (N := some 21) (v := ?_) (a' := ?_) #[true, true, true, true, true, true, true, true, true, true, true, false, false, false, false, false] rfl rfl (any_of HT_.out (by kernel_rfl)) (fun _ _ _ h => h) (Or.inl ⟨by rfl, ?_⟩) ?_ ?_
  rotate_left
  · intro w'
    go_simp
    with_reducible rfl
  rotate_left
  · simp only [Act.put, List.setIfInBounds_toArray, List.set_cons_zero, List.set_cons_succ, i64_w, i32_w]
    rfl
  refine one_ (i := 11) (N := some 22) #[true, true, true, true, true, true, true, true, true, true, true, true, false, false, false, false] rfl rfl (one_of HT_.out (by kernel_rfl)) (by decide) (fun K hK => ?_)
  refine value_ (w1 := ?_) (v := ?_) (by rfl) rfl ?_ ?_
  rotate_left 2
  · go_simp
    constructor
    · rfl
    · rfl
  refine hK.out _ _ ⟨(NetAt.below hHeld.1 (below_alloc (Below.refl _ _) _)), (blk_alloc hHeld.2 _)⟩ (fun hHeld => ?_)
  clear hK K
  refine norm_ (a' := ?_) ?_ ?_
  rotate_left
  · show Act.put _ (some 22) _ = _
    simp only [Act.put, List.setIfInBounds_toArray, List.set_cons_zero, List.set_cons_succ, i64_w, i32_w]
    rfl
  refine last_ (i := 12) (N := some 23) #[true, true, true, true, true, true, true, true, true, true, true, true, true, false, false, false] rfl rfl (one_of HT_.out (by kernel_rfl)) (by decide) (fun K hK => ?_)
  refine Kd.R_append_step k72 (w0 := w0) base (by rfl) (.tmp 15) (.tmp 22) 68 72 (.agg zItem) 32 rfl Try.underlying68 info72s rfl (by decide) (by omega) (.slice A l.length c) l (S72.mk f b) [.slice Au f.length cu, .bool b] N (fun k => W0.heap.size ≤ k) rfl rfl (k72_mkM _ _ _ (S72.mk f b) (Kd.R_lower (Kd.R_mono (Kd.R_bound HU.out) (fun k hk => hk.2.1)) HG0.out)) HOK.out (fun k hk => HNf.out k (Nat.le_trans HBw.out.size (Nat.le_trans HB2.out.size hk))) (Kd.R_below HR.out HB2.out) (HB0.out.trans (HB2.out.mono HG0.out)) (Nat.le_trans HG0.out HB2.out.size) HLn.out ?_
  intro v1 w3 ho hb hg hat
  rw [← hys.out] at ho
  obtain ⟨A1, c1, e1_⟩ := Kd.R_slice ho
  subst e1_
  have HO := Aside0.mk ho
  have HB3 := Aside0.mk hb
  have HGr := Aside0.mk hg
  have hs0 := NetAt.grown (NetAt.below (show NetAt W0.drew g _ from HN0.out) HB2.out) hg HNe.out
  have q0 := NetAt.c0 hs0
  have j0 := blk_frozen hs0 0
  clear ho hb hg hat
  refine hK.out _ _ ?_
  clear hK K
  refine norm_ (a' := ?_) ?_ ?_
  rotate_left
  · show Act.put _ (some 23) _ = _
    simp only [Act.put, List.setIfInBounds_toArray, List.set_cons_zero, List.set_cons_succ, i64_w, i32_w]
    rfl
  refine pure_ (i := 13) (N := some 24) (v := ?_) (a' := ?_) #[true, true, true, true, true, true, true, true, true, true, true, true, true, true, false, false] rfl rfl (any_of HT_.out (by kernel_rfl)) (fun _ _ _ h => h) (Or.inl ⟨by rfl, ?_⟩) ?_ ?_
  rotate_left
  · intro w'
    go_simp
    with_reducible rfl
  rotate_left
  · simp only [Act.put, List.setIfInBounds_toArray, List.set_cons_zero, List.set_cons_succ, i64_w, i32_w]
    rfl
  refine pure_ (i := 14) (N := some 25) (v := ?_) (a' := ?_) #[true, true, true, true, true, true, true, true, true, true, true, true, true, true, true, false] rfl rfl (any_of HT_.out (by kernel_rfl)) (fun _ _ _ h => h) (Or.inl ⟨by rfl, ?_⟩) ?_ ?_
  rotate_left
  · intro w'
    go_simp
    with_reducible rfl
  rotate_left
  · simp only [Act.put, List.setIfInBounds_toArray, List.set_cons_zero, List.set_cons_succ, i64_w, i32_w]
    rfl
  refine last_ (i := 15) (N := none) #[true, true, true, true, true, true, true, true, true, true, true, true, true, true, true, true] rfl rfl (one_of HT_.out (by kernel_rfl)) (by decide) (fun K hK => ?_)
  refine skip_ (w1 := ?_) (by rfl) rfl ?_ ?_
  rotate_left
  · go_simp
    rfl
  refine hK.out _ _ ?_
  clear hK K
  refine done_ (done_of HT_.out (by kernel_rfl)) ?_

  have q1 := NetAt.set0 hs0 (.slice A1 ys.length c1)
  have Q1 := Aside0.mk q1
  have HS0 := Aside0.mk hs0
  clear q1 hs0 q0 j0 hHeld
  go_wp2
  go_ret
  exact ⟨rfl, A1, c1, Q1.out, R_set70 HS0.out HO.out, HB3.out.setCell (p := ⟨g, 0, none⟩) HGg.out _, Kept.setCell (Kept.of_grown HGr.out (Kept.below (Kept.of_below HBw.out.drew _) HB2.out) (fun k e => .inl (.inr e.symm))) (.inl (.inl rfl)) _⟩
theorem put_stateV (P : Nat → Prop) (g : Nat) (A0 : Option Addr) (c0 : Nat) (l : List S72) (f : List Int) (b : Bool) (w w0 : World) (hI : IsV P w0 w g l) (hf : Kd.C (Kd.int .u8) w A0 f.length f) (hc : f.length ≤ c0) (hlen : f.length < 140737488355328) (hB : Below w0.heap.size w0 w) :
    Calls Try.prog 41 #[.pointer (some ⟨g, 0, none⟩), .agg #[.slice A0 f.length c0, .bool b]] w fun e w' => e = .returned (.bool (decide (l.length < 3000))) ∧ IsV P w0 w' g (after l f b) ∧ Below w0.heap.size w0 w' ∧ KeepU P w w' g := by
  obtain ⟨⟨A, c, h1, h2, h3⟩, h4⟩ := id hI
  unfold after
  by_cases hn : l.length < 3000
  · rw [if_pos hn, decide_eq_true hn]
    refine (put_roomN (fun k => ¬ P k) g A A0 c c0 l f b w w0 _ h1 h2 (fun k hk hp => by have := (h4 k hp).1; omega) hf hc hlen hB h3 hn).mono ?_
    rintro e w' ⟨rfl, A1, c1, k1, k2, k3, k4⟩
    exact ⟨rfl, ⟨⟨A1, c1, k1, k2, h3⟩, fun k hk => ⟨Nat.lt_of_lt_of_le (h4 k hk).1 k4.1, (h4 k hk).2⟩⟩, k3, KeepU.of_kept k4 h2 h4⟩
  · rw [if_neg hn, decide_eq_false hn]
    refine (put_full g A _ c _ b w h1 (by omega)).mono ?_
    rintro e w' ⟨rfl, rfl⟩
    have hb := below_alloc (Below.refl w.heap.size w) (.cells #[.slice A0 f.length c0, .bool b] 72)
    exact ⟨rfl, IsV.below hI hb, hB.trans (hb.mono hB.size), KeepU.of_below hb g h4⟩
set_option maxHeartbeats 8000000 in
theorem net_Net_Put.calls (P : Nat → Prop) (g : Nat) (s0_0 : List S72) (A1 : Option Addr) (c1 : Nat) (l1 : List Int) (r1 : Bool) (r2 : List S72) (w0 w : World) (hI : IsV P w0 w g s0_0) (hB : Below w0.heap.size w0 w) (hr1 : Kd.C (Kd.int .u8) w A1 l1.length l1) (hc1 : l1.length ≤ c1) (hf1 : ∀ ad, A1 = some ad → 0 < l1.length → ad.block ≠ g) (h : net_Net_Put.f s0_0 l1 = some (r1, r2)) :
    Calls Try.prog 30 #[.pointer (some ⟨g, 0, none⟩), .slice A1 l1.length c1] w fun e w' => e = .returned (.bool r1) ∧ IsV P w0 w' g r2 ∧ Below w0.heap.size w0 w' ∧ KeepU P w w' g := by
  unfold net_Net_Put.f at h
  split at h
  case isFalse => cases h
  case isTrue hl =>
  simp only [Option.some.injEq, Prod.mk.injEq] at h
  obtain ⟨rfl, rfl⟩ := h
  have HP := Aside0.mk (put_stateV P g A1 c1 s0_0 l1 false w w0 hI hr1 hc1 hl hB)
  clear hI hB hr1 hc1 hf1 hl
  go_enter Try.func30, Try.ntmps30
  go_wp2_with (first | ((with_reducible refine gate_callee (f := 41) rfl ?_); refine goesL_ (some 8) rfl rfl Try.func41 (by kernel_rfl) rfl #[.pointer (some ⟨g, 0, none⟩), .agg #[.slice A1 l1.length c1, .bool false]] rfl (by (try simp only [List.map_toArray, List.map_cons, List.map_nil]); first | done | rfl) ?_; (with_reducible refine HP.out.mono ?_); rintro e w1 ⟨rfl, hi, hb, hk⟩; refine ⟨_, rfl, ?_⟩; have HI := Aside0.mk hi; have HB := Aside0.mk hb; have HK := Aside0.mk hk; clear hi hb hk))
  go_ret
  exact ⟨rfl, HI.out, HB.out, HK.out⟩
set_option maxHeartbeats 8000000 in
theorem net_Net_Double.calls (P : Nat → Prop) (g : Nat) (s0_0 : List S72) (a1 : Int) (r1 : Bool) (r2 : List S72) (w0 w : World) (hI : IsV P w0 w g s0_0) (hB : Below w0.heap.size w0 w) (h : net_Net_Double.f s0_0 a1 = some (r1, r2)) :
    Calls Try.prog 28 #[.pointer (some ⟨g, 0, none⟩), .int .i64 a1] w fun e w' => e = .returned (.bool r1) ∧ IsV P w0 w' g r2 ∧ Below w0.heap.size w0 w' ∧ KeepU P w w' g := by
  unfold net_Net_Double.f at h
  obtain ⟨⟨A, c, h1, h2, h3⟩, h4⟩ := id hI
  have HT := Aside0.mk (netThere g A s0_0.length c a1 w h1)
  split at h
  · rename_i hi
    split at h
    case isFalse => cases h
    case isTrue hl =>
    simp only [Option.some.injEq, Prod.mk.injEq] at h
    obtain ⟨rfl, rfl⟩ := h
    rw [decide_eq_true hi] at HT
    obtain ⟨ad, A0, c0, rfl, x0, x1, hl2, hF⟩ := at_T72 (Kd.R_reads' h2).2.2 a1 hi.1 hi.2
    have HP := Aside0.mk (put_stateV P g A0 c0 s0_0 (rd_T72 s0_0 a1).f0 (rd_T72 s0_0 a1).f1 w w0 hI hF hl2 hl hB)
    have d0 : decide (0 ≤ a1) = true := decide_eq_true hi.1
    have d1 : decide (a1 < (s0_0.length : Int)) = true := decide_eq_true hi.2
    have b0 := eq_true hi.1
    have b1 := eq_true hi.2
    have h0 := h1.c0
    clear hI hB h1 h2 h3 h4 hl hl2 hF hi
    go_enter Try.func28, Try.ntmps28
    go_wp2_with (first | ((with_reducible refine gate_callee (f := 40) rfl ?_); refine goesL_ (some 7) rfl rfl Try.func40 (by kernel_rfl) rfl #[.pointer (some ⟨g, 0, none⟩), .int .i64 a1] rfl (by (try simp only [List.map_toArray, List.map_cons, List.map_nil]); first | done | rfl) ?_; (with_reducible refine HT.out.mono ?_); rintro e w1 ⟨rfl, rfl⟩; refine ⟨_, rfl, ?_⟩) | (go_at_call 41; (with_reducible refine HP.out.mono ?_); rintro e w1 ⟨rfl, hi, hb, hk⟩; have HI := Aside0.mk hi; have HB := Aside0.mk hb; have HK := Aside0.mk hk; clear hi hb hk))
    go_ret
    exact ⟨rfl, HI.out, HB.out, HK.out⟩
  · rename_i hi
    simp only [Option.some.injEq, Prod.mk.injEq] at h
    obtain ⟨rfl, rfl⟩ := h
    rw [decide_eq_false hi] at HT
    have HI := Aside0.mk hI
    have HB := Aside0.mk hB
    clear hI hB h1 h2 h3 h4 hi
    go_enter Try.func28, Try.ntmps28
    go_wp2_with (first | ((with_reducible refine gate_callee (f := 40) rfl ?_); refine goesL_ (some 7) rfl rfl Try.func40 (by kernel_rfl) rfl #[.pointer (some ⟨g, 0, none⟩), .int .i64 a1] rfl (by (try simp only [List.map_toArray, List.map_cons, List.map_nil]); first | done | rfl) ?_; (with_reducible refine HT.out.mono ?_); rintro e w1 ⟨rfl, rfl⟩; refine ⟨_, rfl, ?_⟩))
    go_ret
    exact ⟨rfl, HI.out, HB.out, KeepU.refl _ _ _⟩
theorem netEraseN (N : Nat → Prop) (g blk cap i : Nat) (l : List S72) (w : World) (base : Nat) (h : NetAt w g (.slice (some ⟨blk, 0, none⟩) l.length cap)) (hR : k72.R 72 w base N (.slice (some ⟨blk, 0, none⟩) l.length cap) l) (hi : i < l.length) :
    Calls Try.prog 42 #[.slice (some ⟨blk, 0, none⟩) l.length cap, .int .i64 i, .int .i64 ((i : Int) + 1)] w fun e w' => e = .returned (.slice (some ⟨blk, 0, none⟩) (l.eraseIdx i).length cap) ∧ NetAt w' g (.slice (some ⟨blk, 0, none⟩) l.length cap) ∧
      k72.R 72 w' base N (.slice (some ⟨blk, 0, none⟩) (l.eraseIdx i).length cap) (l.eraseIdx i) ∧ Below base w w' ∧ (∀ k, k ≠ blk → w'.heap[k]? = w.heap[k]?) ∧ w.heap.size ≤ w'.heap.size := by
  obtain ⟨hok, inner, ⟨hil, hown⟩, hreps⟩ := hR
  rcases hown with ⟨h1, _⟩ | ⟨g', cap', cur, hv, hbase, hb, hnc, hm, hcs, htake⟩
  · injection h1 with h2
    cases h2
  injection hv with e1 e2 e3
  injection e1 with e1
  injection e1 with e1
  subst e1 e3
  have hsz2 : k72.sz = 2 := rfl
  rw [hsz2] at hil hcs htake hreps
  have hcl : cur.toList.length = cap * 2 := by rw [← hcs]; simp
  have hle : (l.eraseIdx i).length = i + (l.length - (i + 1)) := by rw [List.length_eraseIdx_of_lt hi]; omega
  have hne : g ≠ blk := by
    rintro rfl
    unfold NetAt at h
    rw [h] at hb
    injection hb with hb
    injection hb with _ hb
    exact absurd hb (by decide)
  refine (netDelete blk l.length cap i (i + 1) cur w hb (by omega) (by omega) hnc (Nat.le_trans hm (by decide)) hcs (by rw [htake]; exact one72 hreps)).mono ?_
  rintro e w' ⟨rfl, rfl⟩
  have hbd : w.drew.heap[blk]? = some (.cells cur 72 (0, 0)) := hb
  have hnl : ((cur.toList.take (l.length * 2)).drop ((i + 1) * 2)).length = (l.length - (i + 1)) * 2 := by rw [List.length_drop, List.length_take, hcl]; omega
  obtain ⟨cur1, hb1, hs1, ht1⟩ := cells_kept (vs := (cur.toList.take (l.length * 2)).drop ((i + 1) * 2)) (o := 0 + i * 2) hbd (by rw [hnl, hcs]; omega)
  obtain ⟨cur2, hb2, hs2, ht2⟩ := cells_kept (vs := zs (l.length - (i + (l.length - (i + 1))))) (o := (i + (l.length - (i + 1))) * 2) hb1 (by rw [zs_length, hs1, hcs]; omega)
  have hfar : ∀ k, k ≠ blk → ((w.drew.setCells blk (0 + i * 2) ((cur.toList.take (l.length * 2)).drop ((i + 1) * 2))).setCells blk ((i + (l.length - (i + 1))) * 2) (zs (l.length - (i + (l.length - (i + 1)))))).heap[k]? = w.heap[k]? := fun k hk =>
    (setCells_far _ _ _ hk).trans (setCells_far _ _ _ hk)
  obtain ⟨a1, a2, a3, a4⟩ := setCells_same blk ((cur.toList.take (l.length * 2)).drop ((i + 1) * 2)) (0 + i * 2) w.drew
  obtain ⟨b1, b2, b3, b4⟩ := setCells_same blk (zs (l.length - (i + (l.length - (i + 1))))) ((i + (l.length - (i + 1))) * 2) (w.drew.setCells blk (0 + i * 2) ((cur.toList.take (l.length * 2)).drop ((i + 1) * 2)))
  generalize (w.drew.setCells blk (0 + i * 2) ((cur.toList.take (l.length * 2)).drop ((i + 1) * 2))).setCells blk ((i + (l.length - (i + 1))) * 2) (zs (l.length - (i + (l.length - (i + 1))))) = w2 at hb2 hfar b1 b2 b3 b4 ⊢
  have hsz : w2.heap.size = w.heap.size := by rw [b4, a4]; rfl
  refine ⟨by rw [hle], (hfar g hne).trans h, ?_, ⟨by rw [b1, a1]; rfl, by rw [b2, a2]; rfl, by rw [b3, a3]; rfl, by omega, fun k hk => hfar k (by omega)⟩, hfar, by omega⟩
  refine ⟨hok, inner.take (i * 2) ++ inner.drop ((i + 1) * 2), ⟨?_, .inr ⟨blk, cap, cur2, rfl, hbase, hb2, by rw [hle]; omega, hm, by rw [hs2, hs1, hcs, hsz2], ?_⟩⟩, ?_⟩
  · rw [hle, List.length_append, List.length_take, List.length_drop, hil]
    show _ = (i + (l.length - (i + 1))) * 2
    omega
  · have hcl1 : cur1.toList.length = cap * 2 := by rw [← hcs, ← hs1]; simp
    have hl1 : (cur.toList.take (0 + i * 2)).length = i * 2 := by rw [List.length_take, hcl]; omega
    have hl2 : (cur.toList.take (0 + i * 2) ++ (cur.toList.take (l.length * 2)).drop ((i + 1) * 2)).length = (i + (l.length - (i + 1))) * 2 := by rw [List.length_append, hl1, hnl]; omega
    rw [hle, hsz2, ht2, List.append_assoc, List.take_append_of_le_length (by rw [List.length_take, hcl1]; omega), List.take_take, Nat.min_self, ht1, List.take_append_of_le_length (by rw [hl2]; omega), List.take_of_length_le (by rw [hl2]; omega), htake]
    have e : min (i * 2) (l.length * 2) = 0 + i * 2 := by omega
    rw [← htake, List.take_take, e]
  · refine (reps_erase hreps i hi).imp_ (fun p c hp => ?_)
    refine k72.M_mono (fun k hk => hk) (Kd.M_step hp (fun k hk hlt => hfar k (fun e => hk.2 (by rw [e]; rfl))))
set_option maxHeartbeats 8000000 in
theorem net_Net_Take.calls (P : Nat → Prop) (g : Nat) (s0_0 : List S72) (a1 : Int) (r1 : List Int) (r2 : Bool) (r3 : List S72) (w0 w : World) (hI : IsV P w0 w g s0_0) (hB : Below w0.heap.size w0 w) (h : net_Net_Take.f s0_0 a1 = some (r1, r2, r3)) :
    Calls Try.prog 32 #[.pointer (some ⟨g, 0, none⟩), .int .i64 a1] w fun e w' => ∃ v0_ : Value, e = .returned (.tuple #[v0_, .bool r2]) ∧ Kd.R (Kd.int .u8) 5 w' w.heap.size (fun _ => True) v0_ r1 ∧ IsV P w0 w' g r3 ∧ Below w0.heap.size w0 w' ∧ KeepU P w w' g := by
  unfold net_Net_Take.f at h
  obtain ⟨⟨A, c, h1, h2, h3⟩, h4⟩ := id hI
  split at h
  · rename_i hi
    split at h
    case isFalse => cases h
    case isTrue hl =>
    simp only [Option.some.injEq, Prod.mk.injEq] at h
    obtain ⟨rfl, rfl, rfl⟩ := h
    obtain ⟨ia, rfl⟩ : ∃ n : Nat, a1 = (n : Int) := ⟨a1.toNat, by omega⟩
    have hia : ia < s0_0.length := by omega
    obtain ⟨blk, rfl, hbb, hblt⟩ := blk_of_R h2 (by omega)
    have HA := Aside0.mk (netAt_yes g _ c s0_0 (ia : Int) w h1 (Kd.R_reads' h2).2.2 hi.1 hi.2 hl)
    have hw : wrap64 ((ia : Int) + 1) = (ia : Int) + 1 := by
      have := (Kd.R_reads' h2).2.2.2.1
      unfold wrap64
      omega
    have HN := Aside0.mk h1
    have HR := Aside0.mk h2
    have HG := Aside0.mk h3
    have HP4 := Aside0.mk h4
    have HPb : Aside0 (¬ P blk) := ⟨h2.1 blk rfl⟩
    have HB0 := Aside0.mk hB
    have HI := Aside0.mk hia
    have HLt := Aside0.mk hblt
    have hne : Aside0 (g ≠ blk) := ⟨fun e => by
      obtain ⟨cells, hc⟩ := Kd.R_typed h2 blk rfl
      subst e
      unfold NetAt at h1
      rw [hc] at h1
      injection h1 with h1
      injection h1 with _ h1
      exact absurd h1 (by decide)⟩
    generalize hfr : (rd_T72 s0_0 (ia : Int)).f0 = fr at HA ⊢
    clear hI hB h1 h2 h3 h4 hi hl hia hbb hblt hfr
    go_enter Try.func32, Try.ntmps32
    go_wp2_with (first | ((with_reducible refine gate_callee (f := 25) rfl ?_); refine goesL_ (some 11) rfl rfl Try.func25 (by kernel_rfl) rfl #[.pointer (some ⟨g, 0, none⟩), .int .i64 (ia : Int)] rfl (by (try simp only [List.map_toArray, List.map_cons, List.map_nil]); first | done | rfl) ?_; (with_reducible refine HA.out.mono ?_); rintro e w1 ⟨u, rfl, hu, hb⟩; refine ⟨_, rfl, ?_⟩; have HU := Aside0.mk hu; have HB1 := Aside0.mk hb; have hn1 := NetAt.below HN.out hb; have k0 := NetAt.c0 hn1; have HD := Aside0.mk (netEraseN (fun k => ¬ P k) g blk c ia s0_0 w1 w0.heap.size hn1 (Kd.R_below HR.out hb) HI.out); clear hu hb hn1) | (go_at_call 42; (with_reducible refine HD.out.mono ?_); rintro e w2 ⟨rfl, hn2, hr2, hb2, hf2, hs2⟩; have HN2 := Aside0.mk hn2; have HR2 := Aside0.mk hr2; have HB2 := Aside0.mk hb2; have HF2 := Aside0.mk hf2; have HS2 := Aside0.mk hs2; have q0 := NetAt.c0 hn2; have j0 := blk_frozen hn2 0; clear hn2 hr2 hb2 hf2 hs2 HD))
    go_ret2
    refine ⟨_, rfl, ?_, ⟨⟨_, _, NetAt.set0 HN2.out _, R_set70 HN2.out HR2.out, HG.out⟩, fun k hk => ⟨?_, (HP4.out k hk).2⟩⟩, ?_, ?_, ?_⟩
    · refine Kd.R_mono (Kd.R_step (Kd.R_mono (Kd.R_bound HU.out) (fun k hk => hk.2.1)) (fun k hk hlt => ?_)) (fun _ _ => trivial)
      have hgl := blk_lt HN.out
      have hll := HLt.out
      exact (Below.heap_setCell _ ⟨g, 0, none⟩ _ k (by show k ≠ g; omega)).trans (HF2.out k (by omega))
    · have h5 := (HP4.out k hk).1
      have h6 := HB1.out.size
      have h7 := HS2.out
      simp only [size_setCell]
      omega
    · exact (HB0.out.trans ((HB1.out.mono HB0.out.size).trans HB2.out)).setCell (p := ⟨g, 0, none⟩) HG.out _
    · refine ⟨Nat.le_trans HB1.out.size (Nat.le_trans HS2.out (by simp [World.setCell])), fun i cs t fr hi ht hb => ?_⟩
      have hlt := blk_lt hb
      have hib : i ≠ blk := by
        rintro rfl
        obtain ⟨cells, hc⟩ := Kd.R_typed HR.out i rfl
        rw [hc] at hb
        injection hb with hb
        injection hb with _ hb
        exact ht hb.symm
      exact (Below.heap_setCell _ ⟨g, 0, none⟩ _ i hi).trans ((HF2.out i hib).trans (HB1.out.block i hlt))
    · intro k hk
      have hib : k ≠ blk := fun e => HPb.out (e ▸ hk)
      exact (Below.heap_setCell _ ⟨g, 0, none⟩ _ k (HP4.out k hk).2).trans ((HF2.out k hib).trans (HB1.out.block k (HP4.out k hk).1))
  · rename_i hi
    simp only [Option.some.injEq, Prod.mk.injEq] at h
    obtain ⟨rfl, rfl, rfl⟩ := h
    have HA := Aside0.mk (netAt_no g A s0_0.length c a1 w h1 hi)
    have HI := Aside0.mk hI
    have HB := Aside0.mk hB
    clear hI hB h1 h2 h3 h4 hi
    go_enter Try.func32, Try.ntmps32
    go_wp2_with (first | ((with_reducible refine gate_callee (f := 25) rfl ?_); refine goesL_ (some 11) rfl rfl Try.func25 (by kernel_rfl) rfl #[.pointer (some ⟨g, 0, none⟩), .int .i64 a1] rfl (by (try simp only [List.map_toArray, List.map_cons, List.map_nil]); first | done | rfl) ?_; (with_reducible refine HA.out.mono ?_); rintro e w1 ⟨rfl, rfl⟩; refine ⟨_, rfl, ?_⟩))
    go_ret2
    exact ⟨_, rfl, Kd.R_nil _ _ _ _ _, HI.out, HB.out, KeepU.refl _ _ _⟩
theorem net_Net_Len.calls (P : Nat → Prop) (g : Nat) (s0_0 : List S72) (r1 : Int) (r2 : List S72) (w0 w : World) (hI : IsV P w0 w g s0_0) (hB : Below w0.heap.size w0 w) (h : net_Net_Len.f s0_0 = some (r1, r2)) :
    Calls Try.prog 27 #[.pointer (some ⟨g, 0, none⟩)] w fun e w' => e = .returned (.int .i64 r1) ∧ IsV P w0 w' g r2 ∧ Below w0.heap.size w0 w' ∧ KeepBut w w' g none := by
  simp only [net_Net_Len.f, Option.some.injEq, Prod.mk.injEq] at h
  obtain ⟨rfl, rfl⟩ := h
  obtain ⟨⟨A, c, h1, h2, h3⟩, h4⟩ := id hI
  refine (netLen g A _ c w h1).mono ?_
  rintro e w' ⟨rfl, rfl⟩
  exact ⟨rfl, hI, hB, KeepBut.refl _ _ _⟩
theorem net_Net_At.calls (P : Nat → Prop) (g : Nat) (s0_0 : List S72) (a1 : Int) (r1 : List Int) (r2 : Bool) (r3 : List S72) (w0 w : World) (hI : IsV P w0 w g s0_0) (hB : Below w0.heap.size w0 w) (h : net_Net_At.f s0_0 a1 = some (r1, r2, r3)) :
    Calls Try.prog 25 #[.pointer (some ⟨g, 0, none⟩), .int .i64 a1] w fun e w' => ∃ v0_ : Value, e = .returned (.tuple #[v0_, .bool r2]) ∧ Kd.R (Kd.int .u8) 5 w' w.heap.size (fun _ => True) v0_ r1 ∧ IsV P w0 w' g r3 ∧ Below w0.heap.size w0 w' ∧ KeepBut w w' g none := by
  unfold net_Net_At.f at h
  obtain ⟨⟨A, c, h1, h2, h3⟩, h4⟩ := id hI
  split at h
  · rename_i hi
    split at h
    case isFalse => cases h
    case isTrue hl =>
    simp only [Option.some.injEq, Prod.mk.injEq] at h
    obtain ⟨rfl, rfl, rfl⟩ := h
    refine (netAt_yes g A c s0_0 a1 w h1 (Kd.R_reads' h2).2.2 hi.1 hi.2 hl).mono ?_
    rintro e w' ⟨u, rfl, hu, hb⟩
    exact ⟨u, rfl, hu, IsV.below hI hb, hB.trans (hb.mono hB.size), KeepBut.of_below hb _ _⟩
  · rename_i hi
    simp only [Option.some.injEq, Prod.mk.injEq] at h
    obtain ⟨rfl, rfl, rfl⟩ := h
    refine (netAt_no g A _ c a1 w h1 hi).mono ?_
    rintro e w' ⟨rfl, rfl⟩
    exact ⟨_, rfl, Kd.R_nil _ _ _ _ _, hI, hB, KeepBut.refl _ _ _⟩
theorem netSetN {N : Nat → Prop} {g blk cap i : Nat} {l : List S72} {x : List Int} {u : Value} {w : World} {base : Nat} (h : NetAt w g (.slice (some ⟨blk, 0, none⟩) l.length cap)) (hR : k72.R 72 w base N (.slice (some ⟨blk, 0, none⟩) l.length cap) l) (hi : i < l.length)
    (hu : Kd.R (Kd.int .u8) 5 w base (fun k => N k ∧ k ≠ blk) u x) :
    NetAt ((w.setCell ⟨blk, i * 2, none⟩ u).setCell ⟨blk, i * 2 + 1, none⟩ (.bool true)) g (.slice (some ⟨blk, 0, none⟩) l.length cap) ∧
      k72.R 72 ((w.setCell ⟨blk, i * 2, none⟩ u).setCell ⟨blk, i * 2 + 1, none⟩ (.bool true)) base N (.slice (some ⟨blk, 0, none⟩) (l.set i (S72.mk x true)).length cap) (l.set i (S72.mk x true)) ∧ base ≤ blk := by
  obtain ⟨hok, inner, ⟨hil, hown⟩, hreps⟩ := hR
  rcases hown with ⟨h1, _⟩ | ⟨g', cap', cur, hv, hbase, hb, hnc, hm, hcs, htake⟩
  · injection h1 with h2
    cases h2
  injection hv with e1 e2 e3
  injection e1 with e1
  injection e1 with e1
  subst e1 e3
  have hsz2 : k72.sz = 2 := rfl
  rw [hsz2] at hil hcs htake hreps
  have hne : g ≠ blk := by
    rintro rfl
    unfold NetAt at h
    rw [h] at hb
    injection hb with hb
    injection hb with _ hb
    exact absurd hb (by decide)
  have hw : (w.setCell ⟨blk, i * 2, none⟩ u).setCell ⟨blk, i * 2 + 1, none⟩ (.bool true) = w.setCells blk (i * 2) [u, .bool true] := rfl
  have hcl : cur.toList.length = cap * 2 := by rw [← hcs]; simp
  obtain ⟨cur1, hb1, hs1, ht1⟩ := cells_kept (vs := [u, .bool true]) (o := i * 2) hb (by simp only [List.length_cons, List.length_nil, hcs]; omega)
  have hfar : ∀ k, k ≠ blk → (w.setCells blk (i * 2) [u, .bool true]).heap[k]? = w.heap[k]? := fun k hk => setCells_far _ _ _ hk
  rw [hw]
  generalize w.setCells blk (i * 2) [u, .bool true] = w2 at hb1 hfar ⊢
  refine ⟨(hfar g hne).trans h, ⟨hok, inner.take (i * 2) ++ [u, .bool true] ++ inner.drop (i * 2 + 2), ⟨?_, .inr ⟨blk, cap, cur1, rfl, hbase, hb1, by rw [List.length_set]; omega, hm, by rw [hs1, hcs, hsz2], ?_⟩⟩, ?_⟩, hbase⟩
  · rw [List.length_append, List.length_append, List.length_take, List.length_drop, hil, List.length_set]
    simp only [List.length_cons, List.length_nil, hsz2]
    omega
  · have hl1 : (cur.toList.take (i * 2)).length = i * 2 := by rw [List.length_take, hcl]; omega
    have hl2 : (cur.toList.take (i * 2) ++ [u, Value.bool true]).length = i * 2 + 2 := by rw [List.length_append, hl1]; rfl
    rw [ht1, List.length_set, hsz2, List.take_append, List.take_of_length_le (by rw [hl2]; omega), hl2, ← htake, List.take_take, List.drop_take]
    have e : min (i * 2) (l.length * 2) = i * 2 := by omega
    rw [e]
    rfl
  · have hM : k72.M w2 base (fun k => N k ∧ some k ≠ (Value.slice (some ⟨blk, 0, none⟩) (l.set i (S72.mk x true)).length cap).ownBlock) (S72.mk x true) [u, .bool true] := by
      refine k72_mkM _ _ _ (S72.mk x true) (Kd.R_mono (Kd.R_step hu (fun k hk _ => hfar k hk.2)) (fun k hk => ⟨hk.1, fun e => hk.2 ?_⟩))
      simpa [Value.ownBlock] using e
    have hr2 : Reps (k72.M w2 base (fun k => N k ∧ some k ≠ (Value.slice (some ⟨blk, 0, none⟩) (l.set i (S72.mk x true)).length cap).ownBlock)) 2 l inner := by
      refine hreps.imp_ (fun p c hp => ?_)
      refine k72.M_mono (fun k hk => hk) (Kd.M_step hp (fun k hk hlt => hfar k (fun e => hk.2 (by rw [e]; rfl))))
    exact Kd.reps_set hr2 hi hM rfl
theorem net_Net_Spoil.calls (P : Nat → Prop) (g : Nat) (s0_0 : List S72) (a1 : Int) (a2 : Int) (a3 : Int) (r1 : Bool) (r2 : List S72) (w0 w : World) (hI : IsV P w0 w g s0_0) (hB : Below w0.heap.size w0 w) (h : net_Net_Spoil.f s0_0 a1 a2 a3 = some (r1, r2)) :
    Calls Try.prog 29 #[.pointer (some ⟨g, 0, none⟩), .int .i64 a1, .int .i64 a2, .int .u32 a3] w fun e w' => e = .returned (.bool r1) ∧ IsV P w0 w' g r2 ∧ Below w0.heap.size w0 w' ∧ KeepU P w w' g := by
  unfold net_Net_Spoil.f at h
  obtain ⟨⟨A, c, h1, h2, h3⟩, h4⟩ := id hI
  split at h
  · rename_i hi
    split at h
    · rename_i hs
      simp only [Option.some.injEq, Prod.mk.injEq] at h
      obtain ⟨rfl, rfl⟩ := h
      refine (spoil_was g A c s0_0 a1 a2 a3 w h1 (Kd.R_reads' h2).2.2 hi.1 hi.2 hs).mono ?_
      rintro e w' ⟨rfl, rfl⟩
      exact ⟨rfl, hI, hB, KeepU.refl _ _ _⟩
    · rename_i hs
      have hs' : (rd_T72 s0_0 a1).f1 = false := by simpa using hs
      obtain ⟨x, hx, h⟩ := Option.bind_eq_some_iff.mp h
      obtain ⟨q, hq, h⟩ := Option.bind_eq_some_iff.mp h
      obtain ⟨ia, rfl⟩ : ∃ n : Nat, a1 = (n : Int) := ⟨a1.toNat, by omega⟩
      have hia : ia < s0_0.length := by omega
      obtain ⟨blk, rfl, hbb, hblt⟩ := blk_of_R h2 (by omega)
      refine (spoil_yes g blk c ia _ s0_0 a2 a3 x q w h1 (Kd.R_mono h2 (fun _ _ => trivial)) hia hs' hx hq).mono ?_
      rintro e w' ⟨rfl, w2, u, hb, hu, hw'⟩
      cases q
      · simp only [Bool.false_eq_true, if_false, Option.some.injEq, Prod.mk.injEq] at h hw'
        obtain ⟨rfl, rfl⟩ := h
        subst hw'
        have hu2 : Kd.R (Kd.int .u8) 5 w2 w0.heap.size (fun k => ¬ P k ∧ k ≠ blk) u x := Kd.R_lower (Kd.R_mono (Kd.R_bound hu) (fun k hk => ⟨fun hp => by have := hk.2.1; have := (h4 k hp).1; omega, fun e => by have := hk.2.1; omega⟩)) hB.size
        obtain ⟨k1, k2, k3⟩   := netSetN (NetAt.below h1 hb) (Kd.R_below h2 hb) hia hu2
        rw [Int.toNat_natCast]
        refine ⟨rfl, ⟨⟨_, _, ?_, k2, h3⟩, fun k hk => ⟨by simp only [size_setCell]; exact Nat.lt_of_lt_of_le (h4 k hk).1 hb.size, (h4 k hk).2⟩⟩, ?_, ?_, ?_⟩
        · rw [List.length_set]
          exact k1
        · exact ((hB.trans (hb.mono hB.size)).setCell (p := ⟨blk, ia * 2, none⟩) hbb _).setCell (p := ⟨blk, ia * 2 + 1, none⟩) hbb _
        · refine ⟨Nat.le_trans hb.size (by simp [World.setCell]), fun i cs t fr hi' ht hb' => ?_⟩
          have hib : i ≠ blk := by
            rintro rfl
            obtain ⟨cells, hc⟩ := Kd.R_typed h2 i rfl
            rw [hc] at hb'
            injection hb' with hb'
            injection hb' with _ hb'
            exact ht hb'.symm
          exact (Below.heap_setCell _ ⟨blk, ia * 2 + 1, none⟩ _ i hib).trans ((Below.heap_setCell _ ⟨blk, ia * 2, none⟩ _ i hib).trans (hb.block i (blk_lt hb')))
        · intro k hk
          have hib : k ≠ blk := fun e => h2.1 blk rfl (e ▸ hk)
          exact (Below.heap_setCell _ ⟨blk, ia * 2 + 1, none⟩ _ k hib).trans ((Below.heap_setCell _ ⟨blk, ia * 2, none⟩ _ k hib).trans (hb.block k (h4 k hk).1))
      · simp only [if_true, Option.some.injEq, Prod.mk.injEq] at h hw'
        obtain ⟨rfl, rfl⟩ := h
        subst hw'
        exact ⟨rfl, IsV.below hI hb, hB.trans (hb.mono hB.size), KeepU.of_below hb g h4⟩
  · rename_i hi
    simp only [Option.some.injEq, Prod.mk.injEq] at h
    obtain ⟨rfl, rfl⟩ := h
    refine (spoil_no g A _ c a1 a2 a3 w h1 hi).mono ?_
    rintro e w' ⟨rfl, rfl⟩
    exact ⟨rfl, hI, hB, KeepU.refl _ _ _⟩
theorem net_New.calls (r : List S72) (w0 w : World) (hB : Below w0.heap.size w0 w) (h : net_New.f = some r) :
    Calls Try.prog 24 #[] w fun e w' => ∃ g_ : Nat, e = .returned (.pointer (some ⟨g_, 0, none⟩)) ∧ IsV (fun _ => False) w0 w' g_ r ∧ Below w0.heap.size w0 w' ∧ Below w.heap.size w w' := by
  refine (PNgt.net_New.calls r w0 w hB h).mono ?_
  rintro e w' ⟨g_, rfl, hi, hb⟩
  exact ⟨g_, rfl, IsV.of hi, hb⟩
end Go.Proofs.Ytjcpamclggbbdaa.PNru
