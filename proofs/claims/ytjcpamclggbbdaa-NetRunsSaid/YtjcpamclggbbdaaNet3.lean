/- The net's functions that write: put, Put, Double, Take, Spoil. -/
import Derived.Test.YtjcpamclggbbdaaNet2
namespace Go.Proofs.Ytjcpamclggbbdaa.PNgt
open Go.RowKit Go.Proofs.YtjcpamclggbbdaaW.PrintWords Go.Proofs.YtjcpamclggbbdaaW.PrintLast Go.Proofs.YtjcpamclggbbdaaW.PrintMore
attribute [local go_sem] max2_int min2_int max_two min_two max_three min_three max_four min_four
set_option linter.unusedVariables false
set_option linter.unusedSimpArgs false
def p3.T3 : Bool × List (List Nat × List Nat) := (true, [([], []), ([], []), ([1], [1]), ([2], [2]), ([3], [3]), ([], []), ([5], [5]), ([6], [6]), ([], []), ([8], [8]), ([7, 9], [7, 9]), ([10], [10]), ([4, 11, 7], [4, 11]), ([0, 0, 1, 2, 3, 4, 5, 6, 7, 8, 9, 10, 11, 12], [0]), ([13, 0, 1, 2, 3, 4, 5, 6, 7, 8, 9, 10, 11, 12], [13]), ([14, 12, 12, 0, 1, 2, 3, 4, 5, 6, 7, 8, 9, 10, 11, 12], [12, 14])])
def p3.B3 : List Nat := [0, 0, 2, 6, 14, 0, 32, 96, 0, 256, 992, 2016, 4094, 8191, 16383, 32767]
theorem p3.tab3 : rtab .any (opsOf Try.f41 3) = p3.T3 := by kernel_rfl
theorem p3.bits3 : waitsOk p3.T3.2 p3.B3 = true := by kernel_rfl
theorem info72s : (Try.prog.info? 72).map (fun i => (i.zero, i.size, i.bytes)) = some (some (.agg zItem), k72.sz, 32) := by kernel_rfl
theorem netSize {W : World} {g base : Nat} {v : Value} (h : NetAt W g v) (hg : base ≤ g) : base ≤ W.heap.size := Nat.le_of_lt (Nat.lt_of_le_of_lt hg (blk_lt h))
/-- A net as a state: its items in a row of its own, their frames in rows of their own. -/
def IsS70 (w0 W : World) (g : Nat) (l : List S72) : Prop := ∃ A c, NetAt W g (.slice A l.length c) ∧ k72.R 72 W w0.heap.size (fun _ => True) (.slice A l.length c) l ∧ w0.heap.size ≤ g
theorem R_set70 {W : World} {g base j : Nat} {v u x : Value} {ok : Nat → Prop} {l : List S72} (h : NetAt W g v) (hx : k72.R 72 W base ok x l) : k72.R 72 (W.setCell ⟨g, j, none⟩ u) base ok x l :=
  Kd.R_set hx h (by intro q hq; simp [k72, Kd.iso, Kd.pair, Kd.slice, Kd.bool, Kd.int, Kd.scalar] at hq; omega) j u
/-- What a call on a net keeps: every block that is not the net's nor one of items. -/
def KeepT (w w' : World) (g : Nat) : Prop := w.heap.size ≤ w'.heap.size ∧ ∀ (i : Nat) (cs : Array Value) (t : TypeId) (fr : Nat × Nat), i ≠ g → t ≠ 72 → w.heap[i]? = some (.cells cs t fr) → w'.heap[i]? = w.heap[i]?
theorem KeepT.put {w W0 w2 w3 : World} {g base j : Nat} {v u : Value} {ok : Nat → Prop} {l : List S72} (hR : k72.R 72 w base ok v l) (h0 : Below w.heap.size w W0) (h2 : Below W0.heap.size W0 w2) (hg : w2.grownBy w3 v.ownBlock) : KeepT w (w3.setCell ⟨g, j, none⟩ u) g := by
  refine ⟨Nat.le_trans h0.size (Nat.le_trans h2.size (Nat.le_trans hg.size (by simp [World.setCell]))), fun i cs t fr hi ht hb => ?_⟩
  have hlt := blk_lt hb
  have hne : some i ≠ v.ownBlock := by
    intro e
    obtain ⟨cells, hc⟩ := Kd.R_typed hR i e.symm
    rw [hc] at hb
    injection hb with hb
    injection hb with _ hb
    exact ht hb.symm
  have s0 := h0.size
  have s2 := h2.size
  exact (Below.heap_setCell w3 ⟨g, j, none⟩ u i hi).trans ((hg.block i (by omega) hne).trans ((h2.block i (by omega)).trans (h0.block i hlt)))
set_option maxHeartbeats 8000000 in
theorem put_full (g : Nat) (A : Option Addr) (n c : Nat) (f : Value) (b : Bool) (w : World) (h : NetAt w g (.slice A n c)) (hn : 3000 ≤ n) :
    Calls Try.prog 41 #[.pointer (some ⟨g, 0, none⟩), .agg #[f, .bool b]] w fun e w' => e = .returned (.bool false) ∧ w' = w.alloc (.cells #[f, .bool b] 72) := by
  have h0 := NetAt.c0 (NetAt.below h (below_alloc (Below.refl _ _) (.cells #[f, .bool b] 72)))
  have hd : decide (3000 ≤ (n : Int)) = true := decide_eq_true (by omega)
  have hd2 : (3000 ≤ n) = True := eq_true hn
  clear hn
  go_enter Try.func41, Try.ntmps41
  go_wp2
  go_ret
  exact ⟨rfl, rfl⟩
set_option maxHeartbeats 8000000 in
theorem put_room (g : Nat) (A A0 : Option Addr) (c c0 : Nat) (l : List S72) (f : List Int) (b : Bool) (w w0 : World) (base : Nat) (h : NetAt w g (.slice A l.length c)) (hR : k72.R 72 w base (fun _ => True) (.slice A l.length c) l) (hf : Kd.C (Kd.int .u8) w A0 f.length f) (hc : f.length ≤ c0) (hlen : f.length < 140737488355328)
    (hB : Below base w0 w) (hg : base ≤ g) (hn : l.length < 3000) :
    Calls Try.prog 41 #[.pointer (some ⟨g, 0, none⟩), .agg #[.slice A0 f.length c0, .bool b]] w fun e w' => e = .returned (.bool true) ∧ ∃ A1 c1, NetAt w' g (.slice A1 (l ++ [(S72.mk f b)]).length c1) ∧ k72.R 72 w' base (fun _ => True) (.slice A1 (l ++ [(S72.mk f b)]).length c1) (l ++ [(S72.mk f b)]) ∧ Below base w0 w' ∧ KeepT w w' g := by
  obtain ⟨ys, hys⟩ : ∃ ys : List S72, Aside0 (ys = l ++ [(S72.mk f b)]) := ⟨_, ⟨rfl⟩⟩
  rw [← hys.out]
  have hbs := netSize h hg
  obtain ⟨W0, hW0⟩ : ∃ W0, W0 = w.alloc (.cells #[.slice A0 f.length c0, .bool b] 72) := ⟨_, rfl⟩
  have hb0 : Below w.heap.size w W0 := by rw [hW0]; exact below_alloc (Below.refl _ _) _
  have HBw := Aside0.mk hb0
  have HN := Aside0.mk h
  have HN0 := Aside0.mk (NetAt.below h hb0)
  have HBx : Aside0 (W0.heap[w.heap.size]? = some (.cells #[.slice A0 f.length c0, .bool b] 72 (0, 0))) := ⟨by rw [hW0]; exact blk_new w _⟩
  have HF := Aside0.mk (Kd.C_drew (Kd.C_below hf hb0))
  have HFc := Aside0.mk hc
  have HCl : Aside0 (slices_Clone_byte_byte.f f = some f) := ⟨by unfold slices_Clone_byte_byte.f; rw [if_pos hlen]⟩
  have HR := Aside0.mk (Kd.R_drew (Kd.R_below hR hb0))
  have HRw := Aside0.mk hR
  have HG0 : Aside0 (base ≤ W0.drew.heap.size) := ⟨Nat.le_trans hbs hb0.size⟩
  have HB0 : Aside0 (Below base w0 W0.drew) := ⟨(hB.trans (hb0.mono hbs)).drew⟩
  have HLn : Aside0 ((l.length + 1) * 32 ≤ 140737488355328) := ⟨by omega⟩
  have HOK : Aside0 (∀ k, W0.heap.size ≤ k → True ∧ some k ≠ (.slice A l.length c : Value).ownBlock) := ⟨fun k hk => ⟨trivial, fun e => by have := Kd.R_lt hR k e.symm; have := hb0.size; omega⟩⟩
  have HNe : Aside0 (some g ≠ (.slice A l.length c : Value).ownBlock) := ⟨Kd.R_ne hR h (by decide)⟩
  have HNb : Aside0 (some w.heap.size ≠ (.slice A l.length c : Value).ownBlock) := ⟨fun e => by have := Kd.R_lt hR _ e.symm; omega⟩
  have HGg := Aside0.mk hg
  have hd : decide (3000 ≤ (l.length : Int)) = false := decide_eq_false (by omega)
  have hd2 : (3000 ≤ l.length) = False := eq_false (by omega)
  have h0 := NetAt.c0 HN0.out
  have x0 := cell_of_row _ _ 0 _ _ _ HBx.out
  have x1 := cell_of_row _ _ 1 _ _ _ HBx.out
  simp only [List.getElem?_toArray, List.getElem?_cons_zero, List.getElem?_cons_succ] at x0 x1
  have hWk := Aside0.mk hW0
  rw [hW0] at h0 x0 x1
  clear h hR hf hc hlen hB hg hn hb0 hbs hW0
  go_enter Try.func41, Try.ntmps41
  go_wp2
  rw [← hWk.out]
  refine start_ (n := 16) (S := fun w' => NetAt w' g (.slice A l.length c) ∧ w'.heap[w.heap.size]? = some (.cells #[.slice A0 f.length c0, .bool b] 72 (0, 0))) (ds := [12, 15]) #[false, false, false, false, false, false, false, false, false, false, false, false, false, false, false, false] (by kernel_rfl) rfl rfl ⟨HN0.out, HBx.out⟩ (fun hHeld => ?_)
  refine with_tabW p3.tab3 p3.bits3 (fun HT_ HW_ => ?_)
  refine pure_ (i := 0) (N := some 11) (v := ?_) (a' := ?_) #[true, false, false, false, false, false, false, false, false, false, false, false, false, false, false, false] rfl rfl (any_of HT_.out (by kernel_rfl)) (fun _ _ _ h => h) (Or.inl ⟨by rfl, ?_⟩) ?_ ?_
  rotate_left
  · intro w'
    go_simp
    with_reducible rfl
  rotate_left
  · simp only [Act.put, List.setIfInBounds_toArray, List.set_cons_zero, List.set_cons_succ, i64_w, i32_w]
    rfl
  refine pure_ (i := 1) (N := some 12) (v := ?_) (a' := ?_) #[true, true, false, false, false, false, false, false, false, false, false, false, false, false, false, false] rfl rfl (any_of HT_.out (by kernel_rfl)) (fun _ _ _ h => h) (Or.inl ⟨by rfl, ?_⟩) ?_ ?_
  rotate_left
  · intro w'
    go_simp
    with_reducible rfl
  rotate_left
  · simp only [Act.put, List.setIfInBounds_toArray, List.set_cons_zero, List.set_cons_succ, i64_w, i32_w]
    rfl
  refine pure_ (i := 2) (N := some 13) (v := ?_) (a' := ?_) #[true, true, true, false, false, false, false, false, false, false, false, false, false, false, false, false] rfl rfl (any_of HT_.out (by kernel_rfl)) (fun _ _ _ h => h) (Or.inl ⟨by rfl, ?_⟩) ?_ ?_
  rotate_left
  · intro w'
    go_simp
    with_reducible rfl
  rotate_left
  · simp only [Act.put, List.setIfInBounds_toArray, List.set_cons_zero, List.set_cons_succ, i64_w, i32_w]
    rfl
  refine pure_ (i := 3) (N := some 14) (v := ?_) (a' := ?_) #[true, true, true, true, false, false, false, false, false, false, false, false, false, false, false, false] rfl rfl (any_of HT_.out (by kernel_rfl)) (fun _ _ _ h => h) (Or.inl ⟨by rfl, ?_⟩) ?_ ?_
  rotate_left
  · intro w'
    go_simp
    with_reducible rfl
  rotate_left
  · simp only [Act.put, List.setIfInBounds_toArray, List.set_cons_zero, List.set_cons_succ, i64_w, i32_w]
    rfl
  refine pure_ (i := 5) (N := some 16) (v := ?_) (a' := ?_) #[true, true, true, true, false, true, false, false, false, false, false, false, false, false, false, false] rfl rfl (any_of HT_.out (by kernel_rfl)) (fun _ _ _ h => h) (Or.inl ⟨by rfl, ?_⟩) ?_ ?_
  rotate_left
  · intro w'
    go_simp
    with_reducible rfl
  rotate_left
  · simp only [Act.put, List.setIfInBounds_toArray, List.set_cons_zero, List.set_cons_succ, i64_w, i32_w]
    rfl
  refine pure_ (i := 8) (N := some 19) (v := ?_) (a' := ?_) #[true, true, true, true, false, true, false, false, true, false, false, false, false, false, false, false] rfl rfl (any_of HT_.out (by kernel_rfl)) (fun _ _ _ h => h) (Or.inl ⟨by rfl, ?_⟩) ?_ ?_
  rotate_left
  · intro w'
    go_simp
    with_reducible rfl
  rotate_left
  · simp only [Act.put, List.setIfInBounds_toArray, List.set_cons_zero, List.set_cons_succ, i64_w, i32_w]
    rfl
  refine take_ (i := 4) (N := some 15) (v := ?_) (a' := ?_) #[true, true, true, true, true, true, false, false, true, false, false, false, false, false, false, false] rfl rfl (take_ofW HT_.out HW_.out (by kernel_rfl)) (fun _ _ _ h => h) (Or.inl ⟨by rfl, ?_⟩) hHeld ?_ ?_
  rotate_left
  · rintro w' ⟨s0, s1⟩
    have k0 := NetAt.c0 s0
    have k1 := cell_of_row _ _ 0 _ _ _ s1
    have k2 := cell_of_row _ _ 1 _ _ _ s1
    simp only [List.getElem?_toArray, List.getElem?_cons_zero, List.getElem?_cons_succ] at k1 k2
    go_simp
    with_reducible rfl
  rotate_left
  · simp only [Act.put, List.setIfInBounds_toArray, List.set_cons_zero, List.set_cons_succ, i64_w, i32_w]
    rfl
  refine take_ (i := 6) (N := some 17) (v := ?_) (a' := ?_) #[true, true, true, true, true, true, true, false, true, false, false, false, false, false, false, false] rfl rfl (take_ofW HT_.out HW_.out (by kernel_rfl)) (fun _ _ _ h => h) (Or.inl ⟨by rfl, ?_⟩) hHeld ?_ ?_
  rotate_left
  · rintro w' ⟨s0, s1⟩
    have k0 := NetAt.c0 s0
    have k1 := cell_of_row _ _ 0 _ _ _ s1
    have k2 := cell_of_row _ _ 1 _ _ _ s1
    simp only [List.getElem?_toArray, List.getElem?_cons_zero, List.getElem?_cons_succ] at k1 k2
    go_simp
    with_reducible rfl
  rotate_left
  · simp only [Act.put, List.setIfInBounds_toArray, List.set_cons_zero, List.set_cons_succ, i64_w, i32_w]
    rfl
  refine take_ (i := 9) (N := some 20) (v := ?_) (a' := ?_) #[true, true, true, true, true, true, true, false, true, true, false, false, false, false, false, false] rfl rfl (take_ofW HT_.out HW_.out (by kernel_rfl)) (fun _ _ _ h => h) (Or.inl ⟨by rfl, ?_⟩) hHeld ?_ ?_
  rotate_left
  · rintro w' ⟨s0, s1⟩
    have k0 := NetAt.c0 s0
    have k1 := cell_of_row _ _ 0 _ _ _ s1
    have k2 := cell_of_row _ _ 1 _ _ _ s1
    simp only [List.getElem?_toArray, List.getElem?_cons_zero, List.getElem?_cons_succ] at k1 k2
    go_simp
    with_reducible rfl
  rotate_left
  · simp only [Act.put, List.setIfInBounds_toArray, List.set_cons_zero, List.set_cons_succ, i64_w, i32_w]
    rfl
  refine one_ (i := 7) (N := some 18) #[true, true, true, true, true, true, true, true, true, true, false, false, false, false, false, false] rfl rfl (one_of HT_.out (by kernel_rfl)) (by decide) (fun K hK => ?_)
  refine goes_ Try.func38 (by kernel_rfl) rfl #[.slice A0 f.length c0] (by rfl) rfl rfl (by (try simp only [List.map_toArray, List.map_cons, List.map_nil]); first | done | rfl) ?_
  with_reducible refine (slices_Clone_byte_byte.calls A0 c0 f f _ HF.out HFc.out HCl.out).mono ?_
  rintro e w2 ⟨u, rfl, hu, hb⟩
  refine ⟨_, rfl, ?_⟩
  have HU := Aside0.mk hu
  have HB2 := Aside0.mk hb
  have hs0 := NetAt.below hHeld.1 hb
  have hs1 := blk_below hHeld.2 hb
  obtain ⟨Au, cu, eu⟩ := Kd.R_slice hu
  subst eu
  clear hu hb
  refine hK.out _ _ ⟨hs0, hs1⟩ (fun hHeld => ?_)
  clear hK K
  refine norm_ (a' := ?_) ?_ ?_
  rotate_left
  · show Act.put _ (some 18) _ = _
    simp only [Act.put, List.setIfInBounds_toArray, List.set_cons_zero, List.set_cons_succ, i64_w, i32_w]
    rfl
  refine pure_ (i := 10) (N := some 21) (v := ?_) (a' := ?_) #[true, true, true, true, true, true, true, true, true, true, true, false, false, false, false, false] rfl rfl (any_of HT_.out (by kernel_rfl)) (fun _ _ _ h => h) (Or.inl ⟨by rfl, ?_⟩) ?_ ?_
  rotate_left
  · intro w'
    go_simp
    with_reducible rfl
  rotate_left
  · simp only [Act.put, List.setIfInBounds_toArray, List.set_cons_zero, List.set_cons_succ, i64_w, i32_w]
    rfl
  refine one_ (i := 11) (N := some 22) #[true, true, true, true, true, true, true, true, true, true, true, true, false, false, false, false] rfl rfl (one_of HT_.out (by kernel_rfl)) (by decide) (fun K hK => ?_)
  refine value_ (w1 := ?_) (v := ?_) (by rfl) rfl ?_ ?_
  rotate_left 2
  · go_simp
    constructor
    · rfl
    · rfl
  refine hK.out _ _ ⟨(NetAt.below hHeld.1 (below_alloc (Below.refl _ _) _)), (blk_alloc hHeld.2 _)⟩ (fun hHeld => ?_)
  clear hK K
  refine norm_ (a' := ?_) ?_ ?_
  rotate_left
  · show Act.put _ (some 22) _ = _
    simp only [Act.put, List.setIfInBounds_toArray, List.set_cons_zero, List.set_cons_succ, i64_w, i32_w]
    rfl
  refine last_ (i := 12) (N := some 23) #[true, true, true, true, true, true, true, true, true, true, true, true, true, false, false, false] rfl rfl (one_of HT_.out (by kernel_rfl)) (by decide) (fun K hK => ?_)
  refine Kd.R_append_step k72 (w0 := w0) base (by rfl) (.tmp 15) (.tmp 22) 68 72 (.agg zItem) 32 rfl Try.underlying68 info72s rfl (by decide) (by omega) (.slice A l.length c) l (S72.mk f b) [.slice Au f.length cu, .bool b] (fun _ => True) (fun k => W0.heap.size ≤ k) rfl rfl (k72_mkM _ _ _ (S72.mk f b) (Kd.R_lower (Kd.R_mono (Kd.R_bound HU.out) (fun k hk => hk.2.1)) HG0.out)) HOK.out (fun _ _ => trivial) (Kd.R_below HR.out HB2.out) (HB0.out.trans (HB2.out.mono HG0.out)) (Nat.le_trans HG0.out HB2.out.size) HLn.out ?_
  intro v1 w3 ho hb hg hat
  rw [← hys.out] at ho
  obtain ⟨A1, c1, e1_⟩ := Kd.R_slice ho
  subst e1_
  have HO := Aside0.mk ho
  have HB3 := Aside0.mk hb
  have HGr := Aside0.mk hg
  have hs0 := NetAt.grown (NetAt.below (show NetAt W0.drew g _ from HN0.out) HB2.out) hg HNe.out
  have q0 := NetAt.c0 hs0
  have j0 := blk_frozen hs0 0
  clear ho hb hg hat
  refine hK.out _ _ ?_
  clear hK K
  refine norm_ (a' := ?_) ?_ ?_
  rotate_left
  · show Act.put _ (some 23) _ = _
    simp only [Act.put, List.setIfInBounds_toArray, List.set_cons_zero, List.set_cons_succ, i64_w, i32_w]
    rfl
  refine pure_ (i := 13) (N := some 24) (v := ?_) (a' := ?_) #[true, true, true, true, true, true, true, true, true, true, true, true, true, true, false, false] rfl rfl (any_of HT_.out (by kernel_rfl)) (fun _ _ _ h => h) (Or.inl ⟨by rfl, ?_⟩) ?_ ?_
  rotate_left
  · intro w'
    go_simp
    with_reducible rfl
  rotate_left
  · simp only [Act.put, List.setIfInBounds_toArray, List.set_cons_zero, List.set_cons_succ, i64_w, i32_w]
    rfl
  refine pure_ (i := 14) (N := some 25) (v := ?_) (a' := ?_) #[true, true, true, true, true, true, true, true, true, true, true, true, true, true, true, false] rfl rfl (any_of HT_.out (by kernel_rfl)) (fun _ _ _ h => h) (Or.inl ⟨by rfl, ?_⟩) ?_ ?_
  rotate_left
  · intro w'
    go_simp
    with_reducible rfl
  rotate_left
  · simp only [Act.put, List.setIfInBounds_toArray, List.set_cons_zero, List.set_cons_succ, i64_w, i32_w]
    rfl
  refine last_ (i := 15) (N := none) #[true, true, true, true, true, true, true, true, true, true, true, true, true, true, true, true] rfl rfl (one_of HT_.out (by kernel_rfl)) (by decide) (fun K hK => ?_)
  refine skip_ (w1 := ?_) (by rfl) rfl ?_ ?_
  rotate_left
  · go_simp
    rfl
  refine hK.out _ _ ?_
  clear hK K
  refine done_ (done_of HT_.out (by kernel_rfl)) ?_

  have q1 := NetAt.set0 hs0 (.slice A1 ys.length c1)
  have Q1 := Aside0.mk q1
  have HS0 := Aside0.mk hs0
  clear q1 hs0 q0 j0 hHeld
  go_wp2
  go_ret
  exact ⟨rfl, A1, c1, Q1.out, R_set70 HS0.out HO.out, HB3.out.setCell (p := ⟨g, 0, none⟩) HGg.out _, KeepT.put HRw.out (HBw.out.drew) HB2.out HGr.out⟩
theorem KeepT.refl (w : World) (g : Nat) : KeepT w w g := ⟨Nat.le_refl _, fun _ _ _ _ _ _ _ => rfl⟩
theorem KeepT.of_below {w w' : World} (h : Below w.heap.size w w') (g : Nat) : KeepT w w' g := ⟨h.size, fun i _ _ _ _ _ hb => h.block i (blk_lt hb)⟩
theorem KeepT.then_ {w w1 w2 : World} {g : Nat} (h : KeepT w w1 g) (k : KeepT w1 w2 g) : KeepT w w2 g := by
  refine ⟨Nat.le_trans h.1 k.1, fun i cs t fr hi ht hb => ?_⟩
  have h1 := h.2 i cs t fr hi ht hb
  exact (k.2 i cs t fr hi ht (h1.trans hb)).trans h1
section
variable {w0 W W1 : World} {g : Nat} {l : List S72}
theorem IsS70.below (h : IsS70 w0 W g l) (hb : Below W.heap.size W W1) : IsS70 w0 W1 g l := by
  obtain ⟨A, c, h1, h2, h3⟩ := h
  exact ⟨A, c, NetAt.below h1 hb, Kd.R_below h2 hb, h3⟩
end
def after (l : List S72) (f : List Int) (b : Bool) : List S72 := if l.length < 3000 then l ++ [S72.mk f b] else l
theorem put_state (g : Nat) (A0 : Option Addr) (c0 : Nat) (l : List S72) (f : List Int) (b : Bool) (w w0 : World) (hI : IsS70 w0 w g l) (hf : Kd.C (Kd.int .u8) w A0 f.length f) (hc : f.length ≤ c0) (hlen : f.length < 140737488355328) (hB : Below w0.heap.size w0 w) :
    Calls Try.prog 41 #[.pointer (some ⟨g, 0, none⟩), .agg #[.slice A0 f.length c0, .bool b]] w fun e w' => e = .returned (.bool (decide (l.length < 3000))) ∧ IsS70 w0 w' g (after l f b) ∧ Below w0.heap.size w0 w' ∧ KeepT w w' g := by
  obtain ⟨A, c, h1, h2, h3⟩ := id hI
  unfold after
  by_cases hn : l.length < 3000
  · rw [if_pos hn, decide_eq_true hn]
    refine (put_room g A A0 c c0 l f b w w0 _ h1 h2 hf hc hlen hB h3 hn).mono ?_
    rintro e w' ⟨rfl, A1, c1, k1, k2, k3, k4⟩
    exact ⟨rfl, ⟨A1, c1, k1, k2, h3⟩, k3, k4⟩
  · rw [if_neg hn, decide_eq_false hn]
    refine (put_full g A _ c _ b w h1 (by omega)).mono ?_
    rintro e w' ⟨rfl, rfl⟩
    have hb := below_alloc (Below.refl w.heap.size w) (.cells #[.slice A0 f.length c0, .bool b] 72)
    exact ⟨rfl, IsS70.below hI hb, hB.trans (hb.mono hB.size), KeepT.of_below hb g⟩
def net_Net_Put.f (l : List S72) (f : List Int) : Option (Bool × List S72) := if f.length < 140737488355328 then some (decide (l.length < 3000), after l f false) else none
set_option maxHeartbeats 8000000 in
theorem net_Net_Put.calls (g : Nat) (s0_0 : List S72) (A1 : Option Addr) (c1 : Nat) (l1 : List Int) (r1 : Bool) (r2 : List S72) (w0 w : World) (hI : IsS70 w0 w g s0_0) (hB : Below w0.heap.size w0 w) (hr1 : Kd.C (Kd.int .u8) w A1 l1.length l1) (hc1 : l1.length ≤ c1) (hf1 : ∀ ad, A1 = some ad → 0 < l1.length → ad.block ≠ g) (h : net_Net_Put.f s0_0 l1 = some (r1, r2)) :
    Calls Try.prog 30 #[.pointer (some ⟨g, 0, none⟩), .slice A1 l1.length c1] w fun e w' => e = .returned (.bool r1) ∧ IsS70 w0 w' g r2 ∧ Below w0.heap.size w0 w' ∧ KeepT w w' g := by
  unfold net_Net_Put.f at h
  split at h
  case isFalse => cases h
  case isTrue hl =>
  simp only [Option.some.injEq, Prod.mk.injEq] at h
  obtain ⟨rfl, rfl⟩ := h
  have HP := Aside0.mk (put_state g A1 c1 s0_0 l1 false w w0 hI hr1 hc1 hl hB)
  clear hI hB hr1 hc1 hf1 hl
  go_enter Try.func30, Try.ntmps30
  go_wp2_with (first | ((with_reducible refine gate_callee (f := 41) rfl ?_); refine goesL_ (some 8) rfl rfl Try.func41 (by kernel_rfl) rfl #[.pointer (some ⟨g, 0, none⟩), .agg #[.slice A1 l1.length c1, .bool false]] rfl (by (try simp only [List.map_toArray, List.map_cons, List.map_nil]); first | done | rfl) ?_; (with_reducible refine HP.out.mono ?_); rintro e w1 ⟨rfl, hi, hb, hk⟩; refine ⟨_, rfl, ?_⟩; have HI := Aside0.mk hi; have HB := Aside0.mk hb; have HK := Aside0.mk hk; clear hi hb hk))
  go_ret
  exact ⟨rfl, HI.out, HB.out, HK.out⟩
def net_Net_Double.f (l : List S72) (i : Int) : Option (Bool × List S72) :=
  if 0 ≤ i ∧ i < (l.length : Int) then (if (rd_T72 l i).f0.length < 140737488355328 then some (decide (l.length < 3000), after l (rd_T72 l i).f0 (rd_T72 l i).f1) else none) else some (false, l)
set_option maxHeartbeats 8000000 in
theorem net_Net_Double.calls (g : Nat) (s0_0 : List S72) (a1 : Int) (r1 : Bool) (r2 : List S72) (w0 w : World) (hI : IsS70 w0 w g s0_0) (hB : Below w0.heap.size w0 w) (h : net_Net_Double.f s0_0 a1 = some (r1, r2)) :
    Calls Try.prog 28 #[.pointer (some ⟨g, 0, none⟩), .int .i64 a1] w fun e w' => e = .returned (.bool r1) ∧ IsS70 w0 w' g r2 ∧ Below w0.heap.size w0 w' ∧ KeepT w w' g := by
  unfold net_Net_Double.f at h
  obtain ⟨A, c, h1, h2, h3⟩ := id hI
  have HT := Aside0.mk (netThere g A s0_0.length c a1 w h1)
  split at h
  · rename_i hi
    split at h
    case isFalse => cases h
    case isTrue hl =>
    simp only [Option.some.injEq, Prod.mk.injEq] at h
    obtain ⟨rfl, rfl⟩ := h
    rw [decide_eq_true hi] at HT
    obtain ⟨ad, A0, c0, rfl, x0, x1, hl2, hF⟩ := at_T72 (Kd.R_reads' h2).2.2 a1 hi.1 hi.2
    have HP := Aside0.mk (put_state g A0 c0 s0_0 (rd_T72 s0_0 a1).f0 (rd_T72 s0_0 a1).f1 w w0 hI hF hl2 hl hB)
    have d0 : decide (0 ≤ a1) = true := decide_eq_true hi.1
    have d1 : decide (a1 < (s0_0.length : Int)) = true := decide_eq_true hi.2
    have b0 := eq_true hi.1
    have b1 := eq_true hi.2
    have h0 := h1.c0
    clear hI hB h1 h2 h3 hl hl2 hF hi
    go_enter Try.func28, Try.ntmps28
    go_wp2_with (first | ((with_reducible refine gate_callee (f := 40) rfl ?_); refine goesL_ (some 7) rfl rfl Try.func40 (by kernel_rfl) rfl #[.pointer (some ⟨g, 0, none⟩), .int .i64 a1] rfl (by (try simp only [List.map_toArray, List.map_cons, List.map_nil]); first | done | rfl) ?_; (with_reducible refine HT.out.mono ?_); rintro e w1 ⟨rfl, rfl⟩; refine ⟨_, rfl, ?_⟩) | (go_at_call 41; (with_reducible refine HP.out.mono ?_); rintro e w1 ⟨rfl, hi, hb, hk⟩; have HI := Aside0.mk hi; have HB := Aside0.mk hb; have HK := Aside0.mk hk; clear hi hb hk))
    go_ret
    exact ⟨rfl, HI.out, HB.out, HK.out⟩
  · rename_i hi
    simp only [Option.some.injEq, Prod.mk.injEq] at h
    obtain ⟨rfl, rfl⟩ := h
    rw [decide_eq_false hi] at HT
    have HI := Aside0.mk hI
    have HB := Aside0.mk hB
    clear hI hB h1 h2 h3 hi
    go_enter Try.func28, Try.ntmps28
    go_wp2_with (first | ((with_reducible refine gate_callee (f := 40) rfl ?_); refine goesL_ (some 7) rfl rfl Try.func40 (by kernel_rfl) rfl #[.pointer (some ⟨g, 0, none⟩), .int .i64 a1] rfl (by (try simp only [List.map_toArray, List.map_cons, List.map_nil]); first | done | rfl) ?_; (with_reducible refine HT.out.mono ?_); rintro e w1 ⟨rfl, rfl⟩; refine ⟨_, rfl, ?_⟩))
    go_ret
    exact ⟨rfl, HI.out, HB.out, KeepT.refl _ _⟩
end Go.Proofs.Ytjcpamclggbbdaa.PNgt
