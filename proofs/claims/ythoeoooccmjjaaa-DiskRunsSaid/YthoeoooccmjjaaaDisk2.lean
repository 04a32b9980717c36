/- The walks of the disk's functions that make or write bytes: Bytes, Append, Crash, Cut. -/
import Derived.Test.YthoeoooccmjjaaaDisk
import Derived.WalkSpells
namespace Go.Proofs.Ythoeoooccmjjaaa.Dk
open Go.RowKit Go.Proofs.YthoeoooccmjjaaaW.PrintWords Go.Proofs.YthoeoooccmjjaaaW.PrintLast Go.Proofs.YthoeoooccmjjaaaW.PrintMore
attribute [local go_sem] max2_int min2_int max_two min_two max_three min_three max_four min_four
set_option linter.unusedVariables false
set_option linter.unusedSimpArgs false
theorem info5 : (Try.prog.info? 5).map (fun i => (i.zero, i.size, i.bytes)) = some (some (Value.int .u8 0), (Kd.int .u8).sz, 1) := by kernel_rfl
theorem info5s : (Try.prog.info? 5).map (·.size) = some 1 := by kernel_rfl
section
variable {W W1 : World} {g : Nat} {v : Value} {s r f : Int} {o : Bool}
theorem At.below (h : At W g v s r f o) (hb : Below W.heap.size W W1) : At W1 g v s r f o := blk_below h hb
theorem At.alloc (h : At W g v s r f o) (x : Obj) : At (W.alloc x) g v s r f o := blk_alloc h x
theorem At.drew (h : At W g v s r f o) : At W.drew g v s r f o := h
end
theorem cut (A : Option Addr) (m c : Nat) (n : Int) (h0 : 0 ≤ n) (h : n ≤ (c : Int)) (hA : A = none → c = 0) (W : World) :
    (Instr.slice 27 (.slice A m c) none (some (.int .i64 n)) none).run Try.prog W = .ok (.slice A n.toNat c) W := by
  obtain ⟨i, hi, hsz⟩ := Option.map_eq_some_iff.1 info5s
  have hel : Try.prog.elem 27 = 5 := by simp [Program.elem, Try.underlying27]
  have hu : Try.prog.underlying 27 = some (.slice (Try.prog.elem 27)) := by rw [hel]; exact Try.underlying27
  cases A with
  | none =>
    obtain rfl := hA rfl
    obtain rfl : n = 0 := by omega
    simp [Instr.slice, run_underlying Try.underlying27, go_sem, sliced]
  | some ad =>
    rw [run_slice_h W 27 (some ad) m c hu .i64 n h0 h, hel]
    simp [sizeOf, typeInfo, hi, sliced, Result.andThen, Addr.add]
theorem R_none {w : World} {base n c : Nat} {A : Option Addr} {xs : List Int} {ok : Nat → Prop} (h : (Kd.int .u8).R 5 w base ok (.slice A n c) xs) : n ≤ c ∧ (A = none → c = 0) := by
  obtain ⟨inner, ho⟩ := Kd.R_own h
  refine ⟨(Kd.R_reads' h).2.1, ?_⟩
  rintro rfl
  rcases ho.2 with ⟨h1, _⟩ | ⟨g, cap, cur, h1, _⟩
  · injection h1
  · injection h1 with h2
    cases h2
def a3.T3 : Bool × List (List Nat × List Nat) := (true, [([], []), ([0], [0]), ([], []), ([2], [2]), ([3], [3]), ([4], [4]), ([], []), ([6], [6]), ([7], [7]), ([8], [8]), ([9], [9]), ([5, 10], [5, 10]), ([11], [11]), ([1, 12], [1, 12]), ([13], [13])])
def a3.B3 : List Nat := [0, 1, 0, 4, 12, 28, 0, 64, 192, 448, 960, 2044, 4092, 8191, 16383]
theorem a3.tab3 : rtab .any (opsOf Try.f11 3) = a3.T3 := by kernel_rfl
theorem a3.bits3 : waitsOk a3.T3.2 a3.B3 = true := by kernel_rfl
def a6.T6 : Bool × List (List Nat × List Nat) := (true, [([], []), ([], []), ([1], [1]), ([2], [2]), ([3], [3]), ([], []), ([], []), ([6], [6]), ([7], [7]), ([8], [8]), ([5, 9], [5, 9]), ([4, 10], [4, 10]), ([0, 0, 1, 2, 3, 4, 5, 6, 7, 8, 9, 10, 11], [0]), ([12, 0, 1, 2, 3, 4, 5, 6, 7, 8, 9, 10, 11], [12]), ([13, 11, 11, 0, 1, 2, 3, 4, 5, 6, 7, 8, 9, 10, 11], [11, 13])])
def a6.B6 : List Nat := [0, 0, 2, 6, 14, 0, 0, 64, 192, 448, 992, 2046, 4095, 8191, 16383]
theorem a6.tab6 : rtab .any (opsOf Try.f11 6) = a6.T6 := by kernel_rfl
theorem a6.bits6 : waitsOk a6.T6.2 a6.B6 = true := by kernel_rfl
set_option maxHeartbeats 8000000 in
theorem bytes (g : Nat) (A : Option Addr) (c : Nat) (xs : List Int) (s r f : Int) (o : Bool) (w : World) (h : At w g (.slice A xs.length c) s r f o) (hx : Kd.C (Kd.int .u8) w A xs.length xs) (hn : xs.length ≤ 60000) :
    Calls Try.prog 12 #[.pointer (some ⟨g, 0, none⟩)] w fun e w' => ∃ u, e = .returned u ∧ Kd.R (Kd.int .u8) 5 w' w.heap.size (fun _ => True) u xs ∧ Below w.heap.size w w' := by
  have h0 := h.c0
  have HA := Aside0.mk h
  have HX := Aside0.mk hx
  clear h hx
  go_enter Try.func12, Try.ntmps12
  go_wp2_with (first
    | ((with_reducible refine gate_dst (N := 9) rfl ?_); refine Kd.R_make (Kd.int .u8) (w0 := w) w.heap.size 5 rfl (N := 9) rfl 27 (.tmp 8) (.tmp 8) rfl (xs.length : Int) ?hx ?hy Try.underlying27 (.int .u8 0) 1 info5 rfl (by decide) (by decide) (0 : Int) (ok := fun _ => True) (okp := fun _ => True) rfl (fun _ h => h) trivial (by omega) (by omega) (Below.refl _ _) (Nat.le_refl _) ?_; (case hx => rfl); (case hy => rfl); intro v1 w1 ho hb hg hat; have HO := Aside0.mk ho; have HB := Aside0.mk hb; have h1 := At.c0 (At.below HA.out hb); clear ho hb hg hat h0)
    | ((with_reducible refine gate_dst (N := 15) rfl ?_); refine Kd.R_copy (enc := Value.int .u8) (h1 := fun _ => rfl) (0 : Int) (w0 := w) w.heap.size rfl (.tmp 10) (.tmp 14) 27 27 5 rfl Try.underlying27 info5s v1 (List.replicate xs.length 0) xs A xs.length c (fun _ => True) ?hs ?hx ?HO ?HR ?HB ?hb ?_; (case hs => rfl); (case hx => rfl); (case HO => exact HO.out); (case HR => exact Kd.C_below HX.out HB.out); (case HB => exact HB.out); (case hb => exact HB.out.size); intro w2 ho hb hg; have HO2 := Aside0.mk ho; have HB2 := Aside0.mk hb; clear ho hb hg))
  go_ret
  have e : List.take (min xs.length (List.replicate xs.length (0 : Int)).length) xs ++ List.drop (min xs.length (List.replicate xs.length (0 : Int)).length) (List.replicate xs.length 0) = xs := by simp
  refine ⟨_, rfl, ?_, HB2.out⟩
  have := HO2.out
  rw [e] at this
  exact this
set_option maxHeartbeats 8000000 in
theorem append_off (g : Nat) (v : Value) (s r f : Int) (u : Value) (w : World) (h : At w g v s r f true) :
    Calls Try.prog 11 #[.pointer (some ⟨g, 0, none⟩), u] w fun e w' => e = .returned (.int .i64 82) ∧ w' = w := by
  have h4 := h.c4
  go_enter Try.func11, Try.ntmps11
  go_wp2
  go_ret
  exact ⟨rfl, rfl⟩
set_option maxHeartbeats 8000000 in
theorem append_full (g : Nat) (A B : Option Addr) (n c m bc : Nat) (s r f : Int) (w : World) (h : At w g (.slice A n c) s r f false) (hn : n ≤ 60000) (hr0 : 0 ≤ r) (hr : r ≤ 60000) (hm : mx 0 (r - (n : Int)) < (m : Int)) :
    Calls Try.prog 11 #[.pointer (some ⟨g, 0, none⟩), .slice B m bc] w fun e w' => e = .returned (.int .i64 81) ∧ w' = w.drew := by
  have h4 := h.c4
  have HA := Aside0.mk h
  clear h
  have hw : wrap64 (r - (n : Int)) = r - n := by clear hm; unfold wrap64; omega
  obtain ⟨q, hq⟩ : ∃ q : Int, Aside0 (q = if (n : Int) < r then r - (n : Int) else 0) := ⟨_, ⟨rfl⟩⟩
  have hd0 : q < (m : Int) := by
    rw [hq.out]
    unfold mx at hm
    split <;> split at hm <;> omega
  have hd : decide (q < (m : Int)) = true := decide_eq_true hd0
  clear hd0
  clear hn hr0 hr hm
  go_enter Try.func11, Try.ntmps11
  go_wp2
  refine start_ (n := 15) (S := fun w' => At w' g (.slice A n c) s r f false) (ds := []) #[false, false, false, false, false, false, false, false, false, false, false, false, false, false, false] (by kernel_rfl) rfl rfl ((At.drew HA.out)) (fun hHeld => ?_)
  refine with_tabW a3.tab3 a3.bits3 (fun HT_ HW_ => ?_)
  refine pure_ (i := 0) (N := some 11) (v := ?_) (a' := ?_) #[true, false, false, false, false, false, false, false, false, false, false, false, false, false, false] rfl rfl (any_of HT_.out (by kernel_rfl)) (fun _ _ _ h => h) (Or.inl ⟨by rfl, ?_⟩) ?_ ?_
  rotate_left
  · intro w'
    go_simp
    with_reducible rfl
  rotate_left
  · simp only [Act.put, List.setIfInBounds_toArray, List.set_cons_zero, List.set_cons_succ, i64_w, i32_w]
    rfl
  refine pure_ (i := 1) (N := some 12) (v := ?_) (a' := ?_) #[true, true, false, false, false, false, false, false, false, false, false, false, false, false, false] rfl rfl (any_of HT_.out (by kernel_rfl)) (fun _ _ _ h => h) (Or.inl ⟨by rfl, ?_⟩) ?_ ?_
  rotate_left
  · intro w'
    go_simp
    with_reducible rfl
  rotate_left
  · simp only [Act.put, List.setIfInBounds_toArray, List.set_cons_zero, List.set_cons_succ, i64_w, i32_w]
    rfl
  refine pure_ (i := 2) (N := some 13) (v := ?_) (a' := ?_) #[true, true, true, false, false, false, false, false, false, false, false, false, false, false, false] rfl rfl (any_of HT_.out (by kernel_rfl)) (fun _ _ _ h => h) (Or.inl ⟨by rfl, ?_⟩) ?_ ?_
  rotate_left
  · intro w'
    go_simp
    with_reducible rfl
  rotate_left
  · simp only [Act.put, List.setIfInBounds_toArray, List.set_cons_zero, List.set_cons_succ, i64_w, i32_w]
    rfl
  refine pure_ (i := 3) (N := some 14) (v := ?_) (a' := ?_) #[true, true, true, true, false, false, false, false, false, false, false, false, false, false, false] rfl rfl (any_of HT_.out (by kernel_rfl)) (fun _ _ _ h => h) (Or.inl ⟨by rfl, ?_⟩) ?_ ?_
  rotate_left
  · intro w'
    go_simp
    with_reducible rfl
  rotate_left
  · simp only [Act.put, List.setIfInBounds_toArray, List.set_cons_zero, List.set_cons_succ, i64_w, i32_w]
    rfl
  refine pure_ (i := 4) (N := some 15) (v := ?_) (a' := ?_) #[true, true, true, true, true, false, false, false, false, false, false, false, false, false, false] rfl rfl (any_of HT_.out (by kernel_rfl)) (fun _ _ _ h => h) (Or.inl ⟨by rfl, ?_⟩) ?_ ?_
  rotate_left
  · intro w'
    go_simp
    with_reducible rfl
  rotate_left
  · simp only [Act.put, List.setIfInBounds_toArray, List.set_cons_zero, List.set_cons_succ, i64_w, i32_w]
    rfl
  refine pure_ (i := 6) (N := some 17) (v := ?_) (a' := ?_) #[true, true, true, true, true, false, true, false, false, false, false, false, false, false, false] rfl rfl (any_of HT_.out (by kernel_rfl)) (fun _ _ _ h => h) (Or.inl ⟨by rfl, ?_⟩) ?_ ?_
  rotate_left
  · intro w'
    go_simp
    with_reducible rfl
  rotate_left
  · simp only [Act.put, List.setIfInBounds_toArray, List.set_cons_zero, List.set_cons_succ, i64_w, i32_w]
    rfl
  refine pure_ (i := 7) (N := some 18) (v := ?_) (a' := ?_) #[true, true, true, true, true, false, true, true, false, false, false, false, false, false, false] rfl rfl (any_of HT_.out (by kernel_rfl)) (fun _ _ _ h => h) (Or.inl ⟨by rfl, ?_⟩) ?_ ?_
  rotate_left
  · intro w'
    go_simp
    with_reducible rfl
  rotate_left
  · simp only [Act.put, List.setIfInBounds_toArray, List.set_cons_zero, List.set_cons_succ, i64_w, i32_w]
    rfl
  refine pure_ (i := 8) (N := some 19) (v := ?_) (a' := ?_) #[true, true, true, true, true, false, true, true, true, false, false, false, false, false, false] rfl rfl (any_of HT_.out (by kernel_rfl)) (fun _ _ _ h => h) (Or.inl ⟨by rfl, ?_⟩) ?_ ?_
  rotate_left
  · intro w'
    go_simp
    with_reducible rfl
  rotate_left
  · simp only [Act.put, List.setIfInBounds_toArray, List.set_cons_zero, List.set_cons_succ, i64_w, i32_w]
    rfl
  refine take_ (i := 5) (N := some 16) (v := ?_) (a' := ?_) #[true, true, true, true, true, true, true, true, true, false, false, false, false, false, false] rfl rfl (take_ofW HT_.out HW_.out (by kernel_rfl)) (fun _ _ _ h => h) (Or.inl ⟨by rfl, ?_⟩) hHeld ?_ ?_
  rotate_left
  · intro w' s0
    have k0 := At.c0 s0
    have k1 := At.c1 s0
    have k2 := At.c2 s0
    have k3 := At.c3 s0
    have k4 := At.c4 s0
    go_simp
    with_reducible rfl
  rotate_left
  · simp only [Act.put, List.setIfInBounds_toArray, List.set_cons_zero, List.set_cons_succ, i64_w, i32_w]
    rfl
  refine take_ (i := 9) (N := some 20) (v := ?_) (a' := ?_) #[true, true, true, true, true, true, true, true, true, true, false, false, false, false, false] rfl rfl (take_ofW HT_.out HW_.out (by kernel_rfl)) (fun _ _ _ h => h) (Or.inl ⟨by rfl, ?_⟩) hHeld ?_ ?_
  rotate_left
  · intro w' s0
    have k0 := At.c0 s0
    have k1 := At.c1 s0
    have k2 := At.c2 s0
    have k3 := At.c3 s0
    have k4 := At.c4 s0
    go_simp
    with_reducible rfl
  rotate_left
  · simp only [Act.put, List.setIfInBounds_toArray, List.set_cons_zero, List.set_cons_succ, i64_w, i32_w]
    rfl
  refine pure_ (i := 10) (N := some 21) (v := ?_) (a' := ?_) #[true, true, true, true, true, true, true, true, true, true, true, false, false, false, false] rfl rfl (any_of HT_.out (by kernel_rfl)) (fun _ _ _ h => h) (Or.inl ⟨by rfl, ?_⟩) ?_ ?_
  rotate_left
  · intro w'
    go_simp
    with_reducible rfl
  rotate_left
  · simp only [Act.put, List.setIfInBounds_toArray, List.set_cons_zero, List.set_cons_succ, i64_w, i32_w]
    rfl
  refine pure_ (i := 11) (N := some 22) (v := ?_) (a' := ?_) #[true, true, true, true, true, true, true, true, true, true, true, true, false, false, false] rfl rfl (any_of HT_.out (by kernel_rfl)) (fun _ _ _ h => h) (Or.inl ⟨by rfl, ?_⟩) ?_ ?_
  rotate_left
  · intro w'
    go_simp
    with_reducible rfl
  rotate_left
  · simp only [Act.put, List.setIfInBounds_toArray, List.set_cons_zero, List.set_cons_succ, i64_w, i32_w]
    rfl
  refine pure_ (i := 12) (N := some 23) (v := ?_) (a' := ?_) #[true, true, true, true, true, true, true, true, true, true, true, true, true, false, false] rfl rfl (any_of HT_.out (by kernel_rfl)) (fun _ _ _ h => h) (Or.inl ⟨by rfl, ?_⟩) ?_ ?_
  rotate_left
  · intro w'
    go_simp
    with_reducible rfl
  rotate_left
  · simp only [Act.put, List.setIfInBounds_toArray, List.set_cons_zero, List.set_cons_succ, i64_w, i32_w]
    rfl
  refine pure_ (i := 13) (N := some 24) (v := ?_) (a' := ?_) #[true, true, true, true, true, true, true, true, true, true, true, true, true, true, false] rfl rfl (any_of HT_.out (by kernel_rfl)) (fun _ _ _ h => h) (Or.inl ⟨by rfl, ?_⟩) ?_ ?_
  rotate_left
  · intro w'
    go_simp
    with_reducible rfl
  rotate_left
  · simp only [Act.put, List.setIfInBounds_toArray, List.set_cons_zero, List.set_cons_succ, i64_w, i32_w]
    rfl
  refine pure_ (i := 14) (N := some 10) (v := ?_) (a' := ?_) #[true, true, true, true, true, true, true, true, true, true, true, true, true, true, true] rfl rfl (any_of HT_.out (by kernel_rfl)) (fun _ _ _ h => h) (Or.inl ⟨by rfl, ?_⟩) ?_ ?_
  rotate_left
  · intro w'
    go_simp
    with_reducible rfl
  rotate_left
  · simp only [Act.put, List.setIfInBounds_toArray, List.set_cons_zero, List.set_cons_succ, i64_w, i32_w]
    rfl
  refine done_ (done_of HT_.out (by kernel_rfl)) ?_

  rw [← hq.out]
  clear hq
  rw [hd]
  go_wp2
  go_ret
  exact ⟨rfl, rfl⟩
theorem size_le {W : World} {g base : Nat} {v : Value} {s r f : Int} {o : Bool} (h : At W g v s r f o) (hg : base ≤ g) : base ≤ W.heap.size := Nat.le_of_lt (Nat.lt_of_le_of_lt hg (blk_lt h))
theorem At.grown {W W1 : World} {g : Nat} {v : Value} {s r f : Int} {o : Bool} {row : Option Nat} (h : At W g v s r f o) (hg : W.grownBy W1 row) (hne : some g ≠ row) : At W1 g v s r f o := blk_grown h hg hne
theorem At.set0 {W : World} {g : Nat} {v : Value} {s r f : Int} {o : Bool} (h : At W g v s r f o) (u : Value) : At (W.setCell ⟨g, 0, none⟩ u) g u s r f o := by simpa [At] using blk_set h 0 u
theorem At.set1 {W : World} {g : Nat} {v : Value} {s r f : Int} {o : Bool} (h : At W g v s r f o) (x : Int) : At (W.setCell ⟨g, 1, none⟩ (.int .i64 x)) g v x r f o := by simpa [At] using blk_set h 1 (.int .i64 x)
theorem At.set2 {W : World} {g : Nat} {v : Value} {s r f : Int} {o : Bool} (h : At W g v s r f o) (x : Int) : At (W.setCell ⟨g, 2, none⟩ (.int .i64 x)) g v s x f o := by simpa [At] using blk_set h 2 (.int .i64 x)
theorem At.set3 {W : World} {g : Nat} {v : Value} {s r f : Int} {o : Bool} (h : At W g v s r f o) (x : Int) : At (W.setCell ⟨g, 3, none⟩ (.int .i64 x)) g v s r x o := by simpa [At] using blk_set h 3 (.int .i64 x)
theorem At.set4 {W : World} {g : Nat} {v : Value} {s r f : Int} {o : Bool} (h : At W g v s r f o) (x : Bool) : At (W.setCell ⟨g, 4, none⟩ (.bool x)) g v s r f x := by simpa [At] using blk_set h 4 (.bool x)
theorem R_setD {W : World} {g base j : Nat} {v u w : Value} {s r f : Int} {o : Bool} {ok : Nat → Prop} {xs : List Int} (h : At W g v s r f o) (hx : Kd.R (Kd.int .u8) 5 W base ok w xs) : Kd.R (Kd.int .u8) 5 (W.setCell ⟨g, j, none⟩ u) base ok w xs :=
  Kd.R_set hx h (by intro q hq; simp [Kd.int, Kd.scalar] at hq; omega) j u
/-- What an Append leaves: the bytes of a row of the disk's own, all else kept. -/
def Left (w w0 w' : World) (base g : Nat) (A : Option Addr) (n c : Nat) (ys : List Int) (s r f : Int) (o : Bool) : Prop :=
  ∃ A' c', At w' g (.slice A' ys.length c') s r f o ∧ Kd.R (Kd.int .u8) 5 w' base (fun _ => True) (.slice A' ys.length c') ys ∧ Below base w0 w' ∧
    Kept w w' (fun k => k = g ∨ some k = (.slice A n c : Value).ownBlock) ∧ ((.slice A' ys.length c' : Value).ownBlock = (.slice A n c : Value).ownBlock ∨ ∃ b, (.slice A' ys.length c' : Value).ownBlock = some b ∧ w.heap.size ≤ b)
theorem Left.mk_ {w w0 w1 w2 : World} {base g : Nat} {A : Option Addr} {n c : Nat} {ys : List Int} {s r f : Int} {o : Bool} {v1 v0 : Value} (h1 : At w1 g v0 s r f o) (hR : Kd.R (Kd.int .u8) 5 w2 base (fun _ => True) v1 ys) (hB : Below base w0 w2) (hg : base ≤ g)
    (hne : some g ≠ (.slice A n c : Value).ownBlock) (hk : Kept w w1 (fun k => k = g)) (hs : w.heap.size = w1.heap.size) (hG : w1.grownBy w2 (.slice A n c : Value).ownBlock) (hat : v1.ownBlock = (.slice A n c : Value).ownBlock ∨ ∃ b, v1.ownBlock = some b ∧ w1.heap.size ≤ b) :
    Left w w0 (w2.setCell ⟨g, 0, none⟩ v1) base g A n c ys s r f o := by
  have h2 := At.grown h1 hG hne
  obtain ⟨A', c', rfl⟩ := Kd.R_slice hR
  refine ⟨A', c', At.set0 h2 _, R_setD h2 hR, hB.setCell (p := ⟨g, 0, none⟩) hg _, ?_, ?_⟩
  · refine Kept.setCell (Kept.of_grown hG (Kept.mono hk (fun k hk => .inl hk)) (fun k hk => .inl (.inr hk.symm))) (.inl (.inl rfl)) _
  · rcases hat with h | ⟨b, h, h'⟩
    · exact .inl h
    · exact .inr ⟨b, h, by omega⟩
theorem Left.set4 {w w0 w' : World} {base g : Nat} {A : Option Addr} {n c : Nat} {ys : List Int} {s r f : Int} {o : Bool} (h : Left w w0 w' base g A n c ys s r f o) (hg : base ≤ g) (x : Bool) : Left w w0 (w'.setCell ⟨g, 4, none⟩ (.bool x)) base g A n c ys s r f x := by
  obtain ⟨A', c', h1, h2, h3, h4, h5⟩ := h
  exact ⟨A', c', At.set4 h1 x, R_setD h1 h2, h3.setCell (p := ⟨g, 4, none⟩) hg _, Kept.setCell h4 (.inl (.inl rfl)) _, h5⟩
set_option maxHeartbeats 8000000 in
theorem append_fits (g : Nat) (A B : Option Addr) (c bc : Nat) (xs bs : List Int) (s r : Int) (w w0 : World) (base : Nat) (h : At w g (.slice A xs.length c) s r (-1) false) (hx : Kd.R (Kd.int .u8) 5 w base (fun _ => True) (.slice A xs.length c) xs)
    (hb : Kd.C (Kd.int .u8) w B bs.length bs) (hB : Below base w0 w) (hg : base ≤ g) (hn : xs.length ≤ 60000) (hr0 : 0 ≤ r) (hr : r ≤ 60000) (hm : (bs.length : Int) ≤ mx 0 (r - (xs.length : Int))) :
    Calls Try.prog 11 #[.pointer (some ⟨g, 0, none⟩), .slice B bs.length bc] w fun e w' => e = .returned (.int .i64 0) ∧ Left w w0 w' base g A xs.length c (xs ++ bs) s r (-1) false := by
  obtain ⟨ys, hys⟩ : ∃ ys : List Int, Aside0 (ys = xs ++ bs) := ⟨_, ⟨rfl⟩⟩
  rw [← hys.out]
  have h4 := h.c4
  have HA := Aside0.mk h
  have HX := Aside0.mk hx
  have HB := Aside0.mk hB
  have HC := Aside0.mk hb
  have HG := Aside0.mk hg
  have hw : wrap64 (r - (xs.length : Int)) = r - xs.length := by clear hm; unfold wrap64; omega
  have HL : Aside0 ((xs.length + bs.length) * 1 ≤ 140737488355328) := ⟨by unfold mx at hm; split at hm <;> omega⟩
  clear h hx hB hb hg
  obtain ⟨q, hq⟩ : ∃ q : Int, Aside0 (q = if (xs.length : Int) < r then r - (xs.length : Int) else 0) := ⟨_, ⟨rfl⟩⟩
  have hd0 : (bs.length : Int) ≤ q := by
    rw [hq.out]
    unfold mx at hm
    split <;> split at hm <;> omega
  have hd : decide (q < (bs.length : Int)) = false := decide_eq_false (by omega)
  clear hd0 hn hr0 hr hm
  go_enter Try.func11, Try.ntmps11
  go_wp2
  refine start_ (n := 15) (S := fun w' => At w' g (.slice A xs.length c) s r (-1) false) (ds := []) #[false, false, false, false, false, false, false, false, false, false, false, false, false, false, false] (by kernel_rfl) rfl rfl ((At.drew HA.out)) (fun hHeld => ?_)
  refine with_tabW a3.tab3 a3.bits3 (fun HT_ HW_ => ?_)
  refine pure_ (i := 0) (N := some 11) (v := ?_) (a' := ?_) #[true, false, false, false, false, false, false, false, false, false, false, false, false, false, false] rfl rfl (any_of HT_.out (by kernel_rfl)) (fun _ _ _ h => h) (Or.inl ⟨by rfl, ?_⟩) ?_ ?_
  rotate_left
  · intro w'
    go_simp
    with_reducible rfl
  rotate_left
  · simp only [Act.put, List.setIfInBounds_toArray, List.set_cons_zero, List.set_cons_succ, i64_w, i32_w]
    rfl
  refine pure_ (i := 1) (N := some 12) (v := ?_) (a' := ?_) #[true, true, false, false, false, false, false, false, false, false, false, false, false, false, false] rfl rfl (any_of HT_.out (by kernel_rfl)) (fun _ _ _ h => h) (Or.inl ⟨by rfl, ?_⟩) ?_ ?_
  rotate_left
  · intro w'
    go_simp
    with_reducible rfl
  rotate_left
  · simp only [Act.put, List.setIfInBounds_toArray, List.set_cons_zero, List.set_cons_succ, i64_w, i32_w]
    rfl
  refine pure_ (i := 2) (N := some 13) (v := ?_) (a' := ?_) #[true, true, true, false, false, false, false, false, false, false, false, false, false, false, false] rfl rfl (any_of HT_.out (by kernel_rfl)) (fun _ _ _ h => h) (Or.inl ⟨by rfl, ?_⟩) ?_ ?_
  rotate_left
  · intro w'
    go_simp
    with_reducible rfl
  rotate_left
  · simp only [Act.put, List.setIfInBounds_toArray, List.set_cons_zero, List.set_cons_succ, i64_w, i32_w]
    rfl
  refine pure_ (i := 3) (N := some 14) (v := ?_) (a' := ?_) #[true, true, true, true, false, false, false, false, false, false, false, false, false, false, false] rfl rfl (any_of HT_.out (by kernel_rfl)) (fun _ _ _ h => h) (Or.inl ⟨by rfl, ?_⟩) ?_ ?_
  rotate_left
  · intro w'
    go_simp
    with_reducible rfl
  rotate_left
  · simp only [Act.put, List.setIfInBounds_toArray, List.set_cons_zero, List.set_cons_succ, i64_w, i32_w]
    rfl
  refine pure_ (i := 4) (N := some 15) (v := ?_) (a' := ?_) #[true, true, true, true, true, false, false, false, false, false, false, false, false, false, false] rfl rfl (any_of HT_.out (by kernel_rfl)) (fun _ _ _ h => h) (Or.inl ⟨by rfl, ?_⟩) ?_ ?_
  rotate_left
  · intro w'
    go_simp
    with_reducible rfl
  rotate_left
  · simp only [Act.put, List.setIfInBounds_toArray, List.set_cons_zero, List.set_cons_succ, i64_w, i32_w]
    rfl
  refine pure_ (i := 6) (N := some 17) (v := ?_) (a' := ?_) #[true, true, true, true, true, false, true, false, false, false, false, false, false, false, false] rfl rfl (any_of HT_.out (by kernel_rfl)) (fun _ _ _ h => h) (Or.inl ⟨by rfl, ?_⟩) ?_ ?_
  rotate_left
  · intro w'
    go_simp
    with_reducible rfl
  rotate_left
  · simp only [Act.put, List.setIfInBounds_toArray, List.set_cons_zero, List.set_cons_succ, i64_w, i32_w]
    rfl
  refine pure_ (i := 7) (N := some 18) (v := ?_) (a' := ?_) #[true, true, true, true, true, false, true, true, false, false, false, false, false, false, false] rfl rfl (any_of HT_.out (by kernel_rfl)) (fun _ _ _ h => h) (Or.inl ⟨by rfl, ?_⟩) ?_ ?_
  rotate_left
  · intro w'
    go_simp
    with_reducible rfl
  rotate_left
  · simp only [Act.put, List.setIfInBounds_toArray, List.set_cons_zero, List.set_cons_succ, i64_w, i32_w]
    rfl
  refine pure_ (i := 8) (N := some 19) (v := ?_) (a' := ?_) #[true, true, true, true, true, false, true, true, true, false, false, false, false, false, false] rfl rfl (any_of HT_.out (by kernel_rfl)) (fun _ _ _ h => h) (Or.inl ⟨by rfl, ?_⟩) ?_ ?_
  rotate_left
  · intro w'
    go_simp
    with_reducible rfl
  rotate_left
  · simp only [Act.put, List.setIfInBounds_toArray, List.set_cons_zero, List.set_cons_succ, i64_w, i32_w]
    rfl
  refine take_ (i := 5) (N := some 16) (v := ?_) (a' := ?_) #[true, true, true, true, true, true, true, true, true, false, false, false, false, false, false] rfl rfl (take_ofW HT_.out HW_.out (by kernel_rfl)) (fun _ _ _ h => h) (Or.inl ⟨by rfl, ?_⟩) hHeld ?_ ?_
  rotate_left
  · intro w' s0
    have k0 := At.c0 s0
    have k1 := At.c1 s0
    have k2 := At.c2 s0
    have k3 := At.c3 s0
    have k4 := At.c4 s0
    go_simp
    with_reducible rfl
  rotate_left
  · simp only [Act.put, List.setIfInBounds_toArray, List.set_cons_zero, List.set_cons_succ, i64_w, i32_w]
    rfl
  refine take_ (i := 9) (N := some 20) (v := ?_) (a' := ?_) #[true, true, true, true, true, true, true, true, true, true, false, false, false, false, false] rfl rfl (take_ofW HT_.out HW_.out (by kernel_rfl)) (fun _ _ _ h => h) (Or.inl ⟨by rfl, ?_⟩) hHeld ?_ ?_
  rotate_left
  · intro w' s0
    have k0 := At.c0 s0
    have k1 := At.c1 s0
    have k2 := At.c2 s0
    have k3 := At.c3 s0
    have k4 := At.c4 s0
    go_simp
    with_reducible rfl
  rotate_left
  · simp only [Act.put, List.setIfInBounds_toArray, List.set_cons_zero, List.set_cons_succ, i64_w, i32_w]
    rfl
  refine pure_ (i := 10) (N := some 21) (v := ?_) (a' := ?_) #[true, true, true, true, true, true, true, true, true, true, true, false, false, false, false] rfl rfl (any_of HT_.out (by kernel_rfl)) (fun _ _ _ h => h) (Or.inl ⟨by rfl, ?_⟩) ?_ ?_
  rotate_left
  · intro w'
    go_simp
    with_reducible rfl
  rotate_left
  · simp only [Act.put, List.setIfInBounds_toArray, List.set_cons_zero, List.set_cons_succ, i64_w, i32_w]
    rfl
  refine pure_ (i := 11) (N := some 22) (v := ?_) (a' := ?_) #[true, true, true, true, true, true, true, true, true, true, true, true, false, false, false] rfl rfl (any_of HT_.out (by kernel_rfl)) (fun _ _ _ h => h) (Or.inl ⟨by rfl, ?_⟩) ?_ ?_
  rotate_left
  · intro w'
    go_simp
    with_reducible rfl
  rotate_left
  · simp only [Act.put, List.setIfInBounds_toArray, List.set_cons_zero, List.set_cons_succ, i64_w, i32_w]
    rfl
  refine pure_ (i := 12) (N := some 23) (v := ?_) (a' := ?_) #[true, true, true, true, true, true, true, true, true, true, true, true, true, false, false] rfl rfl (any_of HT_.out (by kernel_rfl)) (fun _ _ _ h => h) (Or.inl ⟨by rfl, ?_⟩) ?_ ?_
  rotate_left
  · intro w'
    go_simp
    with_reducible rfl
  rotate_left
  · simp only [Act.put, List.setIfInBounds_toArray, List.set_cons_zero, List.set_cons_succ, i64_w, i32_w]
    rfl
  refine pure_ (i := 13) (N := some 24) (v := ?_) (a' := ?_) #[true, true, true, true, true, true, true, true, true, true, true, true, true, true, false] rfl rfl (any_of HT_.out (by kernel_rfl)) (fun _ _ _ h => h) (Or.inl ⟨by rfl, ?_⟩) ?_ ?_
  rotate_left
  · intro w'
    go_simp
    with_reducible rfl
  rotate_left
  · simp only [Act.put, List.setIfInBounds_toArray, List.set_cons_zero, List.set_cons_succ, i64_w, i32_w]
    rfl
  refine pure_ (i := 14) (N := some 10) (v := ?_) (a' := ?_) #[true, true, true, true, true, true, true, true, true, true, true, true, true, true, true] rfl rfl (any_of HT_.out (by kernel_rfl)) (fun _ _ _ h => h) (Or.inl ⟨by rfl, ?_⟩) ?_ ?_
  rotate_left
  · intro w'
    go_simp
    with_reducible rfl
  rotate_left
  · simp only [Act.put, List.setIfInBounds_toArray, List.set_cons_zero, List.set_cons_succ, i64_w, i32_w]
    rfl
  refine done_ (done_of HT_.out (by kernel_rfl)) ?_

  rw [← hq.out]
  clear hq
  have HN : Aside0 (some g ≠ (.slice A xs.length c : Value).ownBlock) := ⟨Kd.R_ne HX.out HA.out (by decide)⟩
  have k0 := At.c0 hHeld
  have k3 := At.c3 hHeld
  have HH := Aside0.mk hHeld
  clear hHeld
  rw [hd]
  go_wp2_with (first | ((with_reducible refine gate_builtin (b := .append) (xs := #[.tmp 76, .tmp 77]) rfl ?_); at_builtin; refine Kd.R_append_rows (Kd.int .u8) (w0 := w0) base rfl (.tmp 76) (.tmp 77) 27 5 (.int .u8 0) 1 rfl Try.underlying27 info5 rfl (by decide) (by omega) (.slice A xs.length c) xs bs _ _ _ (fun _ => True) (fun _ => False) rfl rfl ?aO ?aR (fun _ _ h => h) (fun _ h => h.elim) ?aF ?aB ?aS ?aL ?_; (case aO => exact Kd.R_drew HX.out); (case aR => exact Kd.C_drew HC.out); (case aF => exact fun _ _ => trivial); (case aB => exact below_drew1 HB.out); (case aS => exact size_le HH.out HG.out); (case aL => exact HL.out); intro v1 w2 ho hb hg hat; rw [← hys.out] at ho; obtain ⟨A1, c1, e1⟩ := Kd.R_slice ho; subst e1; have HO := Aside0.mk ho; have HB2 := Aside0.mk hb; have HGr := Aside0.mk hg; have HAt := Aside0.mk hat; have h2 := At.grown HH.out hg HN.out; have k0 := At.c0 h2; have j0 := blk_frozen h2 0; clear ho hb hg hat h2))
  go_ret
  exact ⟨rfl, Left.mk_ HH.out HO.out HB2.out HG.out HN.out (Kept.refl w _) rfl HGr.out HAt.out⟩
set_option maxHeartbeats 8000000 in
theorem append_less (g : Nat) (A B : Option Addr) (c bc : Nat) (xs bs : List Int) (s r f : Int) (w w0 : World) (base : Nat) (h : At w g (.slice A xs.length c) s r f false) (hx : Kd.R (Kd.int .u8) 5 w base (fun _ => True) (.slice A xs.length c) xs)
    (hb : Kd.C (Kd.int .u8) w B bs.length bs) (hfar : ∀ ad, B = some ad → 0 < bs.length → ad.block ≠ g) (hB : Below base w0 w) (hg : base ≤ g) (hn : xs.length ≤ 60000) (hr0 : 0 ≤ r) (hr : r ≤ 60000) (hm : (bs.length : Int) ≤ mx 0 (r - (xs.length : Int))) (hf : (bs.length : Int) ≤ f) (hf' : f ≤ 9223372036854775807) :
    Calls Try.prog 11 #[.pointer (some ⟨g, 0, none⟩), .slice B bs.length bc] w fun e w' => e = .returned (.int .i64 0) ∧ Left w w0 w' base g A xs.length c (xs ++ bs) s r (f - bs.length) false := by
  obtain ⟨ys, hys⟩ : ∃ ys : List Int, Aside0 (ys = xs ++ bs) := ⟨_, ⟨rfl⟩⟩
  rw [← hys.out]
  have h4 := h.c4
  have HA := Aside0.mk h
  have HX := Aside0.mk hx
  have HB := Aside0.mk hB
  have HC := Aside0.mk hb
  have HF := Aside0.mk hfar
  have HG := Aside0.mk hg
  have hw : wrap64 (r - (xs.length : Int)) = r - xs.length := by clear hm; unfold wrap64; omega
  have HL : Aside0 ((xs.length + bs.length) * 1 ≤ 140737488355328) := ⟨by unfold mx at hm; split at hm <;> omega⟩
  clear h hx hB hb hg hfar
  obtain ⟨q, hq⟩ : ∃ q : Int, Aside0 (q = if (xs.length : Int) < r then r - (xs.length : Int) else 0) := ⟨_, ⟨rfl⟩⟩
  have hd0 : (bs.length : Int) ≤ q := by
    rw [hq.out]
    unfold mx at hm
    split <;> split at hm <;> omega
  have hd : decide (q < (bs.length : Int)) = false := decide_eq_false (by omega)
  have e1 : (f = -1) = False := eq_false (by omega)
  have e2 : decide (f = -1) = false := decide_eq_false (by omega)
  have e3 : (f == -1) = false := by simp; omega
  have HN : Aside0 (some g ≠ (.slice A xs.length c : Value).ownBlock) := ⟨Kd.R_ne HX.out HA.out (by decide)⟩
  have hv : wrap64 (f - (bs.length : Int)) = f - bs.length := by clear hw; unfold wrap64; omega
  have hl : decide (f < (bs.length : Int)) = false := decide_eq_false (by omega)
  have hl2 : (f < (bs.length : Int)) = False := eq_false (by omega)
  clear hd0 hn hr0 hr hm hf hf'
  go_enter Try.func11, Try.ntmps11
  go_wp2
  refine start_ (n := 15) (S := fun w' => At w' g (.slice A xs.length c) s r f false) (ds := []) #[false, false, false, false, false, false, false, false, false, false, false, false, false, false, false] (by kernel_rfl) rfl rfl ((At.drew HA.out)) (fun hHeld => ?_)
  refine with_tabW a3.tab3 a3.bits3 (fun HT_ HW_ => ?_)
  refine pure_ (i := 0) (N := some 11) (v := ?_) (a' := ?_) #[true, false, false, false, false, false, false, false, false, false, false, false, false, false, false] rfl rfl (any_of HT_.out (by kernel_rfl)) (fun _ _ _ h => h) (Or.inl ⟨by rfl, ?_⟩) ?_ ?_
  rotate_left
  · intro w'
    go_simp
    with_reducible rfl
  rotate_left
  · simp only [Act.put, List.setIfInBounds_toArray, List.set_cons_zero, List.set_cons_succ, i64_w, i32_w]
    rfl
  refine pure_ (i := 1) (N := some 12) (v := ?_) (a' := ?_) #[true, true, false, false, false, false, false, false, false, false, false, false, false, false, false] rfl rfl (any_of HT_.out (by kernel_rfl)) (fun _ _ _ h => h) (Or.inl ⟨by rfl, ?_⟩) ?_ ?_
  rotate_left
  · intro w'
    go_simp
    with_reducible rfl
  rotate_left
  · simp only [Act.put, List.setIfInBounds_toArray, List.set_cons_zero, List.set_cons_succ, i64_w, i32_w]
    rfl
  refine pure_ (i := 2) (N := some 13) (v := ?_) (a' := ?_) #[true, true, true, false, false, false, false, false, false, false, false, false, false, false, false] rfl rfl (any_of HT_.out (by kernel_rfl)) (fun _ _ _ h => h) (Or.inl ⟨by rfl, ?_⟩) ?_ ?_
  rotate_left
  · intro w'
    go_simp
    with_reducible rfl
  rotate_left
  · simp only [Act.put, List.setIfInBounds_toArray, List.set_cons_zero, List.set_cons_succ, i64_w, i32_w]
    rfl
  refine pure_ (i := 3) (N := some 14) (v := ?_) (a' := ?_) #[true, true, true, true, false, false, false, false, false, false, false, false, false, false, false] rfl rfl (any_of HT_.out (by kernel_rfl)) (fun _ _ _ h => h) (Or.inl ⟨by rfl, ?_⟩) ?_ ?_
  rotate_left
  · intro w'
    go_simp
    with_reducible rfl
  rotate_left
  · simp only [Act.put, List.setIfInBounds_toArray, List.set_cons_zero, List.set_cons_succ, i64_w, i32_w]
    rfl
  refine pure_ (i := 4) (N := some 15) (v := ?_) (a' := ?_) #[true, true, true, true, true, false, false, false, false, false, false, false, false, false, false] rfl rfl (any_of HT_.out (by kernel_rfl)) (fun _ _ _ h => h) (Or.inl ⟨by rfl, ?_⟩) ?_ ?_
  rotate_left
  · intro w'
    go_simp
    with_reducible rfl
  rotate_left
  · simp only [Act.put, List.setIfInBounds_toArray, List.set_cons_zero, List.set_cons_succ, i64_w, i32_w]
    rfl
  refine pure_ (i := 6) (N := some 17) (v := ?_) (a' := ?_) #[true, true, true, true, true, false, true, false, false, false, false, false, false, false, false] rfl rfl (any_of HT_.out (by kernel_rfl)) (fun _ _ _ h => h) (Or.inl ⟨by rfl, ?_⟩) ?_ ?_
  rotate_left
  · intro w'
    go_simp
    with_reducible rfl
  rotate_left
  · simp only [Act.put, List.setIfInBounds_toArray, List.set_cons_zero, List.set_cons_succ, i64_w, i32_w]
    rfl
  refine pure_ (i := 7) (N := some 18) (v := ?_) (a' := ?_) #[true, true, true, true, true, false, true, true, false, false, false, false, false, false, false] rfl rfl (any_of HT_.out (by kernel_rfl)) (fun _ _ _ h => h) (Or.inl ⟨by rfl, ?_⟩) ?_ ?_
  rotate_left
  · intro w'
    go_simp
    with_reducible rfl
  rotate_left
  · simp only [Act.put, List.setIfInBounds_toArray, List.set_cons_zero, List.set_cons_succ, i64_w, i32_w]
    rfl
  refine pure_ (i := 8) (N := some 19) (v := ?_) (a' := ?_) #[true, true, true, true, true, false, true, true, true, false, false, false, false, false, false] rfl rfl (any_of HT_.out (by kernel_rfl)) (fun _ _ _ h => h) (Or.inl ⟨by rfl, ?_⟩) ?_ ?_
  rotate_left
  · intro w'
    go_simp
    with_reducible rfl
  rotate_left
  · simp only [Act.put, List.setIfInBounds_toArray, List.set_cons_zero, List.set_cons_succ, i64_w, i32_w]
    rfl
  refine take_ (i := 5) (N := some 16) (v := ?_) (a' := ?_) #[true, true, true, true, true, true, true, true, true, false, false, false, false, false, false] rfl rfl (take_ofW HT_.out HW_.out (by kernel_rfl)) (fun _ _ _ h => h) (Or.inl ⟨by rfl, ?_⟩) hHeld ?_ ?_
  rotate_left
  · intro w' s0
    have k0 := At.c0 s0
    have k1 := At.c1 s0
    have k2 := At.c2 s0
    have k3 := At.c3 s0
    have k4 := At.c4 s0
    go_simp
    with_reducible rfl
  rotate_left
  · simp only [Act.put, List.setIfInBounds_toArray, List.set_cons_zero, List.set_cons_succ, i64_w, i32_w]
    rfl
  refine take_ (i := 9) (N := some 20) (v := ?_) (a' := ?_) #[true, true, true, true, true, true, true, true, true, true, false, false, false, false, false] rfl rfl (take_ofW HT_.out HW_.out (by kernel_rfl)) (fun _ _ _ h => h) (Or.inl ⟨by rfl, ?_⟩) hHeld ?_ ?_
  rotate_left
  · intro w' s0
    have k0 := At.c0 s0
    have k1 := At.c1 s0
    have k2 := At.c2 s0
    have k3 := At.c3 s0
    have k4 := At.c4 s0
    go_simp
    with_reducible rfl
  rotate_left
  · simp only [Act.put, List.setIfInBounds_toArray, List.set_cons_zero, List.set_cons_succ, i64_w, i32_w]
    rfl
  refine pure_ (i := 10) (N := some 21) (v := ?_) (a' := ?_) #[true, true, true, true, true, true, true, true, true, true, true, false, false, false, false] rfl rfl (any_of HT_.out (by kernel_rfl)) (fun _ _ _ h => h) (Or.inl ⟨by rfl, ?_⟩) ?_ ?_
  rotate_left
  · intro w'
    go_simp
    with_reducible rfl
  rotate_left
  · simp only [Act.put, List.setIfInBounds_toArray, List.set_cons_zero, List.set_cons_succ, i64_w, i32_w]
    rfl
  refine pure_ (i := 11) (N := some 22) (v := ?_) (a' := ?_) #[true, true, true, true, true, true, true, true, true, true, true, true, false, false, false] rfl rfl (any_of HT_.out (by kernel_rfl)) (fun _ _ _ h => h) (Or.inl ⟨by rfl, ?_⟩) ?_ ?_
  rotate_left
  · intro w'
    go_simp
    with_reducible rfl
  rotate_left
  · simp only [Act.put, List.setIfInBounds_toArray, List.set_cons_zero, List.set_cons_succ, i64_w, i32_w]
    rfl
  refine pure_ (i := 12) (N := some 23) (v := ?_) (a' := ?_) #[true, true, true, true, true, true, true, true, true, true, true, true, true, false, false] rfl rfl (any_of HT_.out (by kernel_rfl)) (fun _ _ _ h => h) (Or.inl ⟨by rfl, ?_⟩) ?_ ?_
  rotate_left
  · intro w'
    go_simp
    with_reducible rfl
  rotate_left
  · simp only [Act.put, List.setIfInBounds_toArray, List.set_cons_zero, List.set_cons_succ, i64_w, i32_w]
    rfl
  refine pure_ (i := 13) (N := some 24) (v := ?_) (a' := ?_) #[true, true, true, true, true, true, true, true, true, true, true, true, true, true, false] rfl rfl (any_of HT_.out (by kernel_rfl)) (fun _ _ _ h => h) (Or.inl ⟨by rfl, ?_⟩) ?_ ?_
  rotate_left
  · intro w'
    go_simp
    with_reducible rfl
  rotate_left
  · simp only [Act.put, List.setIfInBounds_toArray, List.set_cons_zero, List.set_cons_succ, i64_w, i32_w]
    rfl
  refine pure_ (i := 14) (N := some 10) (v := ?_) (a' := ?_) #[true, true, true, true, true, true, true, true, true, true, true, true, true, true, true] rfl rfl (any_of HT_.out (by kernel_rfl)) (fun _ _ _ h => h) (Or.inl ⟨by rfl, ?_⟩) ?_ ?_
  rotate_left
  · intro w'
    go_simp
    with_reducible rfl
  rotate_left
  · simp only [Act.put, List.setIfInBounds_toArray, List.set_cons_zero, List.set_cons_succ, i64_w, i32_w]
    rfl
  refine done_ (done_of HT_.out (by kernel_rfl)) ?_

  rw [← hq.out]
  clear hq
  have k0 := At.c0 hHeld
  have k3 := At.c3 hHeld
  have j3 := blk_frozen hHeld 3
  have HH := Aside0.mk hHeld
  clear hHeld
  rw [hd]
  have H3 := Aside0.mk (show At (w.setCell ⟨g, 3, none⟩ (.int .i64 (f - bs.length))).drew g _ s r _ false from At.set3 HA.out (f - bs.length))
  have K3 := Aside0.mk (show KeepBut w (w.setCell ⟨g, 3, none⟩ (.int .i64 (f - bs.length))).drew g none from KeepBut.set_ (KeepBut.refl w g none) 3 (.int .i64 (f - bs.length)))
  have X3 := Aside0.mk (Kd.R_drew (R_setD (j := 3) (u := .int .i64 (f - bs.length)) HA.out HX.out))
  have q0 := At.c0 H3.out
  go_wp2_with (first | ((with_reducible refine gate_builtin (b := .append) (xs := #[.tmp 76, .tmp 77]) rfl ?_); at_builtin; refine Kd.R_append_rows (Kd.int .u8) (w0 := w0) base rfl (.tmp 76) (.tmp 77) 27 5 (.int .u8 0) 1 rfl Try.underlying27 info5 rfl (by decide) (by omega) (.slice A xs.length c) xs bs _ _ _ (fun _ => True) (fun _ => False) rfl rfl ?aO ?aR (fun _ _ h => h) (fun _ h => h.elim) ?aF ?aB ?aS ?aL ?_; (case aO => exact X3.out); (case aR => exact Kd.C_keep (0 : Int) HC.out K3.out HF.out); (case aF => exact fun _ _ => trivial); (case aB => exact below_drew1 (HB.out.setCell (p := ⟨g, 3, none⟩) HG.out _)); (case aS => exact size_le H3.out HG.out); (case aL => exact HL.out); intro v1 w2 ho hb hg hat; rw [← hys.out] at ho; obtain ⟨A1, c1, e1⟩ := Kd.R_slice ho; subst e1; have HO := Aside0.mk ho; have HB2 := Aside0.mk hb; have HGr := Aside0.mk hg; have HAt := Aside0.mk hat; have h2 := At.grown H3.out hg HN.out; have k0 := At.c0 h2; have j0 := blk_frozen h2 0; clear ho hb hg hat h2))
  go_ret
  exact ⟨rfl, Left.mk_ H3.out HO.out HB2.out HG.out HN.out ⟨Nat.le_of_eq (by simp [World.setCell, World.drew]), fun k _ hk => Below.heap_setCell w ⟨g, 3, none⟩ _ _ hk⟩ (by simp [World.setCell, World.drew]) HGr.out HAt.out⟩
theorem C_take {W : World} {B : Option Addr} {bs : List Int} {m : Nat} (h : Kd.C (Kd.int .u8) W B bs.length bs) (hm : m ≤ bs.length) : Kd.C (Kd.int .u8) W B m (bs.take m) := by
  have hr := Kd.reads_of_C (enc := Value.int .u8) (d := (0 : Int)) (h1 := fun _ => rfl) h
  refine Kd.C_of_reads (d := (0 : Int)) (h1 := fun _ => rfl) ⟨by rw [List.length_take]; omega, Nat.le_trans hm hr.2.1, fun h0 => ?_⟩
  obtain ⟨ad, hA, hc⟩ := hr.2.2 (by omega)
  refine ⟨ad, hA, fun j hj => ?_⟩
  rw [hc j (by omega)]
  simp [List.getD_eq_getElem?_getD, hj]
set_option maxHeartbeats 8000000 in
theorem append_blow (g : Nat) (A B : Option Addr) (c bc : Nat) (xs bs : List Int) (s r f : Int) (w w0 : World) (base : Nat) (h : At w g (.slice A xs.length c) s r f false) (hx : Kd.R (Kd.int .u8) 5 w base (fun _ => True) (.slice A xs.length c) xs)
    (hb : Kd.C (Kd.int .u8) w B bs.length bs) (hfar : ∀ ad, B = some ad → 0 < bs.length → ad.block ≠ g) (hB : Below base w0 w) (hg : base ≤ g) (hn : xs.length ≤ 60000) (hr0 : 0 ≤ r) (hr : r ≤ 60000) (hm : (bs.length : Int) ≤ mx 0 (r - (xs.length : Int))) (hbc : bs.length ≤ bc) (hf0 : 0 ≤ f) (hf : f < (bs.length : Int)) :
    Calls Try.prog 11 #[.pointer (some ⟨g, 0, none⟩), .slice B bs.length bc] w fun e w' => e = .returned (.int .i64 82) ∧ Left w w0 w' base g A xs.length c (xs ++ bs.take f.toNat) s r f true := by
  obtain ⟨ys, hys⟩ : ∃ ys : List Int, Aside0 (ys = xs ++ bs.take f.toNat) := ⟨_, ⟨rfl⟩⟩
  rw [← hys.out]
  have h4 := h.c4
  have HA := Aside0.mk h
  have HX := Aside0.mk hx
  have HB := Aside0.mk hB
  have HC := Aside0.mk hb
  have HF := Aside0.mk hfar
  have HG := Aside0.mk hg
  have hw : wrap64 (r - (xs.length : Int)) = r - xs.length := by clear hm; unfold wrap64; omega
  have HL : Aside0 ((xs.length + bs.length) * 1 ≤ 140737488355328) := ⟨by unfold mx at hm; split at hm <;> omega⟩
  clear h hx hB hb hg hfar
  obtain ⟨q, hq⟩ : ∃ q : Int, Aside0 (q = if (xs.length : Int) < r then r - (xs.length : Int) else 0) := ⟨_, ⟨rfl⟩⟩
  have hd0 : (bs.length : Int) ≤ q := by
    rw [hq.out]
    unfold mx at hm
    split <;> split at hm <;> omega
  have hd : decide (q < (bs.length : Int)) = false := decide_eq_false (by omega)
  have e1 : (f = -1) = False := eq_false (by omega)
  have e2 : decide (f = -1) = false := decide_eq_false (by omega)
  have e3 : (f == -1) = false := by simp; omega
  have HN : Aside0 (some g ≠ (.slice A xs.length c : Value).ownBlock) := ⟨Kd.R_ne HX.out HA.out (by decide)⟩
  have hl : decide (f < (bs.length : Int)) = true := decide_eq_true hf
  have hl2 := eq_true hf
  have HL : Aside0 ((xs.length + (bs.take f.toNat).length) * 1 ≤ 140737488355328) := ⟨by have := hm; unfold mx at this; rw [List.length_take]; split at this <;> omega⟩
  have htl : Aside0 ((bs.take f.toNat).length = f.toNat) := ⟨by rw [List.length_take]; omega⟩
  have kc : ∀ W : World, (Instr.slice 27 (.slice B bs.length bc) none (some (.int .i64 f)) none).run Try.prog W = .ok (.slice B f.toNat bc) W := cut B bs.length bc f hf0 (by omega) (by
    rintro rfl
    obtain ⟨ad, h, _⟩ := HC.out.2.2 (by omega)
    cases h)
  have HCt := Aside0.mk (C_take (m := f.toNat) HC.out (by omega))
  clear hd0 hn hr0 hr hm hf0 hf hbc
  go_enter Try.func11, Try.ntmps11
  go_wp2
  refine start_ (n := 15) (S := fun w' => At w' g (.slice A xs.length c) s r f false) (ds := []) #[false, false, false, false, false, false, false, false, false, false, false, false, false, false, false] (by kernel_rfl) rfl rfl ((At.drew HA.out)) (fun hHeld => ?_)
  refine with_tabW a3.tab3 a3.bits3 (fun HT_ HW_ => ?_)
  refine pure_ (i := 0) (N := some 11) (v := ?_) (a' := ?_) #[true, false, false, false, false, false, false, false, false, false, false, false, false, false, false] rfl rfl (any_of HT_.out (by kernel_rfl)) (fun _ _ _ h => h) (Or.inl ⟨by rfl, ?_⟩) ?_ ?_
  rotate_left
  · intro w'
    go_simp
    with_reducible rfl
  rotate_left
  · simp only [Act.put, List.setIfInBounds_toArray, List.set_cons_zero, List.set_cons_succ, i64_w, i32_w]
    rfl
  refine pure_ (i := 1) (N := some 12) (v := ?_) (a' := ?_) #[true, true, false, false, false, false, false, false, false, false, false, false, false, false, false] rfl rfl (any_of HT_.out (by kernel_rfl)) (fun _ _ _ h => h) (Or.inl ⟨by rfl, ?_⟩) ?_ ?_
  rotate_left
  · intro w'
    go_simp
    with_reducible rfl
  rotate_left
  · simp only [Act.put, List.setIfInBounds_toArray, List.set_cons_zero, List.set_cons_succ, i64_w, i32_w]
    rfl
  refine pure_ (i := 2) (N := some 13) (v := ?_) (a' := ?_) #[true, true, true, false, false, false, false, false, false, false, false, false, false, false, false] rfl rfl (any_of HT_.out (by kernel_rfl)) (fun _ _ _ h => h) (Or.inl ⟨by rfl, ?_⟩) ?_ ?_
  rotate_left
  · intro w'
    go_simp
    with_reducible rfl
  rotate_left
  · simp only [Act.put, List.setIfInBounds_toArray, List.set_cons_zero, List.set_cons_succ, i64_w, i32_w]
    rfl
  refine pure_ (i := 3) (N := some 14) (v := ?_) (a' := ?_) #[true, true, true, true, false, false, false, false, false, false, false, false, false, false, false] rfl rfl (any_of HT_.out (by kernel_rfl)) (fun _ _ _ h => h) (Or.inl ⟨by rfl, ?_⟩) ?_ ?_
  rotate_left
  · intro w'
    go_simp
    with_reducible rfl
  rotate_left
  · simp only [Act.put, List.setIfInBounds_toArray, List.set_cons_zero, List.set_cons_succ, i64_w, i32_w]
    rfl
  refine pure_ (i := 4) (N := some 15) (v := ?_) (a' := ?_) #[true, true, true, true, true, false, false, false, false, false, false, false, false, false, false] rfl rfl (any_of HT_.out (by kernel_rfl)) (fun _ _ _ h => h) (Or.inl ⟨by rfl, ?_⟩) ?_ ?_
  rotate_left
  · intro w'
    go_simp
    with_reducible rfl
  rotate_left
  · simp only [Act.put, List.setIfInBounds_toArray, List.set_cons_zero, List.set_cons_succ, i64_w, i32_w]
    rfl
  refine pure_ (i := 6) (N := some 17) (v := ?_) (a' := ?_) #[true, true, true, true, true, false, true, false, false, false, false, false, false, false, false] rfl rfl (any_of HT_.out (by kernel_rfl)) (fun _ _ _ h => h) (Or.inl ⟨by rfl, ?_⟩) ?_ ?_
  rotate_left
  · intro w'
    go_simp
    with_reducible rfl
  rotate_left
  · simp only [Act.put, List.setIfInBounds_toArray, List.set_cons_zero, List.set_cons_succ, i64_w, i32_w]
    rfl
  refine pure_ (i := 7) (N := some 18) (v := ?_) (a' := ?_) #[true, true, true, true, true, false, true, true, false, false, false, false, false, false, false] rfl rfl (any_of HT_.out (by kernel_rfl)) (fun _ _ _ h => h) (Or.inl ⟨by rfl, ?_⟩) ?_ ?_
  rotate_left
  · intro w'
    go_simp
    with_reducible rfl
  rotate_left
  · simp only [Act.put, List.setIfInBounds_toArray, List.set_cons_zero, List.set_cons_succ, i64_w, i32_w]
    rfl
  refine pure_ (i := 8) (N := some 19) (v := ?_) (a' := ?_) #[true, true, true, true, true, false, true, true, true, false, false, false, false, false, false] rfl rfl (any_of HT_.out (by kernel_rfl)) (fun _ _ _ h => h) (Or.inl ⟨by rfl, ?_⟩) ?_ ?_
  rotate_left
  · intro w'
    go_simp
    with_reducible rfl
  rotate_left
  · simp only [Act.put, List.setIfInBounds_toArray, List.set_cons_zero, List.set_cons_succ, i64_w, i32_w]
    rfl
  refine take_ (i := 5) (N := some 16) (v := ?_) (a' := ?_) #[true, true, true, true, true, true, true, true, true, false, false, false, false, false, false] rfl rfl (take_ofW HT_.out HW_.out (by kernel_rfl)) (fun _ _ _ h => h) (Or.inl ⟨by rfl, ?_⟩) hHeld ?_ ?_
  rotate_left
  · intro w' s0
    have k0 := At.c0 s0
    have k1 := At.c1 s0
    have k2 := At.c2 s0
    have k3 := At.c3 s0
    have k4 := At.c4 s0
    go_simp
    with_reducible rfl
  rotate_left
  · simp only [Act.put, List.setIfInBounds_toArray, List.set_cons_zero, List.set_cons_succ, i64_w, i32_w]
    rfl
  refine take_ (i := 9) (N := some 20) (v := ?_) (a' := ?_) #[true, true, true, true, true, true, true, true, true, true, false, false, false, false, false] rfl rfl (take_ofW HT_.out HW_.out (by kernel_rfl)) (fun _ _ _ h => h) (Or.inl ⟨by rfl, ?_⟩) hHeld ?_ ?_
  rotate_left
  · intro w' s0
    have k0 := At.c0 s0
    have k1 := At.c1 s0
    have k2 := At.c2 s0
    have k3 := At.c3 s0
    have k4 := At.c4 s0
    go_simp
    with_reducible rfl
  rotate_left
  · simp only [Act.put, List.setIfInBounds_toArray, List.set_cons_zero, List.set_cons_succ, i64_w, i32_w]
    rfl
  refine pure_ (i := 10) (N := some 21) (v := ?_) (a' := ?_) #[true, true, true, true, true, true, true, true, true, true, true, false, false, false, false] rfl rfl (any_of HT_.out (by kernel_rfl)) (fun _ _ _ h => h) (Or.inl ⟨by rfl, ?_⟩) ?_ ?_
  rotate_left
  · intro w'
    go_simp
    with_reducible rfl
  rotate_left
  · simp only [Act.put, List.setIfInBounds_toArray, List.set_cons_zero, List.set_cons_succ, i64_w, i32_w]
    rfl
  refine pure_ (i := 11) (N := some 22) (v := ?_) (a' := ?_) #[true, true, true, true, true, true, true, true, true, true, true, true, false, false, false] rfl rfl (any_of HT_.out (by kernel_rfl)) (fun _ _ _ h => h) (Or.inl ⟨by rfl, ?_⟩) ?_ ?_
  rotate_left
  · intro w'
    go_simp
    with_reducible rfl
  rotate_left
  · simp only [Act.put, List.setIfInBounds_toArray, List.set_cons_zero, List.set_cons_succ, i64_w, i32_w]
    rfl
  refine pure_ (i := 12) (N := some 23) (v := ?_) (a' := ?_) #[true, true, true, true, true, true, true, true, true, true, true, true, true, false, false] rfl rfl (any_of HT_.out (by kernel_rfl)) (fun _ _ _ h => h) (Or.inl ⟨by rfl, ?_⟩) ?_ ?_
  rotate_left
  · intro w'
    go_simp
    with_reducible rfl
  rotate_left
  · simp only [Act.put, List.setIfInBounds_toArray, List.set_cons_zero, List.set_cons_succ, i64_w, i32_w]
    rfl
  refine pure_ (i := 13) (N := some 24) (v := ?_) (a' := ?_) #[true, true, true, true, true, true, true, true, true, true, true, true, true, true, false] rfl rfl (any_of HT_.out (by kernel_rfl)) (fun _ _ _ h => h) (Or.inl ⟨by rfl, ?_⟩) ?_ ?_
  rotate_left
  · intro w'
    go_simp
    with_reducible rfl
  rotate_left
  · simp only [Act.put, List.setIfInBounds_toArray, List.set_cons_zero, List.set_cons_succ, i64_w, i32_w]
    rfl
  refine pure_ (i := 14) (N := some 10) (v := ?_) (a' := ?_) #[true, true, true, true, true, true, true, true, true, true, true, true, true, true, true] rfl rfl (any_of HT_.out (by kernel_rfl)) (fun _ _ _ h => h) (Or.inl ⟨by rfl, ?_⟩) ?_ ?_
  rotate_left
  · intro w'
    go_simp
    with_reducible rfl
  rotate_left
  · simp only [Act.put, List.setIfInBounds_toArray, List.set_cons_zero, List.set_cons_succ, i64_w, i32_w]
    rfl
  refine done_ (done_of HT_.out (by kernel_rfl)) ?_

  rw [← hq.out]
  clear hq
  have k0 := At.c0 hHeld
  have k3 := At.c3 hHeld
  have j3 := blk_frozen hHeld 3
  have HH := Aside0.mk hHeld
  clear hHeld
  rw [hd]
  go_wp2
  refine start_ (n := 15) (S := fun w' => At w' g (.slice A xs.length c) s r f false) (ds := [14]) #[false, false, false, false, false, false, false, false, false, false, false, false, false, false, false] (by kernel_rfl) rfl rfl ((At.drew HH.out)) (fun hHeld => ?_)
  refine with_tabW a6.tab6 a6.bits6 (fun HT_ HW_ => ?_)
  refine pure_ (i := 0) (N := some 40) (v := ?_) (a' := ?_) #[true, false, false, false, false, false, false, false, false, false, false, false, false, false, false] rfl rfl (any_of HT_.out (by kernel_rfl)) (fun _ _ _ h => h) (Or.inl ⟨by rfl, ?_⟩) ?_ ?_
  rotate_left
  · intro w'
    go_simp
    with_reducible rfl
  rotate_left
  · simp only [Act.put, List.setIfInBounds_toArray, List.set_cons_zero, List.set_cons_succ, i64_w, i32_w]
    rfl
  refine pure_ (i := 1) (N := some 41) (v := ?_) (a' := ?_) #[true, true, false, false, false, false, false, false, false, false, false, false, false, false, false] rfl rfl (any_of HT_.out (by kernel_rfl)) (fun _ _ _ h => h) (Or.inl ⟨by rfl, ?_⟩) ?_ ?_
  rotate_left
  · intro w'
    go_simp
    with_reducible rfl
  rotate_left
  · simp only [Act.put, List.setIfInBounds_toArray, List.set_cons_zero, List.set_cons_succ, i64_w, i32_w]
    rfl
  refine pure_ (i := 2) (N := some 42) (v := ?_) (a' := ?_) #[true, true, true, false, false, false, false, false, false, false, false, false, false, false, false] rfl rfl (any_of HT_.out (by kernel_rfl)) (fun _ _ _ h => h) (Or.inl ⟨by rfl, ?_⟩) ?_ ?_
  rotate_left
  · intro w'
    go_simp
    with_reducible rfl
  rotate_left
  · simp only [Act.put, List.setIfInBounds_toArray, List.set_cons_zero, List.set_cons_succ, i64_w, i32_w]
    rfl
  refine pure_ (i := 3) (N := some 43) (v := ?_) (a' := ?_) #[true, true, true, true, false, false, false, false, false, false, false, false, false, false, false] rfl rfl (any_of HT_.out (by kernel_rfl)) (fun _ _ _ h => h) (Or.inl ⟨by rfl, ?_⟩) ?_ ?_
  rotate_left
  · intro w'
    go_simp
    with_reducible rfl
  rotate_left
  · simp only [Act.put, List.setIfInBounds_toArray, List.set_cons_zero, List.set_cons_succ, i64_w, i32_w]
    rfl
  refine pure_ (i := 5) (N := some 45) (v := ?_) (a' := ?_) #[true, true, true, true, false, true, false, false, false, false, false, false, false, false, false] rfl rfl (any_of HT_.out (by kernel_rfl)) (fun _ _ _ h => h) (Or.inl ⟨by rfl, ?_⟩) ?_ ?_
  rotate_left
  · intro w'
    go_simp
    with_reducible rfl
  rotate_left
  · simp only [Act.put, List.setIfInBounds_toArray, List.set_cons_zero, List.set_cons_succ, i64_w, i32_w]
    rfl
  refine pure_ (i := 6) (N := some 46) (v := ?_) (a' := ?_) #[true, true, true, true, false, true, true, false, false, false, false, false, false, false, false] rfl rfl (any_of HT_.out (by kernel_rfl)) (fun _ _ _ h => h) (Or.inl ⟨by rfl, ?_⟩) ?_ ?_
  rotate_left
  · intro w'
    go_simp
    with_reducible rfl
  rotate_left
  · simp only [Act.put, List.setIfInBounds_toArray, List.set_cons_zero, List.set_cons_succ, i64_w, i32_w]
    rfl
  refine pure_ (i := 7) (N := some 47) (v := ?_) (a' := ?_) #[true, true, true, true, false, true, true, true, false, false, false, false, false, false, false] rfl rfl (any_of HT_.out (by kernel_rfl)) (fun _ _ _ h => h) (Or.inl ⟨by rfl, ?_⟩) ?_ ?_
  rotate_left
  · intro w'
    go_simp
    with_reducible rfl
  rotate_left
  · simp only [Act.put, List.setIfInBounds_toArray, List.set_cons_zero, List.set_cons_succ, i64_w, i32_w]
    rfl
  refine pure_ (i := 8) (N := some 48) (v := ?_) (a' := ?_) #[true, true, true, true, false, true, true, true, true, false, false, false, false, false, false] rfl rfl (any_of HT_.out (by kernel_rfl)) (fun _ _ _ h => h) (Or.inl ⟨by rfl, ?_⟩) ?_ ?_
  rotate_left
  · intro w'
    go_simp
    with_reducible rfl
  rotate_left
  · simp only [Act.put, List.setIfInBounds_toArray, List.set_cons_zero, List.set_cons_succ, i64_w, i32_w]
    rfl
  refine take_ (i := 4) (N := some 44) (v := ?_) (a' := ?_) #[true, true, true, true, true, true, true, true, true, false, false, false, false, false, false] rfl rfl (take_ofW HT_.out HW_.out (by kernel_rfl)) (fun _ _ _ h => h) (Or.inl ⟨by rfl, ?_⟩) hHeld ?_ ?_
  rotate_left
  · intro w' s0
    have k0 := At.c0 s0
    have k1 := At.c1 s0
    have k2 := At.c2 s0
    have k3 := At.c3 s0
    have k4 := At.c4 s0
    go_simp
    with_reducible rfl
  rotate_left
  · simp only [Act.put, List.setIfInBounds_toArray, List.set_cons_zero, List.set_cons_succ, i64_w, i32_w]
    rfl
  refine take_ (i := 9) (N := some 49) (v := ?_) (a' := ?_) #[true, true, true, true, true, true, true, true, true, true, false, false, false, false, false] rfl rfl (take_ofW HT_.out HW_.out (by kernel_rfl)) (fun _ _ _ h => h) (Or.inl ⟨by rfl, ?_⟩) hHeld ?_ ?_
  rotate_left
  · intro w' s0
    have k0 := At.c0 s0
    have k1 := At.c1 s0
    have k2 := At.c2 s0
    have k3 := At.c3 s0
    have k4 := At.c4 s0
    go_simp
    with_reducible rfl
  rotate_left
  · simp only [Act.put, List.setIfInBounds_toArray, List.set_cons_zero, List.set_cons_succ, i64_w, i32_w]
    rfl
  refine take_ (i := 10) (N := some 50) (v := ?_) (a' := ?_) #[true, true, true, true, true, true, true, true, true, true, true, false, false, false, false] rfl rfl (take_ofW HT_.out HW_.out (by kernel_rfl)) (fun _ _ _ h => h) (Or.inl ⟨by rfl, ?_⟩) hHeld ?_ ?_
  rotate_left
  · intro w' s0
    have k0 := At.c0 s0
    have k1 := At.c1 s0
    have k2 := At.c2 s0
    have k3 := At.c3 s0
    have k4 := At.c4 s0
    go_simp
    with_reducible rfl
  rotate_left
  · simp only [Act.put, List.setIfInBounds_toArray, List.set_cons_zero, List.set_cons_succ, i64_w, i32_w]
    rfl
  refine one_ (i := 11) (N := some 51) #[true, true, true, true, true, true, true, true, true, true, true, true, false, false, false] rfl rfl (one_of HT_.out (by kernel_rfl)) (by decide) (fun K hK => ?_)
  refine Kd.R_append_rows_step (Kd.int .u8) (w0 := w0) base (by rfl) (.tmp 44) (.tmp 50) 27 5 (.int .u8 0) 1 rfl Try.underlying27 info5 rfl (by decide) (by omega) (.slice A xs.length c) xs (bs.take f.toNat) B f.toNat bc (fun _ => True) (fun _ => False) rfl rfl ?aO ?aR (fun _ _ h => h) (fun _ h => h.elim) ?aF ?aB ?aS ?aL ?_
  case aO => exact Kd.R_drew (Kd.R_drew HX.out)
  case aR => exact Kd.C_drew (Kd.C_drew HCt.out)
  case aF => exact fun _ _ => trivial
  case aB => exact below_drew1 (below_drew1 HB.out)
  case aS => exact size_le HA.out HG.out
  case aL => exact htl.out ▸ HL.out
  intro v1 w2 ho hb hg hat
  rw [← hys.out] at ho
  obtain ⟨A1, c1, e1_⟩ := Kd.R_slice ho
  subst e1_
  have HO := Aside0.mk ho
  have HB2 := Aside0.mk hb
  have HGr := Aside0.mk hg
  have HAt := Aside0.mk hat
  have h2 := At.grown hHeld hg HN.out
  have q0 := At.c0 h2
  have j0 := blk_frozen h2 0
  clear ho hb hg hat
  refine hK.out _ _ (h2) (fun hHeld => ?_)
  clear hK K
  refine norm_ (a' := ?_) ?_ ?_
  rotate_left
  · show Act.put _ (some 51) _ = _
    simp only [Act.put, List.setIfInBounds_toArray, List.set_cons_zero, List.set_cons_succ, i64_w, i32_w]
    rfl
  refine pure_ (i := 12) (N := some 52) (v := ?_) (a' := ?_) #[true, true, true, true, true, true, true, true, true, true, true, true, true, false, false] rfl rfl (any_of HT_.out (by kernel_rfl)) (fun _ _ _ h => h) (Or.inl ⟨by rfl, ?_⟩) ?_ ?_
  rotate_left
  · intro w'
    go_simp
    with_reducible rfl
  rotate_left
  · simp only [Act.put, List.setIfInBounds_toArray, List.set_cons_zero, List.set_cons_succ, i64_w, i32_w]
    rfl
  refine pure_ (i := 13) (N := some 53) (v := ?_) (a' := ?_) #[true, true, true, true, true, true, true, true, true, true, true, true, true, true, false] rfl rfl (any_of HT_.out (by kernel_rfl)) (fun _ _ _ h => h) (Or.inl ⟨by rfl, ?_⟩) ?_ ?_
  rotate_left
  · intro w'
    go_simp
    with_reducible rfl
  rotate_left
  · simp only [Act.put, List.setIfInBounds_toArray, List.set_cons_zero, List.set_cons_succ, i64_w, i32_w]
    rfl
  refine last_ (i := 14) (N := none) #[true, true, true, true, true, true, true, true, true, true, true, true, true, true, true] rfl rfl (one_of HT_.out (by kernel_rfl)) (by decide) (fun K hK => ?_)
  refine skip_ (w1 := ?_) (by rfl) rfl ?_ ?_
  rotate_left
  · go_simp
    rfl
  refine hK.out _ _ ?_
  clear hK K
  refine done_ (done_of HT_.out (by kernel_rfl)) ?_

  have h5 := At.set0 h2 (.slice A1 ys.length c1)
  have k4 := At.c4 h5
  have j4 := blk_frozen h5 4
  clear h5 hHeld q0 j0 h2
  go_wp2
  go_ret
  exact ⟨rfl, Left.set4 (Left.mk_ (At.drew HH.out) HO.out HB2.out HG.out HN.out (Kept.refl w _) rfl HGr.out HAt.out) HG.out true⟩
end Go.Proofs.Ythoeoooccmjjaaa.Dk
