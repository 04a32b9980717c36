/- The walk of CrcOne, by hand: its two regions that draw their order are told by a program of ours (wip/tool/one.py). -/
import Derived.Test.YtjcpamclggbbdaaPCrcx4
import Derived.WalkSpells
namespace Go.Proofs.Ytjcpamclggbbdaa.PCrc
open Go.RowKit Go.Proofs.YtjcpamclggbbdaaW.PrintWords Go.Proofs.YtjcpamclggbbdaaW.PrintLast Go.Proofs.YtjcpamclggbbdaaW.PrintMore
set_option linter.unusedVariables false
set_option linter.unusedSimpArgs false
theorem eqn4 (n : Nat) (a b c d e f g h : Int) (w : World) : (Op.equalIn (n + 1 + 1) 37 (.agg #[.int .u8 a, .int .u8 b, .int .u8 c, .int .u8 d]) (.agg #[.int .u8 e, .int .u8 f, .int .u8 g, .int .u8 h])).run Try.prog w = .ok (a == e && (b == f && (c == g && d == h))) w := by
  have hu : Try.prog.underlying 37 = some (.array 4 5) := by kernel_rfl
  have h5 : ∀ (x y : Int), (Op.equalIn (n + 1) 5 (.int .u8 x) (.int .u8 y)).run Try.prog w = .ok (x == y) w := fun x y => run_equalIn_int w n 5 .u8 .u8 x y Try.underlying5
  have hp : ∀ (cs : Array Value) (i : Nat) (v : Value), cs[i]? = some v → (part 5 cs i).run Try.prog w = .ok v w := by
    intro cs i v hv
    have hag : (isAgg 5).run Try.prog w = .ok false w := by simp [isAgg, Try.underlying5]
    simp [part, hag, hv, Result.andThen]
  have hs : (sizeOf 5).run Try.prog w = .ok 1 w := by
    obtain ⟨i9, hi9, _, hsz9, _⟩ := info_parts info5
    simp [sizeOf, typeInfo, hi9, hsz9, Result.andThen]
  unfold Op.equalIn
  simp only [Sem.run_bind, run_underlying hu, Result.andThen_ok, hs, Std.Legacy.Range.forIn_eq_forIn_range', Std.Legacy.Range.size, List.range', List.forIn_cons]
  have P0 := fun (x y z u : Int) => hp #[.int .u8 x, .int .u8 y, .int .u8 z, .int .u8 u] (0 * 1) _ rfl
  have P1 := fun (x y z u : Int) => hp #[.int .u8 x, .int .u8 y, .int .u8 z, .int .u8 u] ((0 + 1) * 1) _ rfl
  have P2 := fun (x y z u : Int) => hp #[.int .u8 x, .int .u8 y, .int .u8 z, .int .u8 u] ((0 + 1 + 1) * 1) _ rfl
  have P3 := fun (x y z u : Int) => hp #[.int .u8 x, .int .u8 y, .int .u8 z, .int .u8 u] ((0 + 1 + 1 + 1) * 1) _ rfl
  simp only [Nat.zero_mul, Nat.zero_add, Nat.one_mul, Nat.mul_one, Nat.reduceAdd] at P0 P1 P2 P3
  simp [List.range', Result.andThen, P0, P1, P2, P3, h5]
  by_cases h1 : a = e <;> by_cases h2 : b = f <;> by_cases h3 : c = g <;> by_cases h4 : d = h <;> simp [h1, h2, h3, h4, P0, P1, P2, P3, h5, Result.andThen]
theorem add0 (g j : Nat) : (⟨g, 0, none⟩ : Addr).add j = ⟨g, j, none⟩ := by
  unfold Addr.add
  split
  · rename_i h
    subst h
    rfl
  · simp
theorem drawn_below {w w' : World} (h : Drawn0 w w') : Below w.heap.size w w' := by
  obtain ⟨nd, rfl⟩ := h
  exact pw_below_drewN (Below.refl _ _) nd
theorem arrC (w : World) (g : Nat) (p0 p1 p2 p3 : Int) (h : w.heap[g]? = some (.cells #[.int .u8 p0, .int .u8 p1, .int .u8 p2, .int .u8 p3] 37 (0, 0))) : Kd.C (Kd.int .u8) w (some ⟨g, 0, none⟩) [p0, p1, p2, p3].length [p0, p1, p2, p3] := by
  refine Kd.C_of_reads (d := (0 : Int)) (h1 := fun _ => rfl) ⟨rfl, by simp, fun _ => ⟨_, rfl, fun j hj => ?_⟩⟩
  have hc := cell_of_row w g j _ _ _ h
  rw [show ((⟨g, 0, none⟩ : Addr).add j) = ⟨g, j, none⟩ from add0 _ _, hc]
  rcases j with _ | _ | _ | _ | j
  · rfl
  · rfl
  · rfl
  · rfl
  · simp at hj; omega
theorem lit3 (W : World) (A0 A1 : Option Addr) (c0 c1 : Nat) (l0 l1 q : List Int) (g c : Nat) (h0 : Kd.C (Kd.int .u8) W A0 l0.length l0) (hc0 : l0.length ≤ c0) (hq : Kd.C (Kd.int .u8) W (some ⟨g, 0, none⟩) q.length q) (hqc : q.length ≤ c) (h1 : Kd.C (Kd.int .u8) W A1 l1.length l1) (hc1 : l1.length ≤ c1) :
    Kd.C (Kd.slice 5 (Kd.int .u8)) (W.alloc (.cells #[.slice A0 l0.length c0, .slice (some ⟨g, 0, none⟩) q.length c, .slice A1 l1.length c1] 22)) (some ⟨W.heap.size, 0, none⟩) [l0, q, l1].length [l0, q, l1] := by
  refine ⟨rfl, by simp, fun _ => ⟨_, rfl, fun j p hj => ?_⟩⟩
  have hrow := blk_new W (.cells #[.slice A0 l0.length c0, .slice (some ⟨g, 0, none⟩) q.length c, .slice A1 l1.length c1] 22)
  have hc := cell_of_row _ _ j _ _ _ hrow
  have key : ∀ v : Value, (#[Value.slice A0 l0.length c0, .slice (some ⟨g, 0, none⟩) q.length c, .slice A1 l1.length c1])[j]? = some v → ∀ (i : Nat) (u : Value), [v][i]? = some u → (W.alloc (.cells #[.slice A0 l0.length c0, .slice (some ⟨g, 0, none⟩) q.length c, .slice A1 l1.length c1] 22)).cell? ((⟨W.heap.size, 0, none⟩ : Addr).add (j * 1 + i)) = some u := by
    intro v hv i u hu
    have hi0 : i = 0 := by
      have := (List.getElem?_eq_some_iff.1 hu).1
      simp at this
      omega
    subst hi0
    obtain rfl : v = u := by simpa using hu
    rw [show ((⟨W.heap.size, 0, none⟩ : Addr).add (j * 1 + 0)) = ⟨W.heap.size, j, none⟩ from (by rw [Nat.mul_one, Nat.add_zero]; exact add0 _ _), hc, hv]
  rcases j with _ | _ | _ | j
  · obtain rfl : l0 = p := by simpa using hj
    exact ⟨[_], rfl, ⟨A0, c0, rfl, hc0, Kd.C_alloc h0 _⟩, key _ rfl⟩
  · obtain rfl : q = p := by simpa using hj
    exact ⟨[_], rfl, ⟨_, c, rfl, hqc, Kd.C_alloc hq _⟩, key _ rfl⟩
  · obtain rfl : l1 = p := by simpa using hj
    exact ⟨[_], rfl, ⟨A1, c1, rfl, hc1, Kd.C_alloc h1 _⟩, key _ rfl⟩
  · simp at hj
theorem below_cells {B : Nat} {w w1 : World} (h : Below B w w1) (g o : Nat) (vs : List Value) (hg : B ≤ g) : Below B w (w1.setCells g o vs) := by
  obtain ⟨s1, s2, s3, s4⟩ := setCells_same g vs o w1
  exact ⟨by rw [s1]; exact h.os, by rw [s2]; exact h.tape, by rw [s3]; exact h.output, by rw [s4]; exact h.size, fun k hk => (setCells_far _ _ k (by omega)).trans (h.block k hk)⟩
theorem alloc_lt (w : World) (o : Obj) : w.heap.size < (w.alloc o).heap.size := blk_lt (blk_new w o)
def ropewaylaw03_CrcOne.T3 : Bool × List (List Nat × List Nat) := (true, [([], []), ([0], [0]), ([], []), ([2], [2]), ([], []), ([], []), ([4, 1, 0, 1, 4, 5], [1, 4]), ([5, 3, 6, 0, 1, 2, 3, 4, 5, 6], [3, 5])])
def ropewaylaw03_CrcOne.B3 : List Nat := [0, 1, 0, 4, 0, 0, 51, 127]
theorem ropewaylaw03_CrcOne.tab3 : rtab .any (opsOf Try.f6 3) = ropewaylaw03_CrcOne.T3 := by kernel_rfl
theorem ropewaylaw03_CrcOne.bits3 : waitsOk ropewaylaw03_CrcOne.T3.2 ropewaylaw03_CrcOne.B3 = true := by kernel_rfl
def ropewaylaw03_CrcOne.T4 : Bool × List (List Nat × List Nat) := (true, [([], []), ([], []), ([], []), ([0, 1, 2], [0, 1, 2]), ([3], [3]), ([], []), ([], []), ([], []), ([5, 6, 7], [5, 6, 7]), ([8, 4], [8]), ([4, 9], [4, 9]), ([], []), ([], []), ([11, 12], [11, 12]), ([10, 13], [10, 13]), ([14, 9, 0, 1, 2, 3, 4, 5, 6, 7, 8, 9, 10, 11, 12, 13, 14], [14])])
def ropewaylaw03_CrcOne.B4 : List Nat := [0, 0, 0, 7, 15, 0, 0, 0, 224, 511, 1023, 0, 0, 6144, 16383, 32767]
theorem ropewaylaw03_CrcOne.tab4 : rtab .any (opsOf Try.f6 4) = ropewaylaw03_CrcOne.T4 := by kernel_rfl
theorem ropewaylaw03_CrcOne.bits4 : waitsOk ropewaylaw03_CrcOne.T4.2 ropewaylaw03_CrcOne.B4 = true := by kernel_rfl
set_option maxHeartbeats 8000000 in
set_option maxRecDepth 100000 in
theorem ropewaylaw03_CrcOne.calls (k : Nat) (A0 A1 : Option Addr) (c0 c1 : Nat) (l0 l1 : List Int) (p0 p1 p2 p3 p4 p5 p6 p7 : Int) (w : World) (hr0 : Kd.C (Kd.int .u8) w A0 l0.length l0) (hc0 : l0.length ≤ c0) (hr1 : Kd.C (Kd.int .u8) w A1 l1.length l1) (hc1 : l1.length ≤ c1)
   (h : ropewaylaw03_crcAlive.f k = some true) (s t : Int) (ha : crc_Of.f k [l0, [p0, p1, p2, p3], l1] = some s) (hb' : crc_Of.f k [l0, [p4, p5, p6, p7], l1] = some t) (hv : ((s == t) == (p0 == p4 && (p1 == p5 && (p2 == p6 && p3 == p7)))) = true) :
    Calls Try.prog 6 #[.slice A0 l0.length c0, .slice A1 l1.length c1, .agg #[.int .u8 p0, .int .u8 p1, .int .u8 p2, .int .u8 p3, .int .u8 p4, .int .u8 p5, .int .u8 p6, .int .u8 p7]] w fun e w' => e = .returned (.bool true) ∧ Below w.heap.size w w' := by
  have HR0 := Aside0.mk hr0
  have HR1 := Aside0.mk hr1
  have HB := Aside0.mk (Below.refl w.heap.size w)
  go_enter Try.func6, Try.ntmps6
  go_wp2_with (first | ((with_reducible refine gate_callee (f := 17) rfl ?_); refine goesL_ (some 9) rfl rfl Try.func17 (by kernel_rfl) rfl #[] rfl (by (try simp only [List.map_toArray, List.map_cons, List.map_nil]); first | done | rfl) ?_; (with_reducible refine (ropewaylaw03_crcAlive.calls k true _ h).mono ?_); rintro e w1 ⟨rfl, hb⟩; refine ⟨_, rfl, ?_⟩))
  have hbx1 : w1.heap[w.heap.size]? = some (.cells #[.int .u8 p0, .int .u8 p1, .int .u8 p2, .int .u8 p3, .int .u8 p4, .int .u8 p5, .int .u8 p6, .int .u8 p7] 38 (0, 0)) := (hb.block _ (alloc_lt _ _)).trans (blk_new w _)
  have hl1 : w.heap.size < w1.heap.size := blk_lt hbx1
  have hs1 : (w1.drew.alloc (.cells #[.int .u8 0, .int .u8 0, .int .u8 0, .int .u8 0] 37)).heap.size = w1.heap.size + 1 := by simp
  have hBw : Below w.heap.size w w1 := (below_alloc (Below.refl _ _) _).trans (hb.mono (Nat.le_of_lt (alloc_lt _ _)))
  have hBf : Below w.heap.size w ((w1.drew.alloc (.cells #[.int .u8 0, .int .u8 0, .int .u8 0, .int .u8 0] 37)).alloc (.cells #[.int .u8 0, .int .u8 0, .int .u8 0, .int .u8 0] 37)) := below_alloc (below_alloc (below_drew1 hBw) _) _
  refine start_ (n := 8) (S := fun w' => w'.heap[w.heap.size]? = some (.cells #[.int .u8 p0, .int .u8 p1, .int .u8 p2, .int .u8 p3, .int .u8 p4, .int .u8 p5, .int .u8 p6, .int .u8 p7] 38 (0, 0))) (ds := []) #[false, false, false, false, false, false, false, false] (by kernel_rfl) rfl rfl ((show w1.drew.heap[w.heap.size]? = _ from hbx1)) (fun hHeld => ?_)
  refine with_tabW ropewaylaw03_CrcOne.tab3 ropewaylaw03_CrcOne.bits3 (fun HT_ HW_ => ?_)
  refine pure_ (i := 0) (N := some 11) (v := ?_) (a' := ?_) #[true, false, false, false, false, false, false, false] rfl rfl (any_of HT_.out (by kernel_rfl)) (fun _ _ _ h => h) (Or.inl ⟨by rfl, ?_⟩) ?_ ?_
  rotate_left
  · intro w'
    go_simp
    with_reducible rfl
  rotate_left
  · simp only [Act.put, List.setIfInBounds_toArray, List.set_cons_zero, List.set_cons_succ, i64_w, i32_w]
    rfl
  refine pure_ (i := 2) (N := some 13) (v := ?_) (a' := ?_) #[true, false, true, false, false, false, false, false] rfl rfl (any_of HT_.out (by kernel_rfl)) (fun _ _ _ h => h) (Or.inl ⟨by rfl, ?_⟩) ?_ ?_
  rotate_left
  · intro w'
    go_simp
    with_reducible rfl
  rotate_left
  · simp only [Act.put, List.setIfInBounds_toArray, List.set_cons_zero, List.set_cons_succ, i64_w, i32_w]
    rfl
  refine take_ (i := 1) (N := some 12) (v := ?_) (a' := ?_) #[true, true, true, false, false, false, false, false] rfl rfl (take_ofW HT_.out HW_.out (by kernel_rfl)) (fun _ _ _ h => h) (Or.inl ⟨by rfl, ?_⟩) hHeld ?_ ?_
  rotate_left
  · intro w' s0
    have hc0 := cell_of_row w' w.heap.size 0 _ _ _ s0
    have hc1 := cell_of_row w' w.heap.size 1 _ _ _ s0
    have hc2 := cell_of_row w' w.heap.size 2 _ _ _ s0
    have hc3 := cell_of_row w' w.heap.size 3 _ _ _ s0
    have hc4 := cell_of_row w' w.heap.size 4 _ _ _ s0
    have hc5 := cell_of_row w' w.heap.size 5 _ _ _ s0
    have hc6 := cell_of_row w' w.heap.size 6 _ _ _ s0
    have hc7 := cell_of_row w' w.heap.size 7 _ _ _ s0
    simp only [List.getElem?_toArray, List.getElem?_cons_zero, List.getElem?_cons_succ] at hc0 hc1 hc2 hc3 hc4 hc5 hc6 hc7
    go_simp
    with_reducible rfl
  rotate_left
  · simp only [Act.put, List.setIfInBounds_toArray, List.set_cons_zero, List.set_cons_succ, i64_w, i32_w]
    rfl
  refine take_ (i := 3) (N := some 14) (v := ?_) (a' := ?_) #[true, true, true, true, false, false, false, false] rfl rfl (take_ofW HT_.out HW_.out (by kernel_rfl)) (fun _ _ _ h => h) (Or.inl ⟨by rfl, ?_⟩) hHeld ?_ ?_
  rotate_left
  · intro w' s0
    have hc0 := cell_of_row w' w.heap.size 0 _ _ _ s0
    have hc1 := cell_of_row w' w.heap.size 1 _ _ _ s0
    have hc2 := cell_of_row w' w.heap.size 2 _ _ _ s0
    have hc3 := cell_of_row w' w.heap.size 3 _ _ _ s0
    have hc4 := cell_of_row w' w.heap.size 4 _ _ _ s0
    have hc5 := cell_of_row w' w.heap.size 5 _ _ _ s0
    have hc6 := cell_of_row w' w.heap.size 6 _ _ _ s0
    have hc7 := cell_of_row w' w.heap.size 7 _ _ _ s0
    simp only [List.getElem?_toArray, List.getElem?_cons_zero, List.getElem?_cons_succ] at hc0 hc1 hc2 hc3 hc4 hc5 hc6 hc7
    go_simp
    with_reducible rfl
  rotate_left
  · simp only [Act.put, List.setIfInBounds_toArray, List.set_cons_zero, List.set_cons_succ, i64_w, i32_w]
    rfl
  refine join_ (σ := Nat × Nat) 2 #[true, true, true, true, true, true, false, false] (fun s_ => [(7, .pointer (some ⟨s_.1, 0, none⟩)), (8, .pointer (some ⟨s_.2, 0, none⟩))]) (fun s_ w' => (w'.heap[w.heap.size]? = some (.cells #[.int .u8 p0, .int .u8 p1, .int .u8 p2, .int .u8 p3, .int .u8 p4, .int .u8 p5, .int .u8 p6, .int .u8 p7] 38 (0, 0))) ∧ w'.heap[s_.1]? = some (.cells #[.int .u8 0, .int .u8 0, .int .u8 0, .int .u8 0] 37) ∧ w'.heap[s_.2]? = some (.cells #[.int .u8 0, .int .u8 0, .int .u8 0, .int .u8 0] 37) ∧ s_.1 ≠ s_.2 ∧ w.heap.size < s_.1 ∧ w.heap.size < s_.2 ∧ Below w.heap.size w w') ?_ ?_
  rotate_left
  · intro hCont
    refine two_ (i := 4) (j := 5) (Ni := some 7) (Nj := some 8) #[true, true, true, true, true, false, false, false] #[true, true, true, true, false, true, false, false] rfl rfl rfl rfl (two_of HT_.out (by kernel_rfl)) (by decide) (by decide) (fun K hK => ?_) (fun K hK => ?_)
    · skip
      refine value_ (w1 := ?_) (v := ?_) (by rfl) rfl ?_ ?_
      rotate_left 2
      · go_simp
        constructor
        · rfl
        · rfl
      refine hK.out _ _ ((blk_alloc hHeld _)) (fun hHeld => ?_)
      clear hK K
      refine norm_ (a' := ?_) ?_ ?_
      rotate_left
      · show Act.put _ (some 7) _ = _
        simp only [Act.put, List.setIfInBounds_toArray, List.set_cons_zero, List.set_cons_succ, i64_w, i32_w]
        rfl
      refine one_ (i := 5) (N := some 8) #[true, true, true, true, true, true, false, false] rfl rfl (one_of HT_.out (by kernel_rfl)) (by decide) (fun K hK => ?_)
      refine value_ (w1 := ?_) (v := ?_) (by rfl) rfl ?_ ?_
      rotate_left 2
      · go_simp
        constructor
        · rfl
        · rfl
      refine hK.out _ _ ((blk_alloc hHeld _)) (fun hHeld => ?_)
      clear hK K
      refine norm_ (a' := ?_) ?_ ?_
      rotate_left
      · show Act.put _ (some 8) _ = _
        simp only [Act.put, List.setIfInBounds_toArray, List.set_cons_zero, List.set_cons_succ, i64_w, i32_w]
        rfl
      exact norm_ (by first | (simp only [putAll, Act.put, List.setIfInBounds_toArray, List.set_cons_zero, List.set_cons_succ]; done) | (simp only [putAll, Act.put, List.setIfInBounds_toArray, List.set_cons_zero, List.set_cons_succ]; rfl)) (hCont (w1.heap.size, w1.heap.size + 1) _ ⟨hHeld, (blk_alloc (blk_new w1.drew _) _), (hs1 ▸ blk_new (w1.drew.alloc (.cells #[.int .u8 0, .int .u8 0, .int .u8 0, .int .u8 0] 37)) _), Nat.ne_of_lt (Nat.lt_succ_self _), hl1, Nat.lt_succ_of_lt hl1, hBf⟩)
    · skip
      refine value_ (w1 := ?_) (v := ?_) (by rfl) rfl ?_ ?_
      rotate_left 2
      · go_simp
        constructor
        · rfl
        · rfl
      refine hK.out _ _ ((blk_alloc hHeld _)) (fun hHeld => ?_)
      clear hK K
      refine norm_ (a' := ?_) ?_ ?_
      rotate_left
      · show Act.put _ (some 8) _ = _
        simp only [Act.put, List.setIfInBounds_toArray, List.set_cons_zero, List.set_cons_succ, i64_w, i32_w]
        rfl
      refine one_ (i := 4) (N := some 7) #[true, true, true, true, true, true, false, false] rfl rfl (one_of HT_.out (by kernel_rfl)) (by decide) (fun K hK => ?_)
      refine value_ (w1 := ?_) (v := ?_) (by rfl) rfl ?_ ?_
      rotate_left 2
      · go_simp
        constructor
        · rfl
        · rfl
      refine hK.out _ _ ((blk_alloc hHeld _)) (fun hHeld => ?_)
      clear hK K
      refine norm_ (a' := ?_) ?_ ?_
      rotate_left
      · show Act.put _ (some 7) _ = _
        simp only [Act.put, List.setIfInBounds_toArray, List.set_cons_zero, List.set_cons_succ, i64_w, i32_w]
        rfl
      exact norm_ (by first | (simp only [putAll, Act.put, List.setIfInBounds_toArray, List.set_cons_zero, List.set_cons_succ]; done) | (simp only [putAll, Act.put, List.setIfInBounds_toArray, List.set_cons_zero, List.set_cons_succ]; rfl)) (hCont (w1.heap.size + 1, w1.heap.size) _ ⟨hHeld, (hs1 ▸ blk_new (w1.drew.alloc (.cells #[.int .u8 0, .int .u8 0, .int .u8 0, .int .u8 0] 37)) _), (blk_alloc (blk_new w1.drew _) _), Nat.ne_of_gt (Nat.lt_succ_self _), Nat.lt_succ_of_lt hl1, hl1, hBf⟩)
  rintro ⟨ga, gb⟩ w2 ⟨hHeld, hga, hgb, hne, hla, hlb, hB2⟩
  simp only at hga hgb hne hla hlb
  refine norm_ (a' := ?_) ?_ ?_
  rotate_left
  · simp only [putAll, Act.put, List.setIfInBounds_toArray, List.set_cons_zero, List.set_cons_succ]
    rfl
  refine one_ (i := 6) (N := none) #[true, true, true, true, true, true, true, false] rfl rfl (one_of HT_.out (by kernel_rfl)) (by decide) (fun K hK => ?_)
  refine skip_ (w1 := ?_) (by rfl) rfl ?_ ?_
  rotate_left
  · have hst := run_store_run (P := Try.prog) (w := w2) (g := ga) (o := 0) 37 (.agg #[.int .u8 p0, .int .u8 p1, .int .u8 p2, .int .u8 p3]) [.int .u8 p0, .int .u8 p1, .int .u8 p2, .int .u8 p3] hga rfl (by kernel_rfl) (Nat.le_refl _) (by intro q hq; simp only [List.mem_cons, List.not_mem_nil, or_false] at hq; rcases hq with rfl | rfl | rfl | rfl <;> rfl)
    show Sem.run Try.prog (Instr.storeAt 37 (.pointer (some ⟨ga, 0, none⟩)) (.agg #[.int .u8 p0, .int .u8 p1, .int .u8 p2, .int .u8 p3]) >>= fun _ => pure Next.skip) w2 = _
    rw [Sem.run_bind, hst]
    rfl
  refine hK.out _ _ (((setCells_far _ _ _ (Nat.ne_of_lt hla)).trans hHeld)) (fun hHeld => ?_)
  clear hK K
  refine one_ (i := 7) (N := none) #[true, true, true, true, true, true, true, true] rfl rfl (one_of HT_.out (by kernel_rfl)) (by decide) (fun K hK => ?_)
  refine skip_ (w1 := ?_) (by rfl) rfl ?_ ?_
  rotate_left
  · have hst := run_store_run (P := Try.prog) (w := (w2.setCells ga 0 [.int .u8 p0, .int .u8 p1, .int .u8 p2, .int .u8 p3])) (g := gb) (o := 0) 37 (.agg #[.int .u8 p4, .int .u8 p5, .int .u8 p6, .int .u8 p7]) [.int .u8 p4, .int .u8 p5, .int .u8 p6, .int .u8 p7] ((setCells_far _ _ _ (Ne.symm hne)).trans hgb) rfl (by kernel_rfl) (Nat.le_refl _) (by intro q hq; simp only [List.mem_cons, List.not_mem_nil, or_false] at hq; rcases hq with rfl | rfl | rfl | rfl <;> rfl)
    show Sem.run Try.prog (Instr.storeAt 37 (.pointer (some ⟨gb, 0, none⟩)) (.agg #[.int .u8 p4, .int .u8 p5, .int .u8 p6, .int .u8 p7]) >>= fun _ => pure Next.skip) (w2.setCells ga 0 [.int .u8 p0, .int .u8 p1, .int .u8 p2, .int .u8 p3]) = _
    rw [Sem.run_bind, hst]
    rfl
  refine hK.out _ _ (((setCells_far _ _ _ (Nat.ne_of_lt hlb)).trans hHeld)) (fun hHeld => ?_)
  clear hK K
  refine done_ (done_of HT_.out (by kernel_rfl)) ?_
  
  obtain ⟨cA, hA3, _, hA5⟩ := setCells_row [.int .u8 p0, .int .u8 p1, .int .u8 p2, .int .u8 p3] 0 w2 _ hga (Nat.le_refl _)
  obtain rfl : cA = #[.int .u8 p0, .int .u8 p1, .int .u8 p2, .int .u8 p3] := by apply Array.toList_inj.1; rw [hA5]; rfl
  have hA4 : ((w2.setCells ga 0 [.int .u8 p0, .int .u8 p1, .int .u8 p2, .int .u8 p3]).setCells gb 0 [.int .u8 p4, .int .u8 p5, .int .u8 p6, .int .u8 p7]).heap[ga]? = some (.cells #[.int .u8 p0, .int .u8 p1, .int .u8 p2, .int .u8 p3] 37 (0, 0)) := (setCells_far _ _ _ hne).trans hA3
  obtain ⟨cB, hB3, _, hB5⟩ := setCells_row [.int .u8 p4, .int .u8 p5, .int .u8 p6, .int .u8 p7] 0 (w2.setCells ga 0 [.int .u8 p0, .int .u8 p1, .int .u8 p2, .int .u8 p3]) _ ((setCells_far _ _ _ (Ne.symm hne)).trans hgb) (Nat.le_refl _)
  obtain rfl : cB = #[.int .u8 p4, .int .u8 p5, .int .u8 p6, .int .u8 p7] := by apply Array.toList_inj.1; rw [hB5]; rfl
  have hB6 : Below w.heap.size w ((w2.setCells ga 0 [.int .u8 p0, .int .u8 p1, .int .u8 p2, .int .u8 p3]).setCells gb 0 [.int .u8 p4, .int .u8 p5, .int .u8 p6, .int .u8 p7]) := below_cells (below_cells hB2 _ _ _ (Nat.le_of_lt hla)) _ _ _ (Nat.le_of_lt hlb)
  clear hA3 hA5 hB5 hga hgb
  generalize ((w2.setCells ga 0 [.int .u8 p0, .int .u8 p1, .int .u8 p2, .int .u8 p3]).setCells gb 0 [.int .u8 p4, .int .u8 p5, .int .u8 p6, .int .u8 p7]) = w5 at hA4 hB3 hB6 ⊢
  try go_wp2
  have heq : ∀ W : World, (Op.equalIn 10000 37 (.agg #[.int .u8 p0, .int .u8 p1, .int .u8 p2, .int .u8 p3]) (.agg #[.int .u8 p4, .int .u8 p5, .int .u8 p6, .int .u8 p7])).run Try.prog W = .ok (p0 == p4 && (p1 == p5 && (p2 == p6 && p3 == p7))) W := fun W => eqn4 9998 _ _ _ _ _ _ _ _ W
  have hF := Kd.C_drew (Kd.C_below hr0 hB6)
  have hG := Kd.C_drew (Kd.C_below hr1 hB6)
  have hQa := arrC w5.drew ga p0 p1 p2 p3 hA4
  have hQb := arrC w5.drew gb p4 p5 p6 p7 hB3
  have hBc := below_drew1 hB6
  refine start_ (n := 16) (S := fun w' => w'.heap[ga]? = some (.cells #[.int .u8 p0, .int .u8 p1, .int .u8 p2, .int .u8 p3] 37 (0, 0)) ∧ w'.heap[gb]? = some (.cells #[.int .u8 p4, .int .u8 p5, .int .u8 p6, .int .u8 p7] 37 (0, 0))) (ds := []) #[false, false, false, false, false, false, false, false, false, false, false, false, false, false, false, false] (by kernel_rfl) rfl rfl ⟨(show w5.drew.heap[ga]? = _ from hA4), (show w5.drew.heap[gb]? = _ from hB3)⟩ (fun hHeld => ?_)
  generalize w5.drew = w6 at hF hG hQa hQb hBc hHeld ⊢
  refine with_tabW ropewaylaw03_CrcOne.tab4 ropewaylaw03_CrcOne.bits4 (fun HT_ HW_ => ?_)
  refine pure_ (i := 0) (N := some 15) (v := ?_) (a' := ?_) #[true, false, false, false, false, false, false, false, false, false, false, false, false, false, false, false] rfl rfl (any_of HT_.out (by kernel_rfl)) (fun _ _ _ h => h) (Or.inl ⟨by rfl, ?_⟩) ?_ ?_
  rotate_left
  · intro w'
    go_simp
    with_reducible rfl
  rotate_left
  · simp only [Act.put, List.setIfInBounds_toArray, List.set_cons_zero, List.set_cons_succ, i64_w, i32_w]
    rfl
  refine pure_ (i := 1) (N := some 16) (v := ?_) (a' := ?_) #[true, true, false, false, false, false, false, false, false, false, false, false, false, false, false, false] rfl rfl (any_of HT_.out (by kernel_rfl)) (fun _ _ _ h => h) (Or.inl ⟨by rfl, ?_⟩) ?_ ?_
  rotate_left
  · intro w'
    go_simp
    with_reducible rfl
  rotate_left
  · simp only [Act.put, List.setIfInBounds_toArray, List.set_cons_zero, List.set_cons_succ, i64_w, i32_w]
    rfl
  refine pure_ (i := 2) (N := some 17) (v := ?_) (a' := ?_) #[true, true, true, false, false, false, false, false, false, false, false, false, false, false, false, false] rfl rfl (any_of HT_.out (by kernel_rfl)) (fun _ _ _ h => h) (Or.inl ⟨by rfl, ?_⟩) ?_ ?_
  rotate_left
  · intro w'
    go_simp
    with_reducible rfl
  rotate_left
  · simp only [Act.put, List.setIfInBounds_toArray, List.set_cons_zero, List.set_cons_succ, i64_w, i32_w]
    rfl
  refine pure_ (i := 5) (N := some 20) (v := ?_) (a' := ?_) #[true, true, true, false, false, true, false, false, false, false, false, false, false, false, false, false] rfl rfl (any_of HT_.out (by kernel_rfl)) (fun _ _ _ h => h) (Or.inl ⟨by rfl, ?_⟩) ?_ ?_
  rotate_left
  · intro w'
    go_simp
    with_reducible rfl
  rotate_left
  · simp only [Act.put, List.setIfInBounds_toArray, List.set_cons_zero, List.set_cons_succ, i64_w, i32_w]
    rfl
  refine pure_ (i := 6) (N := some 21) (v := ?_) (a' := ?_) #[true, true, true, false, false, true, true, false, false, false, false, false, false, false, false, false] rfl rfl (any_of HT_.out (by kernel_rfl)) (fun _ _ _ h => h) (Or.inl ⟨by rfl, ?_⟩) ?_ ?_
  rotate_left
  · intro w'
    go_simp
    with_reducible rfl
  rotate_left
  · simp only [Act.put, List.setIfInBounds_toArray, List.set_cons_zero, List.set_cons_succ, i64_w, i32_w]
    rfl
  refine pure_ (i := 7) (N := some 22) (v := ?_) (a' := ?_) #[true, true, true, false, false, true, true, true, false, false, false, false, false, false, false, false] rfl rfl (any_of HT_.out (by kernel_rfl)) (fun _ _ _ h => h) (Or.inl ⟨by rfl, ?_⟩) ?_ ?_
  rotate_left
  · intro w'
    go_simp
    with_reducible rfl
  rotate_left
  · simp only [Act.put, List.setIfInBounds_toArray, List.set_cons_zero, List.set_cons_succ, i64_w, i32_w]
    rfl
  refine take_ (i := 11) (N := some 26) (v := ?_) (a' := ?_) #[true, true, true, false, false, true, true, true, false, false, false, true, false, false, false, false] rfl rfl (take_ofW HT_.out HW_.out (by kernel_rfl)) (fun _ _ _ h => h) (Or.inl ⟨by rfl, ?_⟩) hHeld ?_ ?_
  rotate_left
  · rintro w' ⟨s0, s1⟩
    have ha0 := cell_of_row w' ga 0 _ _ _ s0
    have ha1 := cell_of_row w' ga 1 _ _ _ s0
    have ha2 := cell_of_row w' ga 2 _ _ _ s0
    have ha3 := cell_of_row w' ga 3 _ _ _ s0
    have hb0 := cell_of_row w' gb 0 _ _ _ s1
    have hb1 := cell_of_row w' gb 1 _ _ _ s1
    have hb2 := cell_of_row w' gb 2 _ _ _ s1
    have hb3 := cell_of_row w' gb 3 _ _ _ s1
    simp only [List.getElem?_toArray, List.getElem?_cons_zero, List.getElem?_cons_succ] at ha0 ha1 ha2 ha3 hb0 hb1 hb2 hb3
    go_simp
    with_reducible rfl
  rotate_left
  · simp only [Act.put, List.setIfInBounds_toArray, List.set_cons_zero, List.set_cons_succ, i64_w, i32_w]
    rfl
  refine take_ (i := 12) (N := some 27) (v := ?_) (a' := ?_) #[true, true, true, false, false, true, true, true, false, false, false, true, true, false, false, false] rfl rfl (take_ofW HT_.out HW_.out (by kernel_rfl)) (fun _ _ _ h => h) (Or.inl ⟨by rfl, ?_⟩) hHeld ?_ ?_
  rotate_left
  · rintro w' ⟨s0, s1⟩
    have ha0 := cell_of_row w' ga 0 _ _ _ s0
    have ha1 := cell_of_row w' ga 1 _ _ _ s0
    have ha2 := cell_of_row w' ga 2 _ _ _ s0
    have ha3 := cell_of_row w' ga 3 _ _ _ s0
    have hb0 := cell_of_row w' gb 0 _ _ _ s1
    have hb1 := cell_of_row w' gb 1 _ _ _ s1
    have hb2 := cell_of_row w' gb 2 _ _ _ s1
    have hb3 := cell_of_row w' gb 3 _ _ _ s1
    simp only [List.getElem?_toArray, List.getElem?_cons_zero, List.getElem?_cons_succ] at ha0 ha1 ha2 ha3 hb0 hb1 hb2 hb3
    go_simp
    with_reducible rfl
  rotate_left
  · simp only [Act.put, List.setIfInBounds_toArray, List.set_cons_zero, List.set_cons_succ, i64_w, i32_w]
    rfl
  refine pure_ (i := 13) (N := some 28) (v := ?_) (a' := ?_) #[true, true, true, false, false, true, true, true, false, false, false, true, true, true, false, false] rfl rfl (any_of HT_.out (by kernel_rfl)) (fun _ _ _ h => h) (Or.inl ⟨by rfl, ?_⟩) ?_ ?_
  rotate_left
  · intro w'
    go_simp
    with_reducible rfl
  rotate_left
  · simp only [Act.put, List.setIfInBounds_toArray, List.set_cons_zero, List.set_cons_succ, i64_w, i32_w]
    rfl
  refine join_ (σ := Nat × Nat) 4 #[true, true, true, true, true, true, true, true, true, false, false, true, true, true, false, false] (fun s_ => [(18, .slice (some ⟨s_.1, 0, none⟩) 3 3), (19, .int .u32 s), (23, .slice (some ⟨s_.2, 0, none⟩) 3 3)]) (fun s_ w' => (w'.heap[ga]? = some (.cells #[.int .u8 p0, .int .u8 p1, .int .u8 p2, .int .u8 p3] 37 (0, 0)) ∧ w'.heap[gb]? = some (.cells #[.int .u8 p4, .int .u8 p5, .int .u8 p6, .int .u8 p7] 37 (0, 0))) ∧ Kd.C (Kd.slice 5 (Kd.int .u8)) w' (some ⟨s_.2, 0, none⟩) [l0, [p4, p5, p6, p7], l1].length [l0, [p4, p5, p6, p7], l1] ∧ Below w.heap.size w w') ?_ ?_
  rotate_left
  · intro hCont
    refine two_ (i := 3) (j := 8) (Ni := some 18) (Nj := some 23) #[true, true, true, true, false, true, true, true, false, false, false, true, true, true, false, false] #[true, true, true, false, false, true, true, true, true, false, false, true, true, true, false, false] rfl rfl rfl rfl (two_of HT_.out (by kernel_rfl)) (by decide) (by decide) (fun K hK => ?_) (fun K hK => ?_)
    · skip
      refine value_ (w1 := ?_) (v := ?_) (by rfl) rfl ?_ ?_
      rotate_left 2
      · go_simp
        constructor
        · rfl
        · rfl
      have hC18 := lit3 w6 A0 A1 c0 c1 l0 l1 [p0, p1, p2, p3] ga 4 hF hc0 hQa (Nat.le_refl _) hG hc1
      have hbn := below_alloc (Below.refl w6.heap.size w6) (.cells #[.slice A0 l0.length c0, .slice (some ⟨ga, 0, none⟩) 4 4, .slice A1 l1.length c1] 22)
      have hBc := below_alloc hBc (.cells #[.slice A0 l0.length c0, .slice (some ⟨ga, 0, none⟩) 4 4, .slice A1 l1.length c1] 22)
      have hS1 := blk_alloc hHeld.1 (.cells #[.slice A0 l0.length c0, .slice (some ⟨ga, 0, none⟩) 4 4, .slice A1 l1.length c1] 22)
      have hS2 := blk_alloc hHeld.2 (.cells #[.slice A0 l0.length c0, .slice (some ⟨ga, 0, none⟩) 4 4, .slice A1 l1.length c1] 22)
      generalize World.alloc w6 (.cells #[.slice A0 l0.length c0, .slice (some ⟨ga, 0, none⟩) 4 4, .slice A1 l1.length c1] 22) = wd3 at hC18 hbn hBc hS1 hS2 ⊢
      have hF := Kd.C_below hF hbn
      have hG := Kd.C_below hG hbn
      have hQa := Kd.C_below hQa hbn
      have hQb := Kd.C_below hQb hbn
      refine hK.out _ _ ⟨hS1, hS2⟩ (fun hHeld => ?_)
      clear hK K
      refine norm_ (a' := ?_) ?_ ?_
      rotate_left
      · show Act.put _ (some 18) _ = _
        simp only [Act.put, List.setIfInBounds_toArray, List.set_cons_zero, List.set_cons_succ, i64_w, i32_w]
        rfl
      refine two_ (i := 4) (j := 8) (Ni := some 19) (Nj := some 23) #[true, true, true, true, true, true, true, true, false, false, false, true, true, true, false, false] #[true, true, true, true, false, true, true, true, true, false, false, true, true, true, false, false] rfl rfl rfl rfl (two_of HT_.out (by kernel_rfl)) (by decide) (by decide) (fun K hK => ?_) (fun K hK => ?_)
      · skip
        refine goes_ Try.func18 (by kernel_rfl) rfl #[.slice (some ⟨w6.heap.size, 0, none⟩) [l0, [p0, p1, p2, p3], l1].length 3] (by rfl) rfl rfl (by (try simp only [List.map_toArray, List.map_cons, List.map_nil]); first | done | rfl) ?_
        with_reducible refine (crc_Of.calls k (some ⟨w6.heap.size, 0, none⟩) 3 [l0, [p0, p1, p2, p3], l1] s wd3 hC18 (Nat.le_refl _) ha).mono ?_
        rintro e wd3_4 ⟨rfl, hd⟩
        refine ⟨_, rfl, ?_⟩
        have hbn := drawn_below hd
        have hBc := hBc.trans (hbn.mono hBc.size)
        have hS1 := (hbn.block _ (blk_lt hHeld.1)).trans hHeld.1
        have hS2 := (hbn.block _ (blk_lt hHeld.2)).trans hHeld.2
        have hF := Kd.C_below hF hbn
        have hG := Kd.C_below hG hbn
        have hQa := Kd.C_below hQa hbn
        have hQb := Kd.C_below hQb hbn
        have hC18 := Kd.C_below hC18 hbn
        refine hK.out _ _ ⟨hS1, hS2⟩ (fun hHeld => ?_)
        clear hK K
        refine norm_ (a' := ?_) ?_ ?_
        rotate_left
        · show Act.put _ (some 19) _ = _
          simp only [Act.put, List.setIfInBounds_toArray, List.set_cons_zero, List.set_cons_succ, i64_w, i32_w]
          rfl
        refine one_ (i := 8) (N := some 23) #[true, true, true, true, true, true, true, true, true, false, false, true, true, true, false, false] rfl rfl (one_of HT_.out (by kernel_rfl)) (by decide) (fun K hK => ?_)
        refine value_ (w1 := ?_) (v := ?_) (by rfl) rfl ?_ ?_
        rotate_left 2
        · go_simp
          constructor
          · rfl
          · rfl
        have hC23 := lit3 wd3_4 A0 A1 c0 c1 l0 l1 [p4, p5, p6, p7] gb 4 hF hc0 hQb (Nat.le_refl _) hG hc1
        have hbn := below_alloc (Below.refl wd3_4.heap.size wd3_4) (.cells #[.slice A0 l0.length c0, .slice (some ⟨gb, 0, none⟩) 4 4, .slice A1 l1.length c1] 22)
        have hBc := below_alloc hBc (.cells #[.slice A0 l0.length c0, .slice (some ⟨gb, 0, none⟩) 4 4, .slice A1 l1.length c1] 22)
        have hS1 := blk_alloc hHeld.1 (.cells #[.slice A0 l0.length c0, .slice (some ⟨gb, 0, none⟩) 4 4, .slice A1 l1.length c1] 22)
        have hS2 := blk_alloc hHeld.2 (.cells #[.slice A0 l0.length c0, .slice (some ⟨gb, 0, none⟩) 4 4, .slice A1 l1.length c1] 22)
        generalize World.alloc wd3_4 (.cells #[.slice A0 l0.length c0, .slice (some ⟨gb, 0, none⟩) 4 4, .slice A1 l1.length c1] 22) = wd3_4_8 at hC23 hbn hBc hS1 hS2 ⊢
        have hF := Kd.C_below hF hbn
        have hG := Kd.C_below hG hbn
        have hQa := Kd.C_below hQa hbn
        have hQb := Kd.C_below hQb hbn
        have hC18 := Kd.C_below hC18 hbn
        refine hK.out _ _ ⟨hS1, hS2⟩ (fun hHeld => ?_)
        clear hK K
        refine norm_ (a' := ?_) ?_ ?_
        rotate_left
        · show Act.put _ (some 23) _ = _
          simp only [Act.put, List.setIfInBounds_toArray, List.set_cons_zero, List.set_cons_succ, i64_w, i32_w]
          rfl
        exact norm_ (by first | (simp only [putAll, Act.put, List.setIfInBounds_toArray, List.set_cons_zero, List.set_cons_succ]; done) | (simp only [putAll, Act.put, List.setIfInBounds_toArray, List.set_cons_zero, List.set_cons_succ]; rfl)) (hCont (w6.heap.size, wd3_4.heap.size) _ ⟨hHeld, hC23, hBc⟩)
      · skip
        refine value_ (w1 := ?_) (v := ?_) (by rfl) rfl ?_ ?_
        rotate_left 2
        · go_simp
          constructor
          · rfl
          · rfl
        have hC23 := lit3 wd3 A0 A1 c0 c1 l0 l1 [p4, p5, p6, p7] gb 4 hF hc0 hQb (Nat.le_refl _) hG hc1
        have hbn := below_alloc (Below.refl wd3.heap.size wd3) (.cells #[.slice A0 l0.length c0, .slice (some ⟨gb, 0, none⟩) 4 4, .slice A1 l1.length c1] 22)
        have hBc := below_alloc hBc (.cells #[.slice A0 l0.length c0, .slice (some ⟨gb, 0, none⟩) 4 4, .slice A1 l1.length c1] 22)
        have hS1 := blk_alloc hHeld.1 (.cells #[.slice A0 l0.length c0, .slice (some ⟨gb, 0, none⟩) 4 4, .slice A1 l1.length c1] 22)
        have hS2 := blk_alloc hHeld.2 (.cells #[.slice A0 l0.length c0, .slice (some ⟨gb, 0, none⟩) 4 4, .slice A1 l1.length c1] 22)
        generalize World.alloc wd3 (.cells #[.slice A0 l0.length c0, .slice (some ⟨gb, 0, none⟩) 4 4, .slice A1 l1.length c1] 22) = wd3_8 at hC23 hbn hBc hS1 hS2 ⊢
        have hF := Kd.C_below hF hbn
        have hG := Kd.C_below hG hbn
        have hQa := Kd.C_below hQa hbn
        have hQb := Kd.C_below hQb hbn
        have hC18 := Kd.C_below hC18 hbn
        refine hK.out _ _ ⟨hS1, hS2⟩ (fun hHeld => ?_)
        clear hK K
        refine norm_ (a' := ?_) ?_ ?_
        rotate_left
        · show Act.put _ (some 23) _ = _
          simp only [Act.put, List.setIfInBounds_toArray, List.set_cons_zero, List.set_cons_succ, i64_w, i32_w]
          rfl
        refine one_ (i := 4) (N := some 19) #[true, true, true, true, true, true, true, true, true, false, false, true, true, true, false, false] rfl rfl (one_of HT_.out (by kernel_rfl)) (by decide) (fun K hK => ?_)
        refine goes_ Try.func18 (by kernel_rfl) rfl #[.slice (some ⟨w6.heap.size, 0, none⟩) [l0, [p0, p1, p2, p3], l1].length 3] (by rfl) rfl rfl (by (try simp only [List.map_toArray, List.map_cons, List.map_nil]); first | done | rfl) ?_
        with_reducible refine (crc_Of.calls k (some ⟨w6.heap.size, 0, none⟩) 3 [l0, [p0, p1, p2, p3], l1] s wd3_8 hC18 (Nat.le_refl _) ha).mono ?_
        rintro e wd3_8_4 ⟨rfl, hd⟩
        refine ⟨_, rfl, ?_⟩
        have hbn := drawn_below hd
        have hBc := hBc.trans (hbn.mono hBc.size)
        have hS1 := (hbn.block _ (blk_lt hHeld.1)).trans hHeld.1
        have hS2 := (hbn.block _ (blk_lt hHeld.2)).trans hHeld.2
        have hF := Kd.C_below hF hbn
        have hG := Kd.C_below hG hbn
        have hQa := Kd.C_below hQa hbn
        have hQb := Kd.C_below hQb hbn
        have hC18 := Kd.C_below hC18 hbn
        have hC23 := Kd.C_below hC23 hbn
        refine hK.out _ _ ⟨hS1, hS2⟩ (fun hHeld => ?_)
        clear hK K
        refine norm_ (a' := ?_) ?_ ?_
        rotate_left
        · show Act.put _ (some 19) _ = _
          simp only [Act.put, List.setIfInBounds_toArray, List.set_cons_zero, List.set_cons_succ, i64_w, i32_w]
          rfl
        exact norm_ (by first | (simp only [putAll, Act.put, List.setIfInBounds_toArray, List.set_cons_zero, List.set_cons_succ]; done) | (simp only [putAll, Act.put, List.setIfInBounds_toArray, List.set_cons_zero, List.set_cons_succ]; rfl)) (hCont (w6.heap.size, wd3.heap.size) _ ⟨hHeld, hC23, hBc⟩)
    · skip
      refine value_ (w1 := ?_) (v := ?_) (by rfl) rfl ?_ ?_
      rotate_left 2
      · go_simp
        constructor
        · rfl
        · rfl
      have hC23 := lit3 w6 A0 A1 c0 c1 l0 l1 [p4, p5, p6, p7] gb 4 hF hc0 hQb (Nat.le_refl _) hG hc1
      have hbn := below_alloc (Below.refl w6.heap.size w6) (.cells #[.slice A0 l0.length c0, .slice (some ⟨gb, 0, none⟩) 4 4, .slice A1 l1.length c1] 22)
      have hBc := below_alloc hBc (.cells #[.slice A0 l0.length c0, .slice (some ⟨gb, 0, none⟩) 4 4, .slice A1 l1.length c1] 22)
      have hS1 := blk_alloc hHeld.1 (.cells #[.slice A0 l0.length c0, .slice (some ⟨gb, 0, none⟩) 4 4, .slice A1 l1.length c1] 22)
      have hS2 := blk_alloc hHeld.2 (.cells #[.slice A0 l0.length c0, .slice (some ⟨gb, 0, none⟩) 4 4, .slice A1 l1.length c1] 22)
      generalize World.alloc w6 (.cells #[.slice A0 l0.length c0, .slice (some ⟨gb, 0, none⟩) 4 4, .slice A1 l1.length c1] 22) = wd8 at hC23 hbn hBc hS1 hS2 ⊢
      have hF := Kd.C_below hF hbn
      have hG := Kd.C_below hG hbn
      have hQa := Kd.C_below hQa hbn
      have hQb := Kd.C_below hQb hbn
      refine hK.out _ _ ⟨hS1, hS2⟩ (fun hHeld => ?_)
      clear hK K
      refine norm_ (a' := ?_) ?_ ?_
      rotate_left
      · show Act.put _ (some 23) _ = _
        simp only [Act.put, List.setIfInBounds_toArray, List.set_cons_zero, List.set_cons_succ, i64_w, i32_w]
        rfl
      refine one_ (i := 3) (N := some 18) #[true, true, true, true, false, true, true, true, true, false, false, true, true, true, false, false] rfl rfl (one_of HT_.out (by kernel_rfl)) (by decide) (fun K hK => ?_)
      refine value_ (w1 := ?_) (v := ?_) (by rfl) rfl ?_ ?_
      rotate_left 2
      · go_simp
        constructor
        · rfl
        · rfl
      have hC18 := lit3 wd8 A0 A1 c0 c1 l0 l1 [p0, p1, p2, p3] ga 4 hF hc0 hQa (Nat.le_refl _) hG hc1
      have hbn := below_alloc (Below.refl wd8.heap.size wd8) (.cells #[.slice A0 l0.length c0, .slice (some ⟨ga, 0, none⟩) 4 4, .slice A1 l1.length c1] 22)
      have hBc := below_alloc hBc (.cells #[.slice A0 l0.length c0, .slice (some ⟨ga, 0, none⟩) 4 4, .slice A1 l1.length c1] 22)
      have hS1 := blk_alloc hHeld.1 (.cells #[.slice A0 l0.length c0, .slice (some ⟨ga, 0, none⟩) 4 4, .slice A1 l1.length c1] 22)
      have hS2 := blk_alloc hHeld.2 (.cells #[.slice A0 l0.length c0, .slice (some ⟨ga, 0, none⟩) 4 4, .slice A1 l1.length c1] 22)
      generalize World.alloc wd8 (.cells #[.slice A0 l0.length c0, .slice (some ⟨ga, 0, none⟩) 4 4, .slice A1 l1.length c1] 22) = wd8_3 at hC18 hbn hBc hS1 hS2 ⊢
      have hF := Kd.C_below hF hbn
      have hG := Kd.C_below hG hbn
      have hQa := Kd.C_below hQa hbn
      have hQb := Kd.C_below hQb hbn
      have hC23 := Kd.C_below hC23 hbn
      refine hK.out _ _ ⟨hS1, hS2⟩ (fun hHeld => ?_)
      clear hK K
      refine norm_ (a' := ?_) ?_ ?_
      rotate_left
      · show Act.put _ (some 18) _ = _
        simp only [Act.put, List.setIfInBounds_toArray, List.set_cons_zero, List.set_cons_succ, i64_w, i32_w]
        rfl
      refine one_ (i := 4) (N := some 19) #[true, true, true, true, true, true, true, true, true, false, false, true, true, true, false, false] rfl rfl (one_of HT_.out (by kernel_rfl)) (by decide) (fun K hK => ?_)
      refine goes_ Try.func18 (by kernel_rfl) rfl #[.slice (some ⟨wd8.heap.size, 0, none⟩) [l0, [p0, p1, p2, p3], l1].length 3] (by rfl) rfl rfl (by (try simp only [List.map_toArray, List.map_cons, List.map_nil]); first | done | rfl) ?_
      with_reducible refine (crc_Of.calls k (some ⟨wd8.heap.size, 0, none⟩) 3 [l0, [p0, p1, p2, p3], l1] s wd8_3 hC18 (Nat.le_refl _) ha).mono ?_
      rintro e wd8_3_4 ⟨rfl, hd⟩
      refine ⟨_, rfl, ?_⟩
      have hbn := drawn_below hd
      have hBc := hBc.trans (hbn.mono hBc.size)
      have hS1 := (hbn.block _ (blk_lt hHeld.1)).trans hHeld.1
      have hS2 := (hbn.block _ (blk_lt hHeld.2)).trans hHeld.2
      have hF := Kd.C_below hF hbn
      have hG := Kd.C_below hG hbn
      have hQa := Kd.C_below hQa hbn
      have hQb := Kd.C_below hQb hbn
      have hC18 := Kd.C_below hC18 hbn
      have hC23 := Kd.C_below hC23 hbn
      refine hK.out _ _ ⟨hS1, hS2⟩ (fun hHeld => ?_)
      clear hK K
      refine norm_ (a' := ?_) ?_ ?_
      rotate_left
      · show Act.put _ (some 19) _ = _
        simp only [Act.put, List.setIfInBounds_toArray, List.set_cons_zero, List.set_cons_succ, i64_w, i32_w]
        rfl
      exact norm_ (by first | (simp only [putAll, Act.put, List.setIfInBounds_toArray, List.set_cons_zero, List.set_cons_succ]; done) | (simp only [putAll, Act.put, List.setIfInBounds_toArray, List.set_cons_zero, List.set_cons_succ]; rfl)) (hCont (wd8.heap.size, w6.heap.size) _ ⟨hHeld, hC23, hBc⟩)
  rintro ⟨g18, g23⟩ w9 ⟨hHeld, hC23, hB9⟩
  simp only at hC23
  refine norm_ (a' := ?_) ?_ ?_
  rotate_left
  · simp only [putAll, Act.put, List.setIfInBounds_toArray, List.set_cons_zero, List.set_cons_succ]
    rfl
  refine one_ (i := 9) (N := some 24) #[true, true, true, true, true, true, true, true, true, true, false, true, true, true, false, false] rfl rfl (one_of HT_.out (by kernel_rfl)) (by decide) (fun K hK => ?_)
  refine goes_ Try.func18 (by kernel_rfl) rfl #[.slice (some ⟨g23, 0, none⟩) [l0, [p4, p5, p6, p7], l1].length 3] (by rfl) rfl rfl (by (try simp only [List.map_toArray, List.map_cons, List.map_nil]); first | done | rfl) ?_
  with_reducible refine (crc_Of.calls k (some ⟨g23, 0, none⟩) 3 [l0, [p4, p5, p6, p7], l1] t w9 hC23 (Nat.le_refl _) hb').mono ?_
  rintro e w10 ⟨rfl, hd⟩
  refine ⟨_, rfl, ?_⟩
  have hbn := drawn_below hd
  have hB10 := hB9.trans (hbn.mono hB9.size)
  have hS1 := (hbn.block _ (blk_lt hHeld.1)).trans hHeld.1
  have hS2 := (hbn.block _ (blk_lt hHeld.2)).trans hHeld.2
  refine hK.out _ _ ⟨hS1, hS2⟩ (fun hHeld => ?_)
  clear hK K
  refine norm_ (a' := ?_) ?_ ?_
  rotate_left
  · show Act.put _ (some 24) _ = _
    simp only [Act.put, List.setIfInBounds_toArray, List.set_cons_zero, List.set_cons_succ, i64_w, i32_w]
    rfl
  refine pure_ (i := 10) (N := some 25) (v := ?_) (a' := ?_) #[true, true, true, true, true, true, true, true, true, true, true, true, true, true, false, false] rfl rfl (any_of HT_.out (by kernel_rfl)) (fun _ _ _ h => h) (Or.inl ⟨by rfl, ?_⟩) ?_ ?_
  rotate_left
  · intro w'
    go_simp
    with_reducible rfl
  rotate_left
  · simp only [Act.put, List.setIfInBounds_toArray, List.set_cons_zero, List.set_cons_succ, i64_w, i32_w]
    rfl
  refine pure_ (i := 14) (N := some 29) (v := ?_) (a' := ?_) #[true, true, true, true, true, true, true, true, true, true, true, true, true, true, true, false] rfl rfl (any_of HT_.out (by kernel_rfl)) (fun _ _ _ h => h) (Or.inl ⟨by rfl, ?_⟩) ?_ ?_
  rotate_left
  · intro w'
    go_simp
    with_reducible rfl
  rotate_left
  · simp only [Act.put, List.setIfInBounds_toArray, List.set_cons_zero, List.set_cons_succ, i64_w, i32_w]
    rfl
  refine pure_ (i := 15) (N := some 6) (v := ?_) (a' := ?_) #[true, true, true, true, true, true, true, true, true, true, true, true, true, true, true, true] rfl rfl (any_of HT_.out (by kernel_rfl)) (fun _ _ _ h => h) (Or.inl ⟨by rfl, ?_⟩) ?_ ?_
  rotate_left
  · intro w'
    go_simp
    with_reducible rfl
  rotate_left
  · simp only [Act.put, List.setIfInBounds_toArray, List.set_cons_zero, List.set_cons_succ, i64_w, i32_w]
    rfl
  refine done_ (done_of HT_.out (by kernel_rfl)) ?_
  
  go_wp2
  go_ret
  exact ⟨by first | rfl | (rw [hv]; done) | exact congrArg (fun b => Ending.returned (Value.bool b)) hv, hB10⟩
end Go.Proofs.Ytjcpamclggbbdaa.PCrc
