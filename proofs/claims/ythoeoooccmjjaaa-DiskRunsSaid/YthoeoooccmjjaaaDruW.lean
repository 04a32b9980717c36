/- Printed by a program of ours (wip/tool/ppd.py, over the kit's printer, and wip/tool/dskfix.py): the walks of functions that use a disk. -/
import Derived.Test.YthoeoooccmjjaaaDruF
namespace Go.Proofs.Ythoeoooccmjjaaa.PDru
open Go.RowKit Go.Proofs.Ythoeoooccmjjaaa.PDsk Go.Proofs.YthoeoooccmjjaaaW.PrintWords Go.Proofs.YthoeoooccmjjaaaW.PrintLast Go.Proofs.YthoeoooccmjjaaaW.PrintMore
attribute [local go_sem] max2_int min2_int max_two min_two max_three min_three max_four min_four   -- for this text's walks alone
set_option linter.unusedVariables false
set_option linter.unusedSimpArgs false

def ropewaylaw08_DiskRuns.T36 : Bool × List (List Nat × List Nat) := (true, [([], []), ([], []), ([0, 1], [0, 1]), ([2], [2]), ([3], [3]), ([4, 3, 3], [3, 4]), ([5, 3], [3, 5]), ([3], [3]), ([7, 3], [3, 7]), ([8, 3], [3, 8]), ([6, 9, 3], [3, 6, 9]), ([3, 10], [3, 10]), ([11, 5], [11]), ([12], [12]), ([13, 12, 12], [12, 13]), ([12], [12]), ([15, 12], [12, 15]), ([14, 16, 12], [12, 14, 16]), ([12, 17], [12, 17]), ([18, 14], [18]), ([19], [19]), ([20, 19, 19], [19, 20]), ([19], [19]), ([22, 19], [19, 22]), ([21, 23, 19], [19, 21, 23]), ([19, 24], [19, 24])])
def ropewaylaw08_DiskRuns.B36 : List Nat := [0, 0, 3, 7, 15, 31, 63, 15, 143, 399, 1023, 2047, 4095, 8191, 16383, 8191, 40959, 131071, 262143, 524287, 1048575, 2097151, 1048575, 5242879, 16777215, 33554431]
theorem ropewaylaw08_DiskRuns.tab36 : rtab .any (opsOf Try.f8 36) = ropewaylaw08_DiskRuns.T36 := by kernel_rfl
theorem ropewaylaw08_DiskRuns.bits36 : waitsOk ropewaylaw08_DiskRuns.T36.2 ropewaylaw08_DiskRuns.B36 = true := by kernel_rfl
set_option maxHeartbeats 8000000 in
set_option maxRecDepth 100000 in
theorem ropewaylaw08_DiskRuns.calls (k : Nat) (a0 : Int) (A1 : Option Addr) (c1 : Nat) (l1 : List (S34)) (r : Bool) (w : World) (hr1 : Kd.C k34 w A1 l1.length l1) (hc1 : l1.length ≤ c1) (h : ropewaylaw08_DiskRuns.f k a0 l1 = some r) :
    Calls Try.prog 8 #[.int .i64 a0, .slice A1 l1.length c1] w fun e w' => e = .returned (.bool r) ∧ Below w.heap.size w w' := by
  have hu41 := Try.underlying41
  have hu34 := Try.underlying34
  have HR1 := Aside0.mk hr1
  have HC1 := Aside0.mk hc1
  clear hr1 hc1
  have HB := Aside0.mk (Below.refl w.heap.size w)
  have H : ((ropewaylaw08_diskAlive.f).bind fun t203 => (if t203 = true then ((disk_New.f a0).bind fun bt204 => ((ropewayref08_New.f a0).bind fun bt210 => (if (l1.length : Int) > 200 then (some true) else (ropewaylaw08_DiskRuns.l0 k l1 (l1.length : Int) 0 bt204.1 bt204.2.1 bt204.2.2.1 bt204.2.2.2.1 bt204.2.2.2.2 bt210.1 bt210.2.1 bt210.2.2.1 bt210.2.2.2.1 bt210.2.2.2.2)))) else (some false))) = some r := h
  clear h
  replace H := Option.bind_eq_some_iff.mp H
  obtain ⟨t203, A30, H⟩ := H
  replace H : (if t203 = true then ((disk_New.f a0).bind fun bt204 => ((ropewayref08_New.f a0).bind fun bt210 => (if (l1.length : Int) > 200 then (some true) else (ropewaylaw08_DiskRuns.l0 k l1 (l1.length : Int) 0 bt204.1 bt204.2.1 bt204.2.2.1 bt204.2.2.2.1 bt204.2.2.2.2 bt210.1 bt210.2.1 bt210.2.2.1 bt210.2.2.2.1 bt210.2.2.2.2)))) else (some false)) = some r := H
  have A3 := Aside0.mk A30
  clear A30
  by_cases c4 : t203 = true
  · subst c4
    have H1 : ((disk_New.f a0).bind fun bt204 => ((ropewayref08_New.f a0).bind fun bt210 => (if (l1.length : Int) > 200 then (some true) else (ropewaylaw08_DiskRuns.l0 k l1 (l1.length : Int) 0 bt204.1 bt204.2.1 bt204.2.2.1 bt204.2.2.2.1 bt204.2.2.2.2 bt210.1 bt210.2.1 bt210.2.2.1 bt210.2.2.2.1 bt210.2.2.2.2)))) = some r := by rw [if_pos rfl] at H; exact H
    clear H
    have H := H1
    clear H1
    replace H := Option.bind_eq_some_iff.mp H
    obtain ⟨⟨t204, t205, t206, t207, t208⟩, A50, H⟩ := H
    replace H : ((ropewayref08_New.f a0).bind fun bt210 => (if (l1.length : Int) > 200 then (some true) else (ropewaylaw08_DiskRuns.l0 k l1 (l1.length : Int) 0 t204 t205 t206 t207 t208 bt210.1 bt210.2.1 bt210.2.2.1 bt210.2.2.2.1 bt210.2.2.2.2))) = some r := H
    have A5 := Aside0.mk A50
    clear A50
    replace H := Option.bind_eq_some_iff.mp H
    obtain ⟨⟨t210, t213, t214, t215, t216⟩, A60, H⟩ := H
    replace H : (if (l1.length : Int) > 200 then (some true) else (ropewaylaw08_DiskRuns.l0 k l1 (l1.length : Int) 0 t204 t205 t206 t207 t208 t210 t213 t214 t215 t216)) = some r := H
    have A6 := Aside0.mk A60
    clear A60
    by_cases c7 : (l1.length : Int) > 200
    · rw [if_pos c7] at H
      have c7b0 : decide (200 < (l1.length : Int)) = true := decide_eq_true c7
      have c7b1 : decide (200 < l1.length) = true := decide_eq_true (by omega)
      clear c7
      obtain rfl := Option.some.inj H
      go_enter Try.func8, Try.ntmps8
      go_wp2_with (first | ((with_reducible refine gate_callee (f := 9) rfl ?_); refine goesL_ (some 13) rfl rfl Try.func9 (by kernel_rfl) rfl #[] rfl (by (try simp only [List.map_toArray, List.map_cons, List.map_nil]); first | done | rfl | (simp only [List.length_drop, List.length_take]; rfl)) ?_; (with_reducible refine (ropewaylaw08_diskAlive.calls  true _ A3.out).mono ?_); rintro e w8 ⟨rfl, hb⟩; refine ⟨_, rfl, ?_⟩; have n0_ := Aside0.mk (below_step (by repeat (first | (with_reducible first | exact HB.out | apply below_alloc | apply pw_below_drewN | apply below_drew1) | exact HB.out)) hb); clear HB; have HB := n0_; clear n0_; (try clear hb); (try clear hb2); (try clear hk); (try clear hi)) | ((with_reducible refine gate_callee (f := 10) rfl ?_); refine goesL_ (some 16) rfl rfl Try.func10 (by kernel_rfl) rfl #[.int .i64 a0] rfl (by (try simp only [List.map_toArray, List.map_cons, List.map_nil]); first | done | rfl | (simp only [List.length_drop, List.length_take]; rfl)) ?_; (with_reducible refine (disk_New.calls a0 t204 t205 t206 t207 t208 w _ ?side1 A5.out).mono ?_); (case side1 => repeat (first | (with_reducible first | exact HB.out | apply below_alloc | apply pw_below_drewN | apply below_drew1) | exact HB.out)); rintro e w9 ⟨g209, rfl, hi, hb, hb2⟩; refine ⟨_, rfl, ?_⟩; have n0_ := Aside0.mk (hb); have n1_ := Aside0.mk (hi); clear HB; have HB := n0_; have HI209 := n1_; clear n0_ n1_; (try clear hb); (try clear hb2); (try clear hk); (try clear hi)) | ((with_reducible refine gate_callee (f := 19) rfl ?_); refine goesL_ (some 18) rfl rfl Try.func19 (by kernel_rfl) rfl #[.int .i64 a0] rfl (by (try simp only [List.map_toArray, List.map_cons, List.map_nil]); first | done | rfl | (simp only [List.length_drop, List.length_take]; rfl)) ?_; (with_reducible refine (ropewayref08_New.calls a0 t210 t213 t214 t215 t216 _ A6.out).mono ?_); rintro e w10 ⟨v211, rfl, ho0, hb⟩; refine ⟨_, rfl, ?_⟩; have n0_ := Aside0.mk (Kd.R_lower ho0 (below_size (by repeat (first | (with_reducible first | exact HB.out | apply below_alloc | apply pw_below_drewN | apply below_drew1 | refine below_set ?_ (IsU.ge HI209.out)) | exact HB.out)))); have n1_ := Aside0.mk (IsU.next0 (by repeat (first | (with_reducible first | exact HI209.out | apply IsU.alloc | apply IsU.drewN | apply IsU.drew) | exact HI209.out)) hb ho0); have n2_ := Aside0.mk (below_step (by repeat (first | (with_reducible first | exact HB.out | apply below_alloc | apply pw_below_drewN | apply below_drew1 | refine below_set ?_ (IsU.ge HI209.out)) | exact HB.out)) hb); clear HI209; clear HB; have HO212 := n0_; have HI209 := n1_; have HB := n2_; clear n0_ n1_ n2_; (try clear hb); (try clear hb2); (try clear hk); (try clear hi); (try clear ho0)) | ((with_reducible refine gate_dst (N := 6) rfl ?_); (try (refine gate_guard (by rfl) ?_; dsimp only)); refine box_event ?hg (N := 6) ?hd (cs := #[.slice none 0 0, .int .i64 0, .int .i64 0, .int .i64 0, .bool false]) (t := 41) ?hr ?_; (case hd => rfl); (case hg => rfl); (case hr => first | (go_simp; done) | (go_simp; rfl)); intro gb217 hg w11 hbox hb; have n0_ := Aside0.mk (Kd.R_below (by (with_reducible repeat (first | apply Kd.R_alloc | apply Kd.R_drewN | apply Kd.R_drew)); exact HO212.out) hb); have n1_ := Aside0.mk (IsU.below (by repeat (first | (with_reducible first | exact HI209.out | apply IsU.alloc | apply IsU.drewN | apply IsU.drew) | exact HI209.out)) hb); have n2_ := Aside0.mk (below_step (by repeat (first | (with_reducible first | exact HB.out | apply below_alloc | apply pw_below_drewN | apply below_drew1 | refine below_set ?_ (IsU.ge HI209.out)) | exact HB.out)) hb); have n3_ := Aside0.mk (hbox); have n4_ := Aside0.mk ((by rw [hg]; exact (below_size (by repeat (first | (with_reducible first | exact HB.out | apply below_alloc | apply pw_below_drewN | apply below_drew1 | refine below_set ?_ (IsU.ge HI209.out)) | exact HB.out))) : w.heap.size ≤ gb217)); have n5_ := Aside0.mk ((by rw [hg]; exact (below_size (by repeat (first | (with_reducible first | exact HB.out | apply below_alloc | apply pw_below_drewN | apply below_drew1 | refine below_set ?_ (IsU.ge HI209.out)) | exact HB.out))) : w.heap.size ≤ gb217)); have n6_ := Aside0.mk ((by rw [hg]; exact Nat.ne_of_lt (IsU.lt (show IsU _ w _ g209 t204 t205 t206 t207 t208 from by repeat (first | (with_reducible first | exact HI209.out | apply IsU.alloc | apply IsU.drewN | apply IsU.drew) | exact HI209.out))) : g209 ≠ gb217)); have n7_ := Aside0.mk ((by rw [hg]; exact Nat.ne_of_gt (IsU.lt (show IsU _ w _ g209 t204 t205 t206 t207 t208 from by repeat (first | (with_reducible first | exact HI209.out | apply IsU.alloc | apply IsU.drewN | apply IsU.drew) | exact HI209.out))) : gb217 ≠ g209)); clear HO212; clear HI209; clear HB; have HO212 := n0_; have HI209 := n1_; have HB := n2_; have BK217 := n3_; have GW217 := n4_; have GE217 := n5_; have NB209_217 := n6_; have NB217_209 := n7_; clear n0_ n1_ n2_ n3_ n4_ n5_ n6_ n7_; clear hb hbox hg; obtain ⟨Ao12, co12, eo12⟩ := Kd.R_slice HO212.out; subst eo12; have hnb13 := NB217_209.out; have hnc13 := NB209_217.out; have hcz14_0 : w11.cell? ⟨gb217, 0, none⟩ = some (.slice none 0 0) := (blk_cell BK217.out 0).trans rfl; have hcz14_1 : w11.cell? ⟨gb217, 1, none⟩ = some (.int .i64 0) := (blk_cell BK217.out 1).trans rfl; have hcz14_2 : w11.cell? ⟨gb217, 2, none⟩ = some (.int .i64 0) := (blk_cell BK217.out 2).trans rfl; have hcz14_3 : w11.cell? ⟨gb217, 3, none⟩ = some (.int .i64 0) := (blk_cell BK217.out 3).trans rfl; have hcz14_4 : w11.cell? ⟨gb217, 4, none⟩ = some (.bool false) := (blk_cell BK217.out 4).trans rfl; have hfz14_0 := blk_frozen BK217.out 0; have hfz14_1 := blk_frozen BK217.out 1; have hfz14_2 := blk_frozen BK217.out 2; have hfz14_3 := blk_frozen BK217.out 3; have hfz14_4 := blk_frozen BK217.out 4))
      go_ret
      exact ⟨by first | rfl | (simp [errW_none, errW_some] <;> rfl) | (simp [*, errW_none, errW_some] <;> rfl), by repeat (first | (with_reducible first | exact HB.out | apply below_alloc | apply pw_below_drewN | apply below_drew1 | refine below_set ?_ (IsU.ge HI209.out) | refine below_set ?_ GE217.out) | exact HB.out)⟩
    · rw [if_neg c7] at H
      have c7b0 : decide (200 < (l1.length : Int)) = false := decide_eq_false c7
      have c7b1 : decide (200 < l1.length) = false := decide_eq_false (by omega)
      clear c7
      have H' := Aside0.mk H
      clear H
      go_enter Try.func8, Try.ntmps8
      go_wp2_with (first | ((with_reducible refine gate_callee (f := 9) rfl ?_); refine goesL_ (some 13) rfl rfl Try.func9 (by kernel_rfl) rfl #[] rfl (by (try simp only [List.map_toArray, List.map_cons, List.map_nil]); first | done | rfl | (simp only [List.length_drop, List.length_take]; rfl)) ?_; (with_reducible refine (ropewaylaw08_diskAlive.calls  true _ A3.out).mono ?_); rintro e w15 ⟨rfl, hb⟩; refine ⟨_, rfl, ?_⟩; have n0_ := Aside0.mk (below_step (by repeat (first | (with_reducible first | exact HB.out | apply below_alloc | apply pw_below_drewN | apply below_drew1) | exact HB.out)) hb); clear HB; have HB := n0_; clear n0_; (try clear hb); (try clear hb2); (try clear hk); (try clear hi)) | ((with_reducible refine gate_callee (f := 10) rfl ?_); refine goesL_ (some 16) rfl rfl Try.func10 (by kernel_rfl) rfl #[.int .i64 a0] rfl (by (try simp only [List.map_toArray, List.map_cons, List.map_nil]); first | done | rfl | (simp only [List.length_drop, List.length_take]; rfl)) ?_; (with_reducible refine (disk_New.calls a0 t204 t205 t206 t207 t208 w _ ?side1 A5.out).mono ?_); (case side1 => repeat (first | (with_reducible first | exact HB.out | apply below_alloc | apply pw_below_drewN | apply below_drew1) | exact HB.out)); rintro e w16 ⟨g209, rfl, hi, hb, hb2⟩; refine ⟨_, rfl, ?_⟩; have n0_ := Aside0.mk (hb); have n1_ := Aside0.mk (hi); clear HB; have HB := n0_; have HI209 := n1_; clear n0_ n1_; (try clear hb); (try clear hb2); (try clear hk); (try clear hi)) | ((with_reducible refine gate_callee (f := 19) rfl ?_); refine goesL_ (some 18) rfl rfl Try.func19 (by kernel_rfl) rfl #[.int .i64 a0] rfl (by (try simp only [List.map_toArray, List.map_cons, List.map_nil]); first | done | rfl | (simp only [List.length_drop, List.length_take]; rfl)) ?_; (with_reducible refine (ropewayref08_New.calls a0 t210 t213 t214 t215 t216 _ A6.out).mono ?_); rintro e w17 ⟨v211, rfl, ho0, hb⟩; refine ⟨_, rfl, ?_⟩; have n0_ := Aside0.mk (Kd.R_lower ho0 (below_size (by repeat (first | (with_reducible first | exact HB.out | apply below_alloc | apply pw_below_drewN | apply below_drew1 | refine below_set ?_ (IsU.ge HI209.out)) | exact HB.out)))); have n1_ := Aside0.mk (IsU.next0 (by repeat (first | (with_reducible first | exact HI209.out | apply IsU.alloc | apply IsU.drewN | apply IsU.drew) | exact HI209.out)) hb ho0); have n2_ := Aside0.mk (below_step (by repeat (first | (with_reducible first | exact HB.out | apply below_alloc | apply pw_below_drewN | apply below_drew1 | refine below_set ?_ (IsU.ge HI209.out)) | exact HB.out)) hb); clear HI209; clear HB; have HO212 := n0_; have HI209 := n1_; have HB := n2_; clear n0_ n1_ n2_; (try clear hb); (try clear hb2); (try clear hk); (try clear hi); (try clear ho0)) | ((with_reducible refine gate_dst (N := 6) rfl ?_); (try (refine gate_guard (by rfl) ?_; dsimp only)); refine box_event ?hg (N := 6) ?hd (cs := #[.slice none 0 0, .int .i64 0, .int .i64 0, .int .i64 0, .bool false]) (t := 41) ?hr ?_; (case hd => rfl); (case hg => rfl); (case hr => first | (go_simp; done) | (go_simp; rfl)); intro gb217 hg w18 hbox hb; have n0_ := Aside0.mk (Kd.R_below (by (with_reducible repeat (first | apply Kd.R_alloc | apply Kd.R_drewN | apply Kd.R_drew)); exact HO212.out) hb); have n1_ := Aside0.mk (IsU.below (by repeat (first | (with_reducible first | exact HI209.out | apply IsU.alloc | apply IsU.drewN | apply IsU.drew) | exact HI209.out)) hb); have n2_ := Aside0.mk (below_step (by repeat (first | (with_reducible first | exact HB.out | apply below_alloc | apply pw_below_drewN | apply below_drew1 | refine below_set ?_ (IsU.ge HI209.out)) | exact HB.out)) hb); have n3_ := Aside0.mk (hbox); have n4_ := Aside0.mk ((by rw [hg]; exact (below_size (by repeat (first | (with_reducible first | exact HB.out | apply below_alloc | apply pw_below_drewN | apply below_drew1 | refine below_set ?_ (IsU.ge HI209.out)) | exact HB.out))) : w.heap.size ≤ gb217)); have n5_ := Aside0.mk ((by rw [hg]; exact (below_size (by repeat (first | (with_reducible first | exact HB.out | apply below_alloc | apply pw_below_drewN | apply below_drew1 | refine below_set ?_ (IsU.ge HI209.out)) | exact HB.out))) : w.heap.size ≤ gb217)); have n6_ := Aside0.mk ((by rw [hg]; exact Nat.ne_of_lt (IsU.lt (show IsU _ w _ g209 t204 t205 t206 t207 t208 from by repeat (first | (with_reducible first | exact HI209.out | apply IsU.alloc | apply IsU.drewN | apply IsU.drew) | exact HI209.out))) : g209 ≠ gb217)); have n7_ := Aside0.mk ((by rw [hg]; exact Nat.ne_of_gt (IsU.lt (show IsU _ w _ g209 t204 t205 t206 t207 t208 from by repeat (first | (with_reducible first | exact HI209.out | apply IsU.alloc | apply IsU.drewN | apply IsU.drew) | exact HI209.out))) : gb217 ≠ g209)); clear HO212; clear HI209; clear HB; have HO212 := n0_; have HI209 := n1_; have HB := n2_; have BK217 := n3_; have GW217 := n4_; have GE217 := n5_; have NB209_217 := n6_; have NB217_209 := n7_; clear n0_ n1_ n2_ n3_ n4_ n5_ n6_ n7_; clear hb hbox hg; obtain ⟨Ao19, co19, eo19⟩ := Kd.R_slice HO212.out; subst eo19; have hnb20 := NB217_209.out; have hnc20 := NB209_217.out; have hcz21_0 : w18.cell? ⟨gb217, 0, none⟩ = some (.slice none 0 0) := (blk_cell BK217.out 0).trans rfl; have hcz21_1 : w18.cell? ⟨gb217, 1, none⟩ = some (.int .i64 0) := (blk_cell BK217.out 1).trans rfl; have hcz21_2 : w18.cell? ⟨gb217, 2, none⟩ = some (.int .i64 0) := (blk_cell BK217.out 2).trans rfl; have hcz21_3 : w18.cell? ⟨gb217, 3, none⟩ = some (.int .i64 0) := (blk_cell BK217.out 3).trans rfl; have hcz21_4 : w18.cell? ⟨gb217, 4, none⟩ = some (.bool false) := (blk_cell BK217.out 4).trans rfl; have hfz21_0 := blk_frozen BK217.out 0; have hfz21_1 := blk_frozen BK217.out 1; have hfz21_2 := blk_frozen BK217.out 2; have hfz21_3 := blk_frozen BK217.out 3; have hfz21_4 := blk_frozen BK217.out 4))
      go_loopg [30] k (fun kq v30 w' => ∃ (x30_1 : Int) (x210000_1 : ByteArray) (x210001_1 : Int) (x210002_1 : Int) (x210003_1 : Int) (x210004_1 : Bool) (x218000_1 : List Int) (x218001_1 : Int) (x218002_1 : Int) (x218003_1 : Int) (x218004_1 : Bool) (u218000 : Value), v30 = .int .i64 x30_1 ∧ Aside0 (ropewaylaw08_DiskRuns.l0 kq l1 (l1.length : Int) x30_1 x210000_1 x210001_1 x210002_1 x210003_1 x210004_1 x218000_1 x218001_1 x218002_1 x218003_1 x218004_1 = some r) ∧ Aside0 (kq ≤ k) ∧ Aside0 (Kd.R (Kd.int .u8) 5 w' w.heap.size (fun _ => True) u218000 x218000_1) ∧ Aside0 (w'.heap[gb217]? = some (.cells #[u218000, .int .i64 x218001_1, .int .i64 x218002_1, .int .i64 x218003_1, .bool x218004_1] 41 (0, 0))) ∧ Aside0 (IsU (PS [u218000]) w w' g209 x210000_1 x210001_1 x210002_1 x210003_1 x210004_1) ∧ Aside0 (Below w.heap.size w w'))
      case atStart => exact ⟨(0), (t204), (t205), (t206), (t207), (t208), (t210), (t213), (t214), (t215), (t216), (.slice Ao19 t210.length co19), (by first | rfl | (simp; done) | (simp [*]; done)), H', ⟨Nat.le_refl _⟩, ⟨by (with_reducible repeat (first | apply Kd.R_alloc | apply Kd.R_drewN | apply Kd.R_drew)); exact Kd.R_mono (Kd.R_far (p := ⟨gb217, 4, none⟩) (Kd.R_far (p := ⟨gb217, 3, none⟩) (Kd.R_far (p := ⟨gb217, 2, none⟩) (Kd.R_far (p := ⟨gb217, 1, none⟩) (Kd.R_far (p := ⟨gb217, 0, none⟩) (Kd.R_types HO212.out BK217.out (by decide)) (fun _ hk => hk.2) (.slice Ao19 t210.length co19)) (fun _ hk => hk.2) (.int .i64 t213)) (fun _ hk => hk.2) (.int .i64 t214)) (fun _ hk => hk.2) (.int .i64 t215)) (fun _ hk => hk.2) (.bool t216)) (fun _ hk => trivial)⟩, ⟨by (with_reducible repeat (first | refine blk_drewN ?_ _ | refine blk_drew ?_ | refine blk_alloc ?_ _)); refine blk_put (cs := #[.slice Ao19 t210.length co19, .int .i64 t213, .int .i64 t214, .int .i64 t215, .bool false]) ?_ 4 _ rfl; (with_reducible repeat (first | refine blk_drewN ?_ _ | refine blk_drew ?_ | refine blk_alloc ?_ _)); refine blk_put (cs := #[.slice Ao19 t210.length co19, .int .i64 t213, .int .i64 t214, .int .i64 0, .bool false]) ?_ 3 _ rfl; (with_reducible repeat (first | refine blk_drewN ?_ _ | refine blk_drew ?_ | refine blk_alloc ?_ _)); refine blk_put (cs := #[.slice Ao19 t210.length co19, .int .i64 t213, .int .i64 0, .int .i64 0, .bool false]) ?_ 2 _ rfl; (with_reducible repeat (first | refine blk_drewN ?_ _ | refine blk_drew ?_ | refine blk_alloc ?_ _)); refine blk_put (cs := #[.slice Ao19 t210.length co19, .int .i64 0, .int .i64 0, .int .i64 0, .bool false]) ?_ 1 _ rfl; (with_reducible repeat (first | refine blk_drewN ?_ _ | refine blk_drew ?_ | refine blk_alloc ?_ _)); refine blk_put (cs := #[.slice none 0 0, .int .i64 0, .int .i64 0, .int .i64 0, .bool false]) ?_ 0 _ rfl; (with_reducible repeat (first | refine blk_drewN ?_ _ | refine blk_drew ?_ | refine blk_alloc ?_ _)); exact BK217.out⟩, ⟨by repeat (first | (with_reducible first | exact HI209.out | apply IsU.alloc | apply IsU.drewN | apply IsU.drew | exact IsU.far5 HI209.out ⟨_, BK217.out⟩ NB209_217.out) | exact HI209.out)⟩, ⟨by repeat (first | (with_reducible first | exact HB.out | apply below_alloc | apply pw_below_drewN | apply below_drew1 | refine below_set ?_ (IsU.ge HI209.out) | refine below_set ?_ GE217.out) | exact HB.out)⟩⟩
      case round =>
        clear H'
        try clear c1
        try clear c2
        try clear p2
        try clear c4
        try clear c7
        try clear c7b0
        try clear c7b1
        try clear c8
        try clear c9
        try clear c10
        try clear c13
        try clear c19
        try clear c20
        try clear hcz14_0
        try clear hcz14_1
        try clear hcz14_2
        try clear hcz14_3
        try clear hcz14_4
        try clear hcz21_0
        try clear hcz21_1
        try clear hcz21_2
        try clear hcz21_3
        try clear hcz21_4
        try clear hfz14_0
        try clear hfz14_1
        try clear hfz14_2
        try clear hfz14_3
        try clear hfz14_4
        try clear hfz21_0
        try clear hfz21_1
        try clear hfz21_2
        try clear hfz21_3
        try clear hfz21_4
        obtain ⟨x30_1, x210000_1, x210001_1, x210002_1, x210003_1, x210004_1, x218000_1, x218001_1, x218002_1, x218003_1, x218004_1, u218000, rfl, HA, HK1, HO_218000, BK217, HI209, HB⟩ := hrel
        cases gk with
        | zero => exact absurd HA.out (by simp [ropewaylaw08_DiskRuns.l0])
        | succ k1 =>
          have H := HA.out
          clear HA
          simp only [ropewaylaw08_DiskRuns.l0] at H
          by_cases c22 : x30_1 < (l1.length : Int)
          · rw [if_pos c22] at H
            have c22b0 : decide (x30_1 < (l1.length : Int)) = true := decide_eq_true c22
            clear c22
            by_cases c23 : 0 ≤ x30_1
            · rw [if_pos c23] at H
              have c23b0 : decide (0 ≤ x30_1) = true := decide_eq_true c23
              clear c23
              by_cases c24 : x30_1 < (l1.length : Int)
              · rw [if_pos c24] at H
                have c24b0 : decide (x30_1 < (l1.length : Int)) = true := decide_eq_true c24
                clear c24
                have HC25 := Aside0.mk H
                clear H
                have p218 : 0 ≤ (x30_1 : Int) := of_decide_eq_true (by first | (with_reducible assumption) | assumption)
                have q218 : x30_1 < (l1.length : Int) := of_decide_eq_true (by first | (with_reducible assumption) | assumption)
                obtain ⟨ad218, A218_2, c218_2, e218, hx218_0, hx218_1, hx218_2, hl218_2, hi218_2⟩ := at_T34 HR1.out x30_1 p218 q218
                cases e218
                replace hx218_0 := (HB.out.cell (World.block_lt_of_cell? w _ hx218_0)).trans hx218_0
                replace hx218_1 := (HB.out.cell (World.block_lt_of_cell? w _ hx218_1)).trans hx218_1
                replace hx218_2 := (HB.out.cell (World.block_lt_of_cell? w _ hx218_2)).trans hx218_2
                have HR218_2 := Aside0.mk hi218_2
                have HC218_2 := Aside0.mk hl218_2
                clear hi218_2 hl218_2
                replace p218 := eq_true p218
                replace q218 := eq_true q218
                go_upto_block 2 with (first | ((with_reducible refine gate_dst (N := 8) rfl ?_); (try (refine gate_guard (by rfl) ?_; dsimp only)); refine box_event ?hg (N := 8) ?hd (cs := #[.int .i64 0, .int .i64 0, .slice none 0 0]) (t := 34) ?hr ?_; (case hd => rfl); (case hg => rfl); (case hr => first | (go_simp; done) | (go_simp; rfl)); intro gb219 hg w26 hbox hb; have n0_ := Aside0.mk (Kd.R_below (by (with_reducible repeat (first | apply Kd.R_alloc | apply Kd.R_drewN | apply Kd.R_drew)); exact HO_218000.out) hb); have n1_ := Aside0.mk (blk_below (g := gb217) (o := .cells #[u218000, .int .i64 x218001_1, .int .i64 x218002_1, .int .i64 x218003_1, .bool x218004_1] 41 (0, 0)) (by (with_reducible repeat (first | refine blk_drewN ?_ _ | refine blk_drew ?_ | refine blk_alloc ?_ _)); exact BK217.out) hb); have n2_ := Aside0.mk (IsU.below (by repeat (first | (with_reducible first | exact HI209.out | apply IsU.alloc | apply IsU.drewN | apply IsU.drew | exact IsU.far5 HI209.out ⟨_, BK217.out⟩ NB209_217.out) | exact HI209.out)) hb); have n3_ := Aside0.mk (below_step (by repeat (first | (with_reducible first | exact HB.out | apply below_alloc | apply pw_below_drewN | apply below_drew1 | refine below_set ?_ (IsU.ge HI209.out) | refine below_set ?_ GE217.out) | exact HB.out)) hb); have n4_ := Aside0.mk (hbox); have n5_ := Aside0.mk ((by rw [hg]; exact (below_size (by repeat (first | (with_reducible first | exact HB.out | apply below_alloc | apply pw_below_drewN | apply below_drew1 | refine below_set ?_ (IsU.ge HI209.out) | refine below_set ?_ GE217.out) | exact HB.out))) : w.heap.size ≤ gb219)); have n6_ := Aside0.mk ((by rw [hg]; exact (below_size (by repeat (first | (with_reducible first | exact HB.out | apply below_alloc | apply pw_below_drewN | apply below_drew1 | refine below_set ?_ (IsU.ge HI209.out) | refine below_set ?_ GE217.out) | exact HB.out))) : w.heap.size ≤ gb219)); have n7_ := Aside0.mk ((by rw [hg]; exact Nat.ne_of_lt (blk_lt (g := gb217) (o := .cells #[u218000, .int .i64 x218001_1, .int .i64 x218002_1, .int .i64 x218003_1, .bool x218004_1] 41 (0, 0)) (by (with_reducible repeat (first | refine blk_drewN ?_ _ | refine blk_drew ?_ | refine blk_alloc ?_ _)); exact BK217.out)) : gb217 ≠ gb219)); have n8_ := Aside0.mk ((by rw [hg]; exact Nat.ne_of_gt (blk_lt (g := gb217) (o := .cells #[u218000, .int .i64 x218001_1, .int .i64 x218002_1, .int .i64 x218003_1, .bool x218004_1] 41 (0, 0)) (by (with_reducible repeat (first | refine blk_drewN ?_ _ | refine blk_drew ?_ | refine blk_alloc ?_ _)); exact BK217.out)) : gb219 ≠ gb217)); have n9_ := Aside0.mk ((by rw [hg]; exact Nat.ne_of_lt (IsU.lt (show IsU _ w _ g209 x210000_1 x210001_1 x210002_1 x210003_1 x210004_1 from by repeat (first | (with_reducible first | exact HI209.out | apply IsU.alloc | apply IsU.drewN | apply IsU.drew | exact IsU.far5 HI209.out ⟨_, BK217.out⟩ NB209_217.out) | exact HI209.out))) : g209 ≠ gb219)); have n10_ := Aside0.mk ((by rw [hg]; exact Nat.ne_of_gt (IsU.lt (show IsU _ w _ g209 x210000_1 x210001_1 x210002_1 x210003_1 x210004_1 from by repeat (first | (with_reducible first | exact HI209.out | apply IsU.alloc | apply IsU.drewN | apply IsU.drew | exact IsU.far5 HI209.out ⟨_, BK217.out⟩ NB209_217.out) | exact HI209.out))) : gb219 ≠ g209)); clear HO_218000; clear BK217; clear HI209; clear HB; have HO_218000 := n0_; have BK217 := n1_; have HI209 := n2_; have HB := n3_; have BK219 := n4_; have GW219 := n5_; have GE219 := n6_; have NB217_219 := n7_; have NB219_217 := n8_; have NB209_219 := n9_; have NB219_209 := n10_; clear n0_ n1_ n2_ n3_ n4_ n5_ n6_ n7_ n8_ n9_ n10_; clear hb hbox hg; have hnb27 := NB219_217.out; have hnc27 := NB217_219.out; have hnb28 := NB219_209.out; have hnc28 := NB209_219.out; have hcz29_0 : w26.cell? ⟨gb219, 0, none⟩ = some (.int .i64 0) := (blk_cell BK219.out 0).trans rfl; have hcz29_1 : w26.cell? ⟨gb219, 1, none⟩ = some (.int .i64 0) := (blk_cell BK219.out 1).trans rfl; have hcz29_2 : w26.cell? ⟨gb219, 2, none⟩ = some (.slice none 0 0) := (blk_cell BK219.out 2).trans rfl; have hfz29_0 := blk_frozen BK219.out 0; have hfz29_1 := blk_frozen BK219.out 1; have hfz29_2 := blk_frozen BK219.out 2))
                (try simp only [Act.put, List.setIfInBounds_toArray, List.set_cons_zero, List.set_cons_succ])
                go_cut [9, 10] (fun v9 v10 wc => ∃ (kq : Nat) (x9_24 : Int) (x10_24 : Int) (x210000_24 : ByteArray) (x210001_24 : Int) (x210002_24 : Int) (x210003_24 : Int) (x210004_24 : Bool) (x218000_24 : List Int) (x218001_24 : Int) (x218002_24 : Int) (x218003_24 : Int) (x218004_24 : Bool) (u218000 : Value), v9 = .int .i64 x9_24 ∧ v10 = .int .i64 x10_24 ∧ Aside0 (ropewaylaw08_DiskRuns.j2 kq x9_24 x10_24 l1 (l1.length : Int) x30_1 x210000_24 x210001_24 x210002_24 x210003_24 x210004_24 x218000_24 x218001_24 x218002_24 x218003_24 x218004_24 = some r) ∧ Aside0 (kq ≤ k1) ∧ Aside0 (Kd.R (Kd.int .u8) 5 wc w.heap.size (fun _ => True) u218000 x218000_24) ∧ Aside0 (wc.heap[gb217]? = some (.cells #[u218000, .int .i64 x218001_24, .int .i64 x218002_24, .int .i64 x218003_24, .bool x218004_24] 41 (0, 0))) ∧ Aside0 (IsU (PS [u218000]) w wc g209 x210000_24 x210001_24 x210002_24 x210003_24 x210004_24) ∧ Aside0 (Below w.heap.size w wc))
                case first =>
                  have H := HC25.out
                  clear HC25
                  by_cases c30 : ((rd_T34 l1 x30_1).f0) = 0
                  · rw [if_pos c30] at H
                    have c30b0 : (((rd_T34 l1 x30_1).f0) == 0) = true := beq_iff_eq.mpr c30
                    have c30b1 : (((rd_T34 l1 x30_1).f0) != 0) = false := bne_eq_false_iff_eq.mpr c30
                    clear c30
                    (first | rw [c30b0] | (simp only [i64_w, i32_w]; rw [c30b0]) | skip)
                    obtain ⟨y220, hy220⟩ : ∃ y_ : List Int, y_ = (([] : List Int)) := ⟨_, rfl⟩
                    replace H : (if y220.length + ((rd_T34 l1 x30_1).f2).length < 140737488355328 then ((some (y220 ++ ((rd_T34 l1 x30_1).f2) : List Int)).bind fun y223 => ((disk_Disk_Append.f x210000_1 x210001_1 x210002_1 x210003_1 x210004_1 y223).bind fun bt226 => ((ropewayref08_Append.f k1 x218000_1 x218001_1 x218002_1 x218003_1 x218004_1 ((rd_T34 l1 x30_1).f2)).bind fun bt232 => (ropewaylaw08_DiskRuns.l1 k1 bt226.1 bt232.2.2.2.2.2 y223 l1 (l1.length : Int) x30_1 (y223.length : Int) 0 bt226.2.1 bt226.2.2.1 bt226.2.2.2.1 bt226.2.2.2.2.1 bt226.2.2.2.2.2 bt232.1 bt232.2.1 bt232.2.2.1 bt232.2.2.2.1 bt232.2.2.2.2.1)))) else (none)) = some r := by first | (rw [hy220]; with_reducible exact H) | (have H2_ := (Option.bind_some _ _).symm.trans H; rw [hy220]; with_reducible exact H2_) | (have H2_ := (Option.bind_some _ _).symm.trans H; with_reducible exact H2_) | with_reducible exact H | (rw [hy220]; exact H) | exact H
                    have Ny220 := Aside0.mk hy220
                    clear hy220
                    by_cases c31 : y220.length + ((rd_T34 l1 x30_1).f2).length < 140737488355328
                    · rw [if_pos c31] at H
                      have LMc31 := Aside0.mk c31
                      clear c31
                      obtain ⟨y223, hy223⟩ : ∃ y_ : List Int, y_ = (y220 ++ ((rd_T34 l1 x30_1).f2)) := ⟨_, rfl⟩
                      replace H : ((disk_Disk_Append.f x210000_1 x210001_1 x210002_1 x210003_1 x210004_1 y223).bind fun bt226 => ((ropewayref08_Append.f k1 x218000_1 x218001_1 x218002_1 x218003_1 x218004_1 ((rd_T34 l1 x30_1).f2)).bind fun bt232 => (ropewaylaw08_DiskRuns.l1 k1 bt226.1 bt232.2.2.2.2.2 y223 l1 (l1.length : Int) x30_1 (y223.length : Int) 0 bt226.2.1 bt226.2.2.1 bt226.2.2.2.1 bt226.2.2.2.2.1 bt226.2.2.2.2.2 bt232.1 bt232.2.1 bt232.2.2.1 bt232.2.2.2.1 bt232.2.2.2.2.1))) = some r := by first | (rw [hy223]; with_reducible exact H) | (have H2_ := (Option.bind_some _ _).symm.trans H; rw [hy223]; with_reducible exact H2_) | (have H2_ := (Option.bind_some _ _).symm.trans H; with_reducible exact H2_) | with_reducible exact H | (rw [hy223]; exact H) | exact H
                      have Ny223 := Aside0.mk hy223
                      clear hy223
                      replace H := Option.bind_eq_some_iff.mp H
                      obtain ⟨⟨t226, t227, t228, t229, t230, t231⟩, A320, H⟩ := H
                      replace H : ((ropewayref08_Append.f k1 x218000_1 x218001_1 x218002_1 x218003_1 x218004_1 ((rd_T34 l1 x30_1).f2)).bind fun bt232 => (ropewaylaw08_DiskRuns.l1 k1 t226 bt232.2.2.2.2.2 y223 l1 (l1.length : Int) x30_1 (y223.length : Int) 0 t227 t228 t229 t230 t231 bt232.1 bt232.2.1 bt232.2.2.1 bt232.2.2.2.1 bt232.2.2.2.2.1)) = some r := H
                      have A32 := Aside0.mk A320
                      clear A320
                      replace H := Option.bind_eq_some_iff.mp H
                      obtain ⟨⟨t232, t235, t236, t237, t238, t239⟩, A330, H⟩ := H
                      replace H : (ropewaylaw08_DiskRuns.l1 k1 t226 t239 y223 l1 (l1.length : Int) x30_1 (y223.length : Int) 0 t227 t228 t229 t230 t231 t232 t235 t236 t237 t238) = some r := H
                      have A33 := Aside0.mk A330
                      clear A330
                      have H' := Aside0.mk H
                      clear H
                      go_wp2_with (first | ((with_reducible refine gate_dst (N := 38) rfl ?_); (try (refine gate_guard (by rfl) ?_; dsimp only)); refine Kd.R_lit (Kd.int .u8) _ 5 ?hg (N := 38) ?hd (xs := ([] : List Int)) (inner := []) (ok := fun _ => True) (okp := fun _ => True) ?hr ?hp (fun _ hk => hk) trivial (Below.refl _ _) (Nat.le_refl _) (by simp) ?_; (case hd => rfl); (case hg => rfl); (case hr => first | (go_simp; done) | (go_simp; rfl)); (case hp => exact (Reps.none _ _)); intro v221 w34 ho35 hb hg_ hnew_; clear hg_ hnew_; (first | rw [← Ny220.out] at ho35 | (simp only [Int.reduceToNat] at ho35; rw [← Ny220.out] at ho35)); have n0_ := Aside0.mk (Kd.R_elder' (by (with_reducible repeat (first | apply Kd.R_alloc | apply Kd.R_drewN | apply Kd.R_drew)); exact (Kd.R_mono (Kd.R_far (p := ⟨gb219, 2, none⟩) (Kd.R_far (p := ⟨gb219, 1, none⟩) (Kd.R_far (p := ⟨gb219, 0, none⟩) (Kd.R_types HO_218000.out BK219.out (by decide)) (fun _ hk => hk.2) (.int .i64 ((rd_T34 l1 x30_1).f0))) (fun _ hk => hk.2) (.int .i64 ((rd_T34 l1 x30_1).f1))) (fun _ hk => hk.2) (.slice A218_2 ((rd_T34 l1 x30_1).f2).length c218_2)) (fun _ h_ => h_.1))) (Kd.R_base ho35) hb); have n1_ := Aside0.mk (Kd.R_lower (Kd.R_new' ho35 (Kd.R_lt (by (with_reducible repeat (first | apply Kd.R_alloc | apply Kd.R_drewN | apply Kd.R_drew)); exact (Kd.R_mono (Kd.R_far (p := ⟨gb219, 2, none⟩) (Kd.R_far (p := ⟨gb219, 1, none⟩) (Kd.R_far (p := ⟨gb219, 0, none⟩) (Kd.R_types HO_218000.out BK219.out (by decide)) (fun _ hk => hk.2) (.int .i64 ((rd_T34 l1 x30_1).f0))) (fun _ hk => hk.2) (.int .i64 ((rd_T34 l1 x30_1).f1))) (fun _ hk => hk.2) (.slice A218_2 ((rd_T34 l1 x30_1).f2).length c218_2)) (fun _ h_ => h_.1))))) (below_size (by repeat (first | (with_reducible first | exact HB.out | apply below_alloc | apply pw_below_drewN | apply below_drew1 | refine below_set ?_ (IsU.ge HI209.out) | refine below_set ?_ GE217.out | refine below_set ?_ GE219.out) | exact HB.out)))); have n2_ := Aside0.mk (blk_below (g := gb217) (o := .cells #[u218000, .int .i64 x218001_1, .int .i64 x218002_1, .int .i64 x218003_1, .bool x218004_1] 41 (0, 0)) (by (with_reducible repeat (first | refine blk_drewN ?_ _ | refine blk_drew ?_ | refine blk_alloc ?_ _)); refine blk_far ?_ NB217_219.out _; (with_reducible repeat (first | refine blk_drewN ?_ _ | refine blk_drew ?_ | refine blk_alloc ?_ _)); refine blk_far ?_ NB217_219.out _; (with_reducible repeat (first | refine blk_drewN ?_ _ | refine blk_drew ?_ | refine blk_alloc ?_ _)); refine blk_far ?_ NB217_219.out _; (with_reducible repeat (first | refine blk_drewN ?_ _ | refine blk_drew ?_ | refine blk_alloc ?_ _)); exact BK217.out) hb); have n3_ := Aside0.mk (IsU.next1 (show IsU _ w (((w26.setCell ⟨gb219, 0, none⟩ (.int .i64 ((rd_T34 l1 x30_1).f0))).setCell ⟨gb219, 1, none⟩ (.int .i64 ((rd_T34 l1 x30_1).f1))).setCell ⟨gb219, 2, none⟩ (.slice A218_2 ((rd_T34 l1 x30_1).f2).length c218_2)) g209 x210000_1 x210001_1 x210002_1 x210003_1 x210004_1 from by repeat (first | (with_reducible first | exact HI209.out | apply IsU.alloc | apply IsU.drewN | apply IsU.drew | exact IsU.far5 HI209.out ⟨_, BK217.out⟩ NB209_217.out | exact IsU.far3 HI209.out ⟨_, BK219.out⟩ NB209_219.out) | exact HI209.out)) hb ho35); have n4_ := Aside0.mk (blk_below (g := gb219) (o := .cells #[.int .i64 ((rd_T34 l1 x30_1).f0), .int .i64 ((rd_T34 l1 x30_1).f1), .slice A218_2 ((rd_T34 l1 x30_1).f2).length c218_2] 34 (0, 0)) (by (with_reducible repeat (first | refine blk_drewN ?_ _ | refine blk_drew ?_ | refine blk_alloc ?_ _)); refine blk_put (cs := #[.int .i64 ((rd_T34 l1 x30_1).f0), .int .i64 ((rd_T34 l1 x30_1).f1), .slice none 0 0]) ?_ 2 _ rfl; (with_reducible repeat (first | refine blk_drewN ?_ _ | refine blk_drew ?_ | refine blk_alloc ?_ _)); refine blk_put (cs := #[.int .i64 ((rd_T34 l1 x30_1).f0), .int .i64 0, .slice none 0 0]) ?_ 1 _ rfl; (with_reducible repeat (first | refine blk_drewN ?_ _ | refine blk_drew ?_ | refine blk_alloc ?_ _)); refine blk_put (cs := #[.int .i64 0, .int .i64 0, .slice none 0 0]) ?_ 0 _ rfl; (with_reducible repeat (first | refine blk_drewN ?_ _ | refine blk_drew ?_ | refine blk_alloc ?_ _)); exact BK219.out) hb); have n5_ := Aside0.mk (below_step (by repeat (first | (with_reducible first | exact HB.out | apply below_alloc | apply pw_below_drewN | apply below_drew1 | refine below_set ?_ (IsU.ge HI209.out) | refine below_set ?_ GE217.out | refine below_set ?_ GE219.out) | exact HB.out)) hb); clear HO_218000; clear BK217; clear HI209; clear BK219; clear HB; have HO_218000 := n0_; have HO222 := n1_; have BK217 := n2_; have HI209 := n3_; have BK219 := n4_; have HB := n5_; clear n0_ n1_ n2_ n3_ n4_ n5_; clear hb ho35; have hnb36 := NB219_217.out; have hnc36 := NB217_219.out; have hnb37 := NB219_209.out; have hnc37 := NB209_219.out; have hcz38_0 : w34.cell? ⟨gb219, 0, none⟩ = some (.int .i64 ((rd_T34 l1 x30_1).f0)) := (blk_cell BK219.out 0).trans rfl; have hcz38_1 : w34.cell? ⟨gb219, 1, none⟩ = some (.int .i64 ((rd_T34 l1 x30_1).f1)) := (blk_cell BK219.out 1).trans rfl; have hcz38_2 : w34.cell? ⟨gb219, 2, none⟩ = some (.slice A218_2 ((rd_T34 l1 x30_1).f2).length c218_2) := (blk_cell BK219.out 2).trans rfl; have hfz38_0 := blk_frozen BK219.out 0; have hfz38_1 := blk_frozen BK219.out 1; have hfz38_2 := blk_frozen BK219.out 2) | ((with_reducible refine gate_builtin (b := .append) (xs := #[.tmp 38, .tmp 40]) rfl ?_); (try (refine gate_guard (by rfl) ?_; dsimp only)); at_builtin; refine Kd.R_append_rows (Kd.int .u8) (w0 := w) w.heap.size rfl (.tmp 38) (.tmp 40) 27 5 (.int .u8 0) 1 rfl Try.underlying27 info5 rfl (by decide) (by omega) v221 y220 ((rd_T34 l1 x30_1).f2) _ _ _ (fun k_ => some k_ ≠ (u218000 : Value).ownBlock) (fun _ => False) rfl rfl ?aO ?aR (fun _ _ h => h) (fun _ h => h.elim) ?aF ?aB ?aS ?aL ?_; (case aR => repeat (first | exact (Kd.C_below HR218_2.out HB.out) | (with_reducible refine Kd.C_alloc ?_ _) | (with_reducible refine Kd.C_drewN ?_ _) | (with_reducible refine Kd.C_drew ?_))); (case aB => exact (by repeat (first | (with_reducible first | exact HB.out | apply below_alloc | apply pw_below_drewN | apply below_drew1 | refine below_set ?_ (IsU.ge HI209.out) | refine below_set ?_ GE217.out | refine below_set ?_ GE219.out) | exact HB.out))); (case aF => exact (fun k_ hk => Kd.fresh' (Kd.R_lt (by (with_reducible repeat (first | apply Kd.R_alloc | apply Kd.R_drewN | apply Kd.R_drew)); exact HO_218000.out)) k_ hk)); (case aO => exact (by (with_reducible repeat (first | apply Kd.R_alloc | apply Kd.R_drewN | apply Kd.R_drew)); exact Kd.R_mono HO222.out (fun _ hk => hk.2))); (case aS => exact (below_size (by repeat (first | (with_reducible first | exact HB.out | apply below_alloc | apply pw_below_drewN | apply below_drew1 | refine below_set ?_ (IsU.ge HI209.out) | refine below_set ?_ GE217.out | refine below_set ?_ GE219.out) | exact HB.out)))); (case aL => have := LMc31.out; omega); intro v224 w39 ho hb hg hat; rw [← Ny223.out] at ho; have n0_ := Aside0.mk (Kd.R_after (ok := (fun _ => True)) (by (with_reducible repeat (first | apply Kd.R_alloc | apply Kd.R_drewN | apply Kd.R_drew)); exact HO_218000.out) hg hat); have n1_ := Aside0.mk (blk_grown (g := gb217) (o := .cells #[u218000, .int .i64 x218001_1, .int .i64 x218002_1, .int .i64 x218003_1, .bool x218004_1] 41 (0, 0)) (by (with_reducible repeat (first | refine blk_drewN ?_ _ | refine blk_drew ?_ | refine blk_alloc ?_ _)); exact BK217.out) hg (Kd.R_ne HO222.out BK217.out (by decide))); have n2_ := Aside0.mk (IsU.grownO (by repeat (first | (with_reducible first | exact HI209.out | apply IsU.alloc | apply IsU.drewN | apply IsU.drew | exact IsU.far5 HI209.out ⟨_, BK217.out⟩ NB209_217.out | exact IsU.far3 HI209.out ⟨_, BK219.out⟩ NB209_219.out) | exact HI209.out)) hg (IsU.own_ne HI209.out HO222.out (by decide)) ho hat); have n3_ := Aside0.mk (blk_grown (g := gb219) (o := .cells #[.int .i64 ((rd_T34 l1 x30_1).f0), .int .i64 ((rd_T34 l1 x30_1).f1), .slice A218_2 ((rd_T34 l1 x30_1).f2).length c218_2] 34 (0, 0)) (by (with_reducible repeat (first | refine blk_drewN ?_ _ | refine blk_drew ?_ | refine blk_alloc ?_ _)); exact BK219.out) hg (Kd.R_ne HO222.out BK219.out (by decide))); have n4_ := Aside0.mk (hb); have n5_ := Aside0.mk (ho); clear HO_218000; clear BK217; clear HI209; clear BK219; clear HB; clear HO222; have HO_218000 := n0_; have BK217 := n1_; have HI209 := n2_; have BK219 := n3_; have HB := n4_; have HO225 := n5_; clear n0_ n1_ n2_ n3_ n4_ n5_; clear ho hb hg hat; obtain ⟨Ao40, co40, eo40⟩ := Kd.R_slice HO225.out; subst eo40) | ((with_reducible refine gate_callee (f := 11) rfl ?_); refine goesL_ (some 44) rfl rfl Try.func11 (by kernel_rfl) rfl #[.pointer (some ⟨g209, 0, none⟩), .slice Ao40 y223.length co40] rfl (by (try simp only [List.map_toArray, List.map_cons, List.map_nil]); first | done | rfl | (simp only [List.length_drop, List.length_take]; rfl)) ?_; (with_reducible refine (disk_Disk_Append.calls (PS [u218000, .slice Ao40 y223.length co40]) g209 x210000_1 x210001_1 x210002_1 x210003_1 x210004_1 _ _ y223 t226 t227 t228 t229 t230 t231 w _ ?side1 ?side2 ?side3 ?side4 ?side5 A32.out).mono ?_); (case side1 => repeat (first | (with_reducible first | exact HI209.out | apply IsU.alloc | apply IsU.drewN | apply IsU.drew | exact IsU.far5 HI209.out ⟨_, BK217.out⟩ NB209_217.out | exact IsU.far3 HI209.out ⟨_, BK219.out⟩ NB209_219.out) | exact HI209.out)); (case side2 => repeat (first | (with_reducible first | exact HB.out | apply below_alloc | apply pw_below_drewN | apply below_drew1 | refine below_set ?_ (IsU.ge HI209.out) | refine below_set ?_ GE217.out | refine below_set ?_ GE219.out) | exact HB.out)); (case side3 => repeat (first | exact (Kd.R_reads' HO225.out).2.2 | (with_reducible refine Kd.C_alloc ?_ _) | (with_reducible refine Kd.C_drewN ?_ _) | (with_reducible refine Kd.C_drew ?_))); (case side4 => exact (Kd.R_reads' HO225.out).2.1); (case side5 => exact far_slice (IsU.own_ne HI209.out HO225.out (by decide))); rintro e w41 ⟨rfl, hi, hb, hk⟩; refine ⟨_, rfl, ?_⟩; have n0_ := Aside0.mk (R_keepU (by (with_reducible repeat (first | apply Kd.R_alloc | apply Kd.R_drewN | apply Kd.R_drew)); exact HO_218000.out) hk (fun k_ hk_ => PS.fst hk_) (IsU.own_ne HI209.out HO_218000.out (by decide))); have n1_ := Aside0.mk (KeepT.blk hk.1 (g' := gb217) (o := .cells #[u218000, .int .i64 x218001_1, .int .i64 x218002_1, .int .i64 x218003_1, .bool x218004_1] 41 (0, 0)) (by (with_reducible repeat (first | refine blk_drewN ?_ _ | refine blk_drew ?_ | refine blk_alloc ?_ _)); exact BK217.out) NB217_209.out (by simp)); have n2_ := Aside0.mk (KeepT.blk hk.1 (g' := gb219) (o := .cells #[.int .i64 ((rd_T34 l1 x30_1).f0), .int .i64 ((rd_T34 l1 x30_1).f1), .slice A218_2 ((rd_T34 l1 x30_1).f2).length c218_2] 34 (0, 0)) (by (with_reducible repeat (first | refine blk_drewN ?_ _ | refine blk_drew ?_ | refine blk_alloc ?_ _)); exact BK219.out) NB219_209.out (by simp)); have n3_ := Aside0.mk (R_keepU (by (with_reducible repeat (first | apply Kd.R_alloc | apply Kd.R_drewN | apply Kd.R_drew)); exact HO225.out) hk (fun k_ hk_ => PS.snd hk_) (IsU.own_ne HI209.out HO225.out (by decide))); have n4_ := Aside0.mk (hb); have n5_ := Aside0.mk (hi); clear HO_218000; clear BK217; clear BK219; clear HO225; clear HB; clear HI209; have HO_218000 := n0_; have BK217 := n1_; have BK219 := n2_; have HO225 := n3_; have HB := n4_; have HI209 := n5_; clear n0_ n1_ n2_ n3_ n4_ n5_; (try clear hb); (try clear hb2); (try clear hk); (try clear hi); have hnb42 := NB217_209.out; have hnc42 := NB209_217.out; have hcz43_0 : w41.cell? ⟨gb217, 0, none⟩ = some (u218000) := (blk_cell BK217.out 0).trans rfl; have hcz43_1 : w41.cell? ⟨gb217, 1, none⟩ = some (.int .i64 x218001_1) := (blk_cell BK217.out 1).trans rfl; have hcz43_2 : w41.cell? ⟨gb217, 2, none⟩ = some (.int .i64 x218002_1) := (blk_cell BK217.out 2).trans rfl; have hcz43_3 : w41.cell? ⟨gb217, 3, none⟩ = some (.int .i64 x218003_1) := (blk_cell BK217.out 3).trans rfl; have hcz43_4 : w41.cell? ⟨gb217, 4, none⟩ = some (.bool x218004_1) := (blk_cell BK217.out 4).trans rfl; have hfz43_0 := blk_frozen BK217.out 0; have hfz43_1 := blk_frozen BK217.out 1; have hfz43_2 := blk_frozen BK217.out 2; have hfz43_3 := blk_frozen BK217.out 3; have hfz43_4 := blk_frozen BK217.out 4; have hcz44_0 : w41.cell? ⟨gb219, 0, none⟩ = some (.int .i64 ((rd_T34 l1 x30_1).f0)) := (blk_cell BK219.out 0).trans rfl; have hcz44_1 : w41.cell? ⟨gb219, 1, none⟩ = some (.int .i64 ((rd_T34 l1 x30_1).f1)) := (blk_cell BK219.out 1).trans rfl; have hcz44_2 : w41.cell? ⟨gb219, 2, none⟩ = some (.slice A218_2 ((rd_T34 l1 x30_1).f2).length c218_2) := (blk_cell BK219.out 2).trans rfl; have hfz44_0 := blk_frozen BK219.out 0; have hfz44_1 := blk_frozen BK219.out 1; have hfz44_2 := blk_frozen BK219.out 2; obtain ⟨Ao45, co45, eo45⟩ := Kd.R_slice HO_218000.out; subst eo45) | ((with_reducible refine gate_callee (f := 20) rfl ?_); refine goesL_ (some 49) rfl rfl Try.func20 (by kernel_rfl) rfl #[.agg #[.slice Ao45 x218000_1.length co45, .int .i64 x218001_1, .int .i64 x218002_1, .int .i64 x218003_1, .bool x218004_1], .slice A218_2 ((rd_T34 l1 x30_1).f2).length c218_2] rfl (by (try simp only [List.map_toArray, List.map_cons, List.map_nil]); first | done | rfl | (simp only [List.length_drop, List.length_take]; rfl)) ?_; (with_reducible refine (ropewayref08_Append.calls k1 (fun k_ => some k_ = (.slice Ao45 x218000_1.length co45 : Value).ownBlock) (.slice Ao45 x218000_1.length co45) x218000_1 x218001_1 x218002_1 x218003_1 x218004_1 _ _ ((rd_T34 l1 x30_1).f2) t232 t235 t236 t237 t238 t239 w _ ?side1 ?side2 ?side3 ?side4 A33.out).mono ?_); (case side1 => repeat (first | (with_reducible first | exact HB.out | apply below_alloc | apply pw_below_drewN | apply below_drew1 | refine below_set ?_ (IsU.ge HI209.out) | refine below_set ?_ GE217.out | refine below_set ?_ GE219.out) | exact HB.out)); (case side2 => exact Kd.R_tight rfl HO_218000.out); (case side3 => exact Kd.C_kept_came (Kd.heap_int .u8) HR218_2.out (by repeat (first | (with_reducible first | exact HB.out | apply below_alloc | apply pw_below_drewN | apply below_drew1 | refine below_set ?_ (IsU.ge HI209.out) | refine below_set ?_ GE217.out | refine below_set ?_ GE219.out) | exact HB.out)) (fun k_ hs_ => (fun e_ => Kd.R_base HO_218000.out k_ e_.symm) hs_)); (case side4 => exact HC218_2.out); rintro e w46 ⟨v233, rfl, ho0, hb, hkp⟩; refine ⟨_, rfl, ?_⟩; have n0_ := Aside0.mk (blk_kept (by (with_reducible repeat (first | refine blk_drewN ?_ _ | refine blk_drew ?_ | refine blk_alloc ?_ _)); exact BK217.out) hkp (fun hs_ => (fun e_ => (Kd.R_ne HO_218000.out BK217.out (by decide)) e_) hs_)); have n1_ := Aside0.mk (IsU.kept2 (by repeat (first | (with_reducible first | exact HI209.out | apply IsU.alloc | apply IsU.drewN | apply IsU.drew | exact IsU.far5 HI209.out ⟨_, BK217.out⟩ NB209_217.out | exact IsU.far3 HI209.out ⟨_, BK219.out⟩ NB209_219.out) | exact HI209.out)) hkp (fun hs_ => (fun e_ => (IsU.own_ne HI209.out HO_218000.out (by decide)) e_) hs_) ho0); have n2_ := Aside0.mk (blk_kept (by (with_reducible repeat (first | refine blk_drewN ?_ _ | refine blk_drew ?_ | refine blk_alloc ?_ _)); exact BK219.out) hkp (fun hs_ => (fun e_ => (Kd.R_ne HO_218000.out BK219.out (by decide)) e_) hs_)); have n3_ := Aside0.mk (Kd.R_mono (ok' := fun k_ => some k_ ≠ (v233 : Value).ownBlock) (Kd.R_keptB (HO225.out) hkp (fun k_ hk_ hs_ => (hk_) hs_)) (fun k_ hk_ => fun e_ => Or.elim (ho0.1 k_ e_.symm) (fun hs_ => hk_.2.1 hs_) (fun hn_ => Nat.not_le.2 hk_.2.2 hn_))); have n4_ := Aside0.mk (Kd.R_mono (ok' := fun k_ => some k_ ≠ (.slice Ao40 y223.length co40 : Value).ownBlock) ho0 (fun k_ hk_ => Or.elim hk_ (fun hs_ => fun e_ => (((HO225.out).1 k_ e_.symm)) hs_) (fun hn_ => (Kd.fresh' (Kd.R_lt (by (with_reducible repeat (first | apply Kd.R_alloc | apply Kd.R_drewN | apply Kd.R_drew)); exact HO225.out)) k_ hn_)))); have n5_ := Aside0.mk (hb); clear BK217; clear HI209; clear BK219; clear HO225; clear HB; clear HO_218000; have BK217 := n0_; have HI209 := n1_; have BK219 := n2_; have HO225 := n3_; have HO234 := n4_; have HB := n5_; clear n0_ n1_ n2_ n3_ n4_ n5_; (try clear hb); (try clear hkp); (try clear ho0); obtain ⟨Ao47, co47, eo47⟩ := Kd.R_slice HO234.out; subst eo47; have hcz48_0 : w46.cell? ⟨gb217, 0, none⟩ = some (.slice Ao45 x218000_1.length co45) := (blk_cell BK217.out 0).trans rfl; have hcz48_1 : w46.cell? ⟨gb217, 1, none⟩ = some (.int .i64 x218001_1) := (blk_cell BK217.out 1).trans rfl; have hcz48_2 : w46.cell? ⟨gb217, 2, none⟩ = some (.int .i64 x218002_1) := (blk_cell BK217.out 2).trans rfl; have hcz48_3 : w46.cell? ⟨gb217, 3, none⟩ = some (.int .i64 x218003_1) := (blk_cell BK217.out 3).trans rfl; have hcz48_4 : w46.cell? ⟨gb217, 4, none⟩ = some (.bool x218004_1) := (blk_cell BK217.out 4).trans rfl; have hfz48_0 := blk_frozen BK217.out 0; have hfz48_1 := blk_frozen BK217.out 1; have hfz48_2 := blk_frozen BK217.out 2; have hfz48_3 := blk_frozen BK217.out 3; have hfz48_4 := blk_frozen BK217.out 4))
                      go_loopg [54] k1 (fun kq v54 w' => ∃ (x11_2 : List Int) (x54_2 : Int), v54 = .int .i64 x54_2 ∧ Aside0 (ropewaylaw08_DiskRuns.l1 kq t226 t239 x11_2 l1 (l1.length : Int) x30_1 (y223.length : Int) x54_2 t227 t228 t229 t230 t231 t232 t235 t236 t237 t238 = some r) ∧ Aside0 (kq ≤ k1) ∧ Aside0 (Kd.R (Kd.int .u8) 5 w' w.heap.size (fun k_ => some k_ ≠ ((.slice Ao47 t232.length co47) : Value).ownBlock) (.slice Ao40 y223.length co40) x11_2) ∧ Aside0 (Kd.R (Kd.int .u8) 5 w' w.heap.size (fun k_ => some k_ ≠ ((.slice Ao40 y223.length co40) : Value).ownBlock) (.slice Ao47 t232.length co47) t232) ∧ Aside0 (w'.heap[gb217]? = some (.cells #[(.slice Ao47 t232.length co47), .int .i64 t235, .int .i64 t236, .int .i64 t237, .bool t238] 41 (0, 0))) ∧ Aside0 (w'.heap[gb219]? = some (.cells #[.int .i64 ((rd_T34 l1 x30_1).f0), .int .i64 ((rd_T34 l1 x30_1).f1), (.slice A218_2 ((rd_T34 l1 x30_1).f2).length c218_2)] 34 (0, 0))) ∧ Aside0 (IsU (PS [.slice Ao47 t232.length co47, .slice Ao40 y223.length co40]) w w' g209 t227 t228 t229 t230 t231) ∧ Aside0 (Below w.heap.size w w'))
                      case atStart => exact ⟨(y223), (0), (by first | rfl | (simp; done) | (simp [*]; done)), H', ⟨Nat.le_refl _⟩, ⟨by (with_reducible repeat (first | apply Kd.R_alloc | apply Kd.R_drewN | apply Kd.R_drew)); exact Kd.R_mono (Kd.R_far (p := ⟨gb217, 4, none⟩) (Kd.R_far (p := ⟨gb217, 3, none⟩) (Kd.R_far (p := ⟨gb217, 2, none⟩) (Kd.R_far (p := ⟨gb217, 1, none⟩) (Kd.R_far (p := ⟨gb217, 0, none⟩) (Kd.R_types HO225.out BK217.out (by decide)) (fun _ hk => hk.2) (.slice Ao47 t232.length co47)) (fun _ hk => hk.2) (.int .i64 t235)) (fun _ hk => hk.2) (.int .i64 t236)) (fun _ hk => hk.2) (.int .i64 t237)) (fun _ hk => hk.2) (.bool t238)) (fun _ hk => hk.1)⟩, ⟨by (with_reducible repeat (first | apply Kd.R_alloc | apply Kd.R_drewN | apply Kd.R_drew)); exact Kd.R_mono (Kd.R_far (p := ⟨gb217, 4, none⟩) (Kd.R_far (p := ⟨gb217, 3, none⟩) (Kd.R_far (p := ⟨gb217, 2, none⟩) (Kd.R_far (p := ⟨gb217, 1, none⟩) (Kd.R_far (p := ⟨gb217, 0, none⟩) (Kd.R_types HO234.out BK217.out (by decide)) (fun _ hk => hk.2) (.slice Ao47 t232.length co47)) (fun _ hk => hk.2) (.int .i64 t235)) (fun _ hk => hk.2) (.int .i64 t236)) (fun _ hk => hk.2) (.int .i64 t237)) (fun _ hk => hk.2) (.bool t238)) (fun _ hk => hk.1)⟩, ⟨by (with_reducible repeat (first | refine blk_drewN ?_ _ | refine blk_drew ?_ | refine blk_alloc ?_ _)); refine blk_put (cs := #[.slice Ao47 t232.length co47, .int .i64 t235, .int .i64 t236, .int .i64 t237, .bool x218004_1]) ?_ 4 _ rfl; (with_reducible repeat (first | refine blk_drewN ?_ _ | refine blk_drew ?_ | refine blk_alloc ?_ _)); refine blk_put (cs := #[.slice Ao47 t232.length co47, .int .i64 t235, .int .i64 t236, .int .i64 x218003_1, .bool x218004_1]) ?_ 3 _ rfl; (with_reducible repeat (first | refine blk_drewN ?_ _ | refine blk_drew ?_ | refine blk_alloc ?_ _)); refine blk_put (cs := #[.slice Ao47 t232.length co47, .int .i64 t235, .int .i64 x218002_1, .int .i64 x218003_1, .bool x218004_1]) ?_ 2 _ rfl; (with_reducible repeat (first | refine blk_drewN ?_ _ | refine blk_drew ?_ | refine blk_alloc ?_ _)); refine blk_put (cs := #[.slice Ao47 t232.length co47, .int .i64 x218001_1, .int .i64 x218002_1, .int .i64 x218003_1, .bool x218004_1]) ?_ 1 _ rfl; (with_reducible repeat (first | refine blk_drewN ?_ _ | refine blk_drew ?_ | refine blk_alloc ?_ _)); refine blk_put (cs := #[.slice Ao45 x218000_1.length co45, .int .i64 x218001_1, .int .i64 x218002_1, .int .i64 x218003_1, .bool x218004_1]) ?_ 0 _ rfl; (with_reducible repeat (first | refine blk_drewN ?_ _ | refine blk_drew ?_ | refine blk_alloc ?_ _)); exact BK217.out⟩, ⟨by (with_reducible repeat (first | refine blk_drewN ?_ _ | refine blk_drew ?_ | refine blk_alloc ?_ _)); refine blk_far ?_ NB219_217.out _; (with_reducible repeat (first | refine blk_drewN ?_ _ | refine blk_drew ?_ | refine blk_alloc ?_ _)); refine blk_far ?_ NB219_217.out _; (with_reducible repeat (first | refine blk_drewN ?_ _ | refine blk_drew ?_ | refine blk_alloc ?_ _)); refine blk_far ?_ NB219_217.out _; (with_reducible repeat (first | refine blk_drewN ?_ _ | refine blk_drew ?_ | refine blk_alloc ?_ _)); refine blk_far ?_ NB219_217.out _; (with_reducible repeat (first | refine blk_drewN ?_ _ | refine blk_drew ?_ | refine blk_alloc ?_ _)); refine blk_far ?_ NB219_217.out _; (with_reducible repeat (first | refine blk_drewN ?_ _ | refine blk_drew ?_ | refine blk_alloc ?_ _)); exact BK219.out⟩, ⟨by repeat (first | (with_reducible first | exact HI209.out | apply IsU.alloc | apply IsU.drewN | apply IsU.drew | exact IsU.far5 HI209.out ⟨_, BK217.out⟩ NB209_217.out | exact IsU.far3 HI209.out ⟨_, BK219.out⟩ NB209_219.out) | exact HI209.out)⟩, ⟨by repeat (first | (with_reducible first | exact HB.out | apply below_alloc | apply pw_below_drewN | apply below_drew1 | refine below_set ?_ (IsU.ge HI209.out) | refine below_set ?_ GE217.out | refine below_set ?_ GE219.out) | exact HB.out)⟩⟩
                      case round =>
                        clear H'
                        try clear c1
                        try clear c2
                        try clear p2
                        try clear q2
                        try clear hx2
                        try clear c3
                        try clear c4
                        try clear c7
                        try clear c7b0
                        try clear c7b1
                        try clear c8
                        try clear c9
                        try clear c10
                        try clear c11
                        try clear c13
                        try clear c19
                        try clear c20
                        try clear c21
                        try clear p21
                        try clear q21
                        try clear hx21
                        try clear c22
                        try clear c22b0
                        try clear c23
                        try clear c23b0
                        try clear c24
                        try clear c24b0
                        try clear c27
                        try clear c28
                        try clear c30
                        try clear c30b0
                        try clear c30b1
                        try clear c31
                        try clear c36
                        try clear c37
                        try clear c42
                        try clear hcz14_0
                        try clear hcz14_1
                        try clear hcz14_2
                        try clear hcz14_3
                        try clear hcz14_4
                        try clear hcz21_0
                        try clear hcz21_1
                        try clear hcz21_2
                        try clear hcz21_3
                        try clear hcz21_4
                        try clear hcz29_0
                        try clear hcz29_1
                        try clear hcz29_2
                        try clear hcz38_0
                        try clear hcz38_1
                        try clear hcz38_2
                        try clear hcz43_0
                        try clear hcz43_1
                        try clear hcz43_2
                        try clear hcz43_3
                        try clear hcz43_4
                        try clear hcz44_0
                        try clear hcz44_1
                        try clear hcz44_2
                        try clear hcz48_0
                        try clear hcz48_1
                        try clear hcz48_2
                        try clear hcz48_3
                        try clear hcz48_4
                        try clear hfz14_0
                        try clear hfz14_1
                        try clear hfz14_2
                        try clear hfz14_3
                        try clear hfz14_4
                        try clear hfz21_0
                        try clear hfz21_1
                        try clear hfz21_2
                        try clear hfz21_3
                        try clear hfz21_4
                        try clear hfz29_0
                        try clear hfz29_1
                        try clear hfz29_2
                        try clear hfz38_0
                        try clear hfz38_1
                        try clear hfz38_2
                        try clear hfz43_0
                        try clear hfz43_1
                        try clear hfz43_2
                        try clear hfz43_3
                        try clear hfz43_4
                        try clear hfz44_0
                        try clear hfz44_1
                        try clear hfz44_2
                        try clear hfz48_0
                        try clear hfz48_1
                        try clear hfz48_2
                        try clear hfz48_3
                        try clear hfz48_4
                        try clear hx218_0
                        try clear hx218_1
                        try clear hx218_2
                        try clear p2
                        try clear p218
                        try clear q218
                        obtain ⟨x11_2, x54_2, rfl, HA, HK2, HO_11, HO_218000, BK217, BK219, HI209, HB⟩ := hrel
                        have hl11_2 := (Kd.R_reads' HO_11.out).1
                        rw [hl11_2] at HO_11
                        (try simp only [hl11_2])
                        (try simp only [hl11_2] at BK217)
                        (try simp only [hl11_2] at BK219)
                        (try simp only [hl11_2] at HO_218000)
                        (try simp only [hl11_2] at HI209)
                        cases gk with
                        | zero => exact absurd HA.out (by simp [ropewaylaw08_DiskRuns.l1])
                        | succ k2 =>
                          have H := HA.out
                          clear HA
                          simp only [ropewaylaw08_DiskRuns.l1] at H
                          by_cases c49 : x54_2 < (y223.length : Int)
                          · rw [if_pos c49] at H
                            have c49b0 : decide (x54_2 < (y223.length : Int)) = true := decide_eq_true c49
                            clear c49
                            by_cases c50 : 0 ≤ x54_2
                            · rw [if_pos c50] at H
                              have c50b0 : decide (0 ≤ x54_2) = true := decide_eq_true c50
                              clear c50
                              by_cases c51 : x54_2 < (x11_2.length : Int)
                              · rw [if_pos c51] at H
                                have c51b0 : decide (x54_2 < (x11_2.length : Int)) = true := decide_eq_true c51
                                clear c51
                                obtain ⟨y241, hy241⟩ : ∃ y_ : List Int, y_ = (x11_2.set (x54_2 : Int).toNat (((rd x11_2 x54_2) + 1) % 256)) := ⟨_, rfl⟩
                                replace H : (ropewaylaw08_DiskRuns.l1 k2 t226 t239 y241 l1 (l1.length : Int) x30_1 (y223.length : Int) (wrap64 (x54_2 + 1)) t227 t228 t229 t230 t231 t232 t235 t236 t237 t238) = some r := by first | (rw [hy241]; with_reducible exact H) | (have H2_ := (Option.bind_some _ _).symm.trans H; rw [hy241]; with_reducible exact H2_) | (have H2_ := (Option.bind_some _ _).symm.trans H; with_reducible exact H2_) | with_reducible exact H | (rw [hy241]; exact H) | exact H
                                have Ny241 := Aside0.mk hy241
                                clear hy241
                                have H' := Aside0.mk H
                                clear H
                                have p240 : 0 ≤ (x54_2 : Int) := of_decide_eq_true (by first | (with_reducible assumption) | assumption)
                                have q240 : x54_2 < (x11_2.length : Int) := of_decide_eq_true (by first | (with_reducible assumption) | assumption)
                                obtain ⟨ad240, e240, hx240_0⟩ := Kd.at_int (Kd.R_reads' HO_11.out).2.2 x54_2 p240 q240
                                cases e240
                                replace p240 := eq_true p240
                                replace q240 := eq_true q240
                                have p52 : 0 ≤ (x54_2 : Int) := of_decide_eq_true (by first | (with_reducible assumption) | assumption)
                                have q52 : (x54_2 : Int) < ((x11_2.length : Int) : Int) := of_decide_eq_true (by first | (with_reducible assumption) | assumption)
                                obtain ⟨go52, co52, eo52, gb52, gl52, cl52, HG52⟩ := Kd.R_form HO_11.out (by omega)
                                (first | cases eo52 | (injection eo52 with ea_ en_ ec_; (first | subst ea_ | (injection ea_ with ea_; subst ea_)); subst ec_; clear en_))
                                have GB52 := Aside0.mk gb52
                                have GG52 := Aside0.mk HG52
                                clear gb52 gl52 HG52
                                (first | simp only [add_plain] at hx240_0 | skip)
                                obtain ⟨hx52_0, hf52_0⟩ := Kd.R_celln 0 HO_11.out (x54_2 : Int) p52 q52
                                replace p52 := eq_true p52
                                replace q52 := eq_true q52
                                have HP53 := Kd.R_putg HO_11.out (x54_2 : Int) (((rd x11_2 x54_2) + 1) % 256)
                                go_wp2_with (first | ((with_reducible refine gate_store (t := 5) (p := 62) rfl ?_); refine store_event (t := 5) (p := 62) (v := ?vo_w54) (w1 := (wr.setCell ⟨go52, (x54_2 : Int).toNat, none⟩ (.int .u8 (((rd x11_2 x54_2) + 1) % 256)))) ?hg ?ho ?hn ?hr ?_; (case ho => rfl); (case hg => rfl); (case hn => rfl); (case hr => first | (go_simp; done) | (go_simp; rfl)); intro w54 hw; have hg : wr.grownBy w54 (some go52) := (by rw [hw]; exact HP53.2); have hp_ : Kd.R (Kd.int .u8) 5 w54 w.heap.size (fun k_ => some k_ ≠ (.slice Ao47 t232.length co47 : Value).ownBlock) (.slice (some ⟨go52, 0, none⟩) x11_2.length co40) y241 := (by rw [hw, Ny241.out]; exact HP53.1); clear HP53; have n0_ := Aside0.mk (hp_); have n1_ := Aside0.mk (Kd.R_after (v := (.slice (some ⟨go52, 0, none⟩) x11_2.length co40)) (v1 := (.slice (some ⟨go52, 0, none⟩) x11_2.length co40)) (ok := (fun _ => True)) (by (with_reducible repeat (first | apply Kd.R_alloc | apply Kd.R_drewN | apply Kd.R_drew)); exact Kd.R_mono HO_218000.out (fun _ hk => ⟨trivial, hk⟩)) hg (.inl rfl)); have n2_ := Aside0.mk (blk_grown (g := gb217) (o := .cells #[.slice Ao47 t232.length co47, .int .i64 t235, .int .i64 t236, .int .i64 t237, .bool t238] 41 (0, 0)) (by (with_reducible repeat (first | refine blk_drewN ?_ _ | refine blk_drew ?_ | refine blk_alloc ?_ _)); exact BK217.out) hg (Kd.R_ne HO_11.out BK217.out (by decide))); have n3_ := Aside0.mk (blk_grown (g := gb219) (o := .cells #[.int .i64 ((rd_T34 l1 x30_1).f0), .int .i64 ((rd_T34 l1 x30_1).f1), .slice A218_2 ((rd_T34 l1 x30_1).f2).length c218_2] 34 (0, 0)) (by (with_reducible repeat (first | refine blk_drewN ?_ _ | refine blk_drew ?_ | refine blk_alloc ?_ _)); exact BK219.out) hg (Kd.R_ne HO_11.out BK219.out (by decide))); have n4_ := Aside0.mk (IsU.grownP (by repeat (first | (with_reducible first | exact HI209.out | apply IsU.alloc | apply IsU.drewN | apply IsU.drew | exact IsU.far5 HI209.out ⟨_, BK217.out⟩ NB209_217.out | exact IsU.far3 HI209.out ⟨_, BK219.out⟩ NB209_219.out) | exact HI209.out)) hg (IsU.own_ne HI209.out HO_11.out (by decide)) (fun k_ hk_ => PS.snd hk_)); have n5_ := Aside0.mk ((by rw [hw]; exact below_set (HB.out) GB52.out : Below w.heap.size w w54)); clear HO_11; clear HO_218000; clear BK217; clear BK219; clear HI209; clear HB; have HO_11 := n0_; have HO_218000 := n1_; have BK217 := n2_; have BK219 := n3_; have HI209 := n4_; have HB := n5_; clear n0_ n1_ n2_ n3_ n4_ n5_; clear hg hw hp_))
                                (try simp only [← hl11_2])
                                go_roundg k2
                                case measure => have := HK1.out; have := HK2.out; omega
                                case rel => exact ⟨(y241), (wrap64 (x54_2 + 1)), (by first | rfl | (simp; done) | (simp [*]; done)), H', ⟨by have := HK1.out; have := HK2.out; omega⟩, ⟨by (try simp only [hl11_2]); (with_reducible repeat (first | apply Kd.R_alloc | apply Kd.R_drewN | apply Kd.R_drew)); exact HO_11.out⟩, ⟨by (try simp only [hl11_2]); (with_reducible repeat (first | apply Kd.R_alloc | apply Kd.R_drewN | apply Kd.R_drew)); exact Kd.R_mono HO_218000.out (fun _ hk => hk.2)⟩, ⟨by (try simp only [hl11_2]); (with_reducible repeat (first | refine blk_drewN ?_ _ | refine blk_drew ?_ | refine blk_alloc ?_ _)); exact BK217.out⟩, ⟨by (try simp only [hl11_2]); (with_reducible repeat (first | refine blk_drewN ?_ _ | refine blk_drew ?_ | refine blk_alloc ?_ _)); exact BK219.out⟩, ⟨by (try simp only [hl11_2]); repeat (first | (with_reducible first | exact HI209.out | apply IsU.alloc | apply IsU.drewN | apply IsU.drew | exact IsU.far5 HI209.out ⟨_, BK217.out⟩ NB209_217.out | exact IsU.far3 HI209.out ⟨_, BK219.out⟩ NB209_219.out) | exact HI209.out)⟩, ⟨by repeat (first | (with_reducible first | exact HB.out | apply below_alloc | apply pw_below_drewN | apply below_drew1 | refine below_set ?_ (IsU.ge HI209.out) | refine below_set ?_ GE217.out | refine below_set ?_ GE219.out) | exact HB.out)⟩⟩
                              · rw [if_neg c51] at H
                                exact absurd H (by simp)
                            · rw [if_neg c50] at H
                              exact absurd H (by simp)
                          · rw [if_neg c49] at H
                            have c49b0 : decide (x54_2 < (y223.length : Int)) = false := decide_eq_false c49
                            have c49b1 : decide (x54_2 < (x11_2.length : Int)) = false := by rw [← hl11_2]; exact c49b0
                            clear c49
                            have H' := Aside0.mk H
                            clear H
                            go_wp2
                            (try simp only [← hl11_2])
                            go_meet
                            case rel => exact ⟨_, (t226), (t239), (t227), (t228), (t229), (t230), (t231), (t232), (t235), (t236), (t237), (t238), (.slice Ao47 t232.length co47), (by first | rfl | (simp; done) | (simp [*]; done)), (by first | rfl | (simp; done) | (simp [*]; done)), H', ⟨by have := HK1.out; have := HK2.out; first | omega | exact Nat.le_refl _⟩, ⟨by (try simp only [hl11_2]); (with_reducible repeat (first | apply Kd.R_alloc | apply Kd.R_drewN | apply Kd.R_drew)); exact Kd.R_mono HO_218000.out (fun _ hk => trivial)⟩, ⟨by (try simp only [hl11_2]); (with_reducible repeat (first | refine blk_drewN ?_ _ | refine blk_drew ?_ | refine blk_alloc ?_ _)); exact BK217.out⟩, ⟨IsU.less (by repeat (first | (with_reducible first | exact HI209.out | apply IsU.alloc | apply IsU.drewN | apply IsU.drew | exact IsU.far5 HI209.out ⟨_, BK217.out⟩ NB209_217.out | exact IsU.far3 HI209.out ⟨_, BK219.out⟩ NB209_219.out) | exact HI209.out))⟩, ⟨by repeat (first | (with_reducible first | exact HB.out | apply below_alloc | apply pw_below_drewN | apply below_drew1 | refine below_set ?_ (IsU.ge HI209.out) | refine below_set ?_ GE217.out | refine below_set ?_ GE219.out) | exact HB.out)⟩⟩
                    · rw [if_neg c31] at H
                      exact absurd H (by simp)
                  · rw [if_neg c30] at H
                    have c30b0 : (((rd_T34 l1 x30_1).f0) == 0) = false := beq_eq_false_iff_ne.mpr c30
                    have c30b1 : (((rd_T34 l1 x30_1).f0) != 0) = true := bne_iff_ne.mpr c30
                    (first | rw [c30b0] | (simp only [i64_w, i32_w]; rw [c30b0]) | skip)
                    by_cases c55 : ((rd_T34 l1 x30_1).f0) = 1
                    · rw [if_pos c55] at H
                      have c55b0 : (((rd_T34 l1 x30_1).f0) == 1) = true := beq_iff_eq.mpr c55
                      have c55b1 : (((rd_T34 l1 x30_1).f0) != 1) = false := bne_eq_false_iff_eq.mpr c55
                      clear c55
                      replace H := Option.bind_eq_some_iff.mp H
                      obtain ⟨⟨t242, t243, t244, t245, t246⟩, A560, H⟩ := H
                      replace H : ((ropewayref08_Sync.f x218000_1 x218001_1 x218002_1 x218003_1 x218004_1).bind fun bt247 => (ropewaylaw08_DiskRuns.j2 k1 0 0 l1 (l1.length : Int) x30_1 t242 t243 t244 t245 t246 bt247.1 bt247.2.1 bt247.2.2.1 bt247.2.2.2.1 bt247.2.2.2.2)) = some r := H
                      have A56 := Aside0.mk A560
                      clear A560
                      replace H := Option.bind_eq_some_iff.mp H
                      obtain ⟨⟨t247, t250, t251, t252, t253⟩, A570, H⟩ := H
                      replace H : (ropewaylaw08_DiskRuns.j2 k1 0 0 l1 (l1.length : Int) x30_1 t242 t243 t244 t245 t246 t247 t250 t251 t252 t253) = some r := H
                      have A57 := Aside0.mk A570
                      clear A570
                      have H' := Aside0.mk H
                      clear H
                      go_wp2_with (first | ((with_reducible refine gate_callee (f := 16) rfl ?_); refine goesL_ (some 67) rfl rfl Try.func16 (by kernel_rfl) rfl #[.pointer (some ⟨g209, 0, none⟩)] rfl (by (try simp only [List.map_toArray, List.map_cons, List.map_nil]); first | done | rfl | (simp only [List.length_drop, List.length_take]; rfl)) ?_; (with_reducible refine (disk_Disk_Sync.calls (PS [u218000]) g209 x210000_1 x210001_1 x210002_1 x210003_1 x210004_1 t242 t243 t244 t245 t246 w _ ?side1 ?side2 A56.out).mono ?_); (case side1 => repeat (first | (with_reducible first | exact HI209.out | apply IsU.alloc | apply IsU.drewN | apply IsU.drew | exact IsU.far5 HI209.out ⟨_, BK217.out⟩ NB209_217.out | exact IsU.far3 HI209.out ⟨_, BK219.out⟩ NB209_219.out) | exact HI209.out)); (case side2 => repeat (first | (with_reducible first | exact HB.out | apply below_alloc | apply pw_below_drewN | apply below_drew1 | refine below_set ?_ (IsU.ge HI209.out) | refine below_set ?_ GE217.out | refine below_set ?_ GE219.out) | exact HB.out)); rintro e w58 ⟨rfl, hi, hb, hk⟩; refine ⟨_, rfl, ?_⟩; have n0_ := Aside0.mk (Kd.R_mono (Kd.R_keep (IsU.apart (show IsU _ w _ g209 x210000_1 x210001_1 x210002_1 x210003_1 x210004_1 from by repeat (first | (with_reducible first | exact HI209.out | apply IsU.alloc | apply IsU.drewN | apply IsU.drew | exact IsU.far5 HI209.out ⟨_, BK217.out⟩ NB209_217.out | exact IsU.far3 HI209.out ⟨_, BK219.out⟩ NB209_219.out) | exact HI209.out)) (by (with_reducible repeat (first | apply Kd.R_alloc | apply Kd.R_drewN | apply Kd.R_drew)); exact (Kd.R_mono (Kd.R_far (p := ⟨gb219, 2, none⟩) (Kd.R_far (p := ⟨gb219, 1, none⟩) (Kd.R_far (p := ⟨gb219, 0, none⟩) (Kd.R_types HO_218000.out BK219.out (by decide)) (fun _ hk => hk.2) (.int .i64 ((rd_T34 l1 x30_1).f0))) (fun _ hk => hk.2) (.int .i64 ((rd_T34 l1 x30_1).f1))) (fun _ hk => hk.2) (.slice A218_2 ((rd_T34 l1 x30_1).f2).length c218_2)) (fun _ h_ => h_.1))) (by decide)) hk (fun _ h => h.2)) (fun _ h => h.1)); have n1_ := Aside0.mk (KeepBut.blk hk (g' := gb217) (o := .cells #[u218000, .int .i64 x218001_1, .int .i64 x218002_1, .int .i64 x218003_1, .bool x218004_1] 41 (0, 0)) (by (with_reducible repeat (first | refine blk_drewN ?_ _ | refine blk_drew ?_ | refine blk_alloc ?_ _)); refine blk_far ?_ NB217_219.out _; (with_reducible repeat (first | refine blk_drewN ?_ _ | refine blk_drew ?_ | refine blk_alloc ?_ _)); refine blk_far ?_ NB217_219.out _; (with_reducible repeat (first | refine blk_drewN ?_ _ | refine blk_drew ?_ | refine blk_alloc ?_ _)); refine blk_far ?_ NB217_219.out _; (with_reducible repeat (first | refine blk_drewN ?_ _ | refine blk_drew ?_ | refine blk_alloc ?_ _)); exact BK217.out) NB217_209.out (by simp)); have n2_ := Aside0.mk (KeepBut.blk hk (g' := gb219) (o := .cells #[.int .i64 ((rd_T34 l1 x30_1).f0), .int .i64 ((rd_T34 l1 x30_1).f1), .slice A218_2 ((rd_T34 l1 x30_1).f2).length c218_2] 34 (0, 0)) (by (with_reducible repeat (first | refine blk_drewN ?_ _ | refine blk_drew ?_ | refine blk_alloc ?_ _)); refine blk_put (cs := #[.int .i64 ((rd_T34 l1 x30_1).f0), .int .i64 ((rd_T34 l1 x30_1).f1), .slice none 0 0]) ?_ 2 _ rfl; (with_reducible repeat (first | refine blk_drewN ?_ _ | refine blk_drew ?_ | refine blk_alloc ?_ _)); refine blk_put (cs := #[.int .i64 ((rd_T34 l1 x30_1).f0), .int .i64 0, .slice none 0 0]) ?_ 1 _ rfl; (with_reducible repeat (first | refine blk_drewN ?_ _ | refine blk_drew ?_ | refine blk_alloc ?_ _)); refine blk_put (cs := #[.int .i64 0, .int .i64 0, .slice none 0 0]) ?_ 0 _ rfl; (with_reducible repeat (first | refine blk_drewN ?_ _ | refine blk_drew ?_ | refine blk_alloc ?_ _)); exact BK219.out) NB219_209.out (by simp)); have n3_ := Aside0.mk (hb); have n4_ := Aside0.mk (hi); clear HO_218000; clear BK217; clear BK219; clear HB; clear HI209; have HO_218000 := n0_; have BK217 := n1_; have BK219 := n2_; have HB := n3_; have HI209 := n4_; clear n0_ n1_ n2_ n3_ n4_; (try clear hb); (try clear hb2); (try clear hk); (try clear hi); have hnb59 := NB217_219.out; have hnc59 := NB219_217.out; have hnb60 := NB217_209.out; have hnc60 := NB209_217.out; have hcz61_0 : w58.cell? ⟨gb217, 0, none⟩ = some (u218000) := (blk_cell BK217.out 0).trans rfl; have hcz61_1 : w58.cell? ⟨gb217, 1, none⟩ = some (.int .i64 x218001_1) := (blk_cell BK217.out 1).trans rfl; have hcz61_2 : w58.cell? ⟨gb217, 2, none⟩ = some (.int .i64 x218002_1) := (blk_cell BK217.out 2).trans rfl; have hcz61_3 : w58.cell? ⟨gb217, 3, none⟩ = some (.int .i64 x218003_1) := (blk_cell BK217.out 3).trans rfl; have hcz61_4 : w58.cell? ⟨gb217, 4, none⟩ = some (.bool x218004_1) := (blk_cell BK217.out 4).trans rfl; have hfz61_0 := blk_frozen BK217.out 0; have hfz61_1 := blk_frozen BK217.out 1; have hfz61_2 := blk_frozen BK217.out 2; have hfz61_3 := blk_frozen BK217.out 3; have hfz61_4 := blk_frozen BK217.out 4; obtain ⟨Ao62, co62, eo62⟩ := Kd.R_slice HO_218000.out; subst eo62) | ((with_reducible refine gate_callee (f := 21) rfl ?_); refine goesL_ (some 69) rfl rfl Try.func21 (by kernel_rfl) rfl #[.agg #[.slice Ao62 x218000_1.length co62, .int .i64 x218001_1, .int .i64 x218002_1, .int .i64 x218003_1, .bool x218004_1]] rfl (by (try simp only [List.map_toArray, List.map_cons, List.map_nil]); first | done | rfl | (simp only [List.length_drop, List.length_take]; rfl)) ?_; (with_reducible refine (ropewayref08_Sync.calls (fun k_ => some k_ = (.slice Ao62 x218000_1.length co62 : Value).ownBlock) (.slice Ao62 x218000_1.length co62) x218000_1 x218001_1 x218002_1 x218003_1 x218004_1 t247 t250 t251 t252 t253 w _ ?side1 ?side2 A57.out).mono ?_); (case side1 => repeat (first | (with_reducible first | exact HB.out | apply below_alloc | apply pw_below_drewN | apply below_drew1 | refine below_set ?_ (IsU.ge HI209.out) | refine below_set ?_ GE217.out | refine below_set ?_ GE219.out) | exact HB.out)); (case side2 => exact Kd.R_tight rfl HO_218000.out); rintro e w63 ⟨v248, rfl, ho0, hb, hkp⟩; refine ⟨_, rfl, ?_⟩; have n0_ := Aside0.mk (blk_kept (by (with_reducible repeat (first | refine blk_drewN ?_ _ | refine blk_drew ?_ | refine blk_alloc ?_ _)); exact BK217.out) hkp (fun hs_ => (fun e_ => (Kd.R_ne HO_218000.out BK217.out (by decide)) e_) hs_)); have n1_ := Aside0.mk (IsU.kept1 (by repeat (first | (with_reducible first | exact HI209.out | apply IsU.alloc | apply IsU.drewN | apply IsU.drew | exact IsU.far5 HI209.out ⟨_, BK217.out⟩ NB209_217.out | exact IsU.far3 HI209.out ⟨_, BK219.out⟩ NB209_219.out) | exact HI209.out)) hkp (fun hs_ => (fun e_ => (IsU.own_ne HI209.out HO_218000.out (by decide)) e_) hs_) ho0); have n2_ := Aside0.mk (blk_kept (by (with_reducible repeat (first | refine blk_drewN ?_ _ | refine blk_drew ?_ | refine blk_alloc ?_ _)); exact BK219.out) hkp (fun hs_ => (fun e_ => (Kd.R_ne HO_218000.out BK219.out (by decide)) e_) hs_)); have n3_ := Aside0.mk (Kd.R_mono (ok' := fun k_ => True) ho0 (fun k_ hk_ => trivial)); have n4_ := Aside0.mk (hb); clear BK217; clear HI209; clear BK219; clear HB; clear HO_218000; have BK217 := n0_; have HI209 := n1_; have BK219 := n2_; have HO249 := n3_; have HB := n4_; clear n0_ n1_ n2_ n3_ n4_; (try clear hb); (try clear hkp); (try clear ho0); obtain ⟨Ao64, co64, eo64⟩ := Kd.R_slice HO249.out; subst eo64; have hcz65_0 : w63.cell? ⟨gb217, 0, none⟩ = some (.slice Ao62 x218000_1.length co62) := (blk_cell BK217.out 0).trans rfl; have hcz65_1 : w63.cell? ⟨gb217, 1, none⟩ = some (.int .i64 x218001_1) := (blk_cell BK217.out 1).trans rfl; have hcz65_2 : w63.cell? ⟨gb217, 2, none⟩ = some (.int .i64 x218002_1) := (blk_cell BK217.out 2).trans rfl; have hcz65_3 : w63.cell? ⟨gb217, 3, none⟩ = some (.int .i64 x218003_1) := (blk_cell BK217.out 3).trans rfl; have hcz65_4 : w63.cell? ⟨gb217, 4, none⟩ = some (.bool x218004_1) := (blk_cell BK217.out 4).trans rfl; have hfz65_0 := blk_frozen BK217.out 0; have hfz65_1 := blk_frozen BK217.out 1; have hfz65_2 := blk_frozen BK217.out 2; have hfz65_3 := blk_frozen BK217.out 3; have hfz65_4 := blk_frozen BK217.out 4))
                      go_meet
                      case rel => exact ⟨_, (0), (0), (t242), (t243), (t244), (t245), (t246), (t247), (t250), (t251), (t252), (t253), (.slice Ao64 t247.length co64), (by first | rfl | (simp; done) | (simp [*]; done)), (by first | rfl | (simp; done) | (simp [*]; done)), H', ⟨by have := HK1.out; first | omega | exact Nat.le_refl _⟩, ⟨by (with_reducible repeat (first | apply Kd.R_alloc | apply Kd.R_drewN | apply Kd.R_drew)); exact Kd.R_mono (Kd.R_far (p := ⟨gb217, 4, none⟩) (Kd.R_far (p := ⟨gb217, 3, none⟩) (Kd.R_far (p := ⟨gb217, 2, none⟩) (Kd.R_far (p := ⟨gb217, 1, none⟩) (Kd.R_far (p := ⟨gb217, 0, none⟩) (Kd.R_types HO249.out BK217.out (by decide)) (fun _ hk => hk.2) (.slice Ao64 t247.length co64)) (fun _ hk => hk.2) (.int .i64 t250)) (fun _ hk => hk.2) (.int .i64 t251)) (fun _ hk => hk.2) (.int .i64 t252)) (fun _ hk => hk.2) (.bool t253)) (fun _ hk => trivial)⟩, ⟨by (with_reducible repeat (first | refine blk_drewN ?_ _ | refine blk_drew ?_ | refine blk_alloc ?_ _)); refine blk_put (cs := #[.slice Ao64 t247.length co64, .int .i64 t250, .int .i64 t251, .int .i64 t252, .bool x218004_1]) ?_ 4 _ rfl; (with_reducible repeat (first | refine blk_drewN ?_ _ | refine blk_drew ?_ | refine blk_alloc ?_ _)); refine blk_put (cs := #[.slice Ao64 t247.length co64, .int .i64 t250, .int .i64 t251, .int .i64 x218003_1, .bool x218004_1]) ?_ 3 _ rfl; (with_reducible repeat (first | refine blk_drewN ?_ _ | refine blk_drew ?_ | refine blk_alloc ?_ _)); refine blk_put (cs := #[.slice Ao64 t247.length co64, .int .i64 t250, .int .i64 x218002_1, .int .i64 x218003_1, .bool x218004_1]) ?_ 2 _ rfl; (with_reducible repeat (first | refine blk_drewN ?_ _ | refine blk_drew ?_ | refine blk_alloc ?_ _)); refine blk_put (cs := #[.slice Ao64 t247.length co64, .int .i64 x218001_1, .int .i64 x218002_1, .int .i64 x218003_1, .bool x218004_1]) ?_ 1 _ rfl; (with_reducible repeat (first | refine blk_drewN ?_ _ | refine blk_drew ?_ | refine blk_alloc ?_ _)); refine blk_put (cs := #[.slice Ao62 x218000_1.length co62, .int .i64 x218001_1, .int .i64 x218002_1, .int .i64 x218003_1, .bool x218004_1]) ?_ 0 _ rfl; (with_reducible repeat (first | refine blk_drewN ?_ _ | refine blk_drew ?_ | refine blk_alloc ?_ _)); exact BK217.out⟩, ⟨by repeat (first | (with_reducible first | exact HI209.out | apply IsU.alloc | apply IsU.drewN | apply IsU.drew | exact IsU.far5 HI209.out ⟨_, BK217.out⟩ NB209_217.out | exact IsU.far3 HI209.out ⟨_, BK219.out⟩ NB209_219.out) | exact HI209.out)⟩, ⟨by repeat (first | (with_reducible first | exact HB.out | apply below_alloc | apply pw_below_drewN | apply below_drew1 | refine below_set ?_ (IsU.ge HI209.out) | refine below_set ?_ GE217.out | refine below_set ?_ GE219.out) | exact HB.out)⟩⟩
                    · rw [if_neg c55] at H
                      have c55b0 : (((rd_T34 l1 x30_1).f0) == 1) = false := beq_eq_false_iff_ne.mpr c55
                      have c55b1 : (((rd_T34 l1 x30_1).f0) != 1) = true := bne_iff_ne.mpr c55
                      by_cases c66 : ((rd_T34 l1 x30_1).f0) = 2
                      · rw [if_pos c66] at H
                        have c66b0 : (((rd_T34 l1 x30_1).f0) == 2) = true := beq_iff_eq.mpr c66
                        have c66b1 : (((rd_T34 l1 x30_1).f0) != 2) = false := bne_eq_false_iff_eq.mpr c66
                        clear c66
                        replace H := Option.bind_eq_some_iff.mp H
                        obtain ⟨⟨t254, t255, t256, t257, t258⟩, A670, H⟩ := H
                        replace H : ((ropewayref08_Crash.f k1 x218000_1 x218001_1 x218002_1 x218003_1 x218004_1 ((rd_T34 l1 x30_1).f1)).bind fun bt259 => (ropewaylaw08_DiskRuns.j2 k1 0 0 l1 (l1.length : Int) x30_1 t254 t255 t256 t257 t258 bt259.1 bt259.2.1 bt259.2.2.1 bt259.2.2.2.1 bt259.2.2.2.2)) = some r := H
                        have A67 := Aside0.mk A670
                        clear A670
                        replace H := Option.bind_eq_some_iff.mp H
                        obtain ⟨⟨t259, t262, t263, t264, t265⟩, A680, H⟩ := H
                        replace H : (ropewaylaw08_DiskRuns.j2 k1 0 0 l1 (l1.length : Int) x30_1 t254 t255 t256 t257 t258 t259 t262 t263 t264 t265) = some r := H
                        have A68 := Aside0.mk A680
                        clear A680
                        have H' := Aside0.mk H
                        clear H
                        have hnb69 := NB219_217.out
                        have hnc69 := NB217_219.out
                        have hnb70 := NB219_209.out
                        have hnc70 := NB209_219.out
                        have hcz71_0 : w26.cell? ⟨gb219, 0, none⟩ = some (.int .i64 0) := (blk_cell BK219.out 0).trans rfl
                        have hcz71_1 : w26.cell? ⟨gb219, 1, none⟩ = some (.int .i64 0) := (blk_cell BK219.out 1).trans rfl
                        have hcz71_2 : w26.cell? ⟨gb219, 2, none⟩ = some (.slice none 0 0) := (blk_cell BK219.out 2).trans rfl
                        have hfz71_0 := blk_frozen BK219.out 0
                        have hfz71_1 := blk_frozen BK219.out 1
                        have hfz71_2 := blk_frozen BK219.out 2
                        go_wp2_with (first | ((with_reducible refine gate_callee (f := 17) rfl ?_); refine goesL_ (some 75) rfl rfl Try.func17 (by kernel_rfl) rfl #[.pointer (some ⟨g209, 0, none⟩), .int .i64 ((rd_T34 l1 x30_1).f1)] rfl (by (try simp only [List.map_toArray, List.map_cons, List.map_nil]); first | done | rfl | (simp only [List.length_drop, List.length_take]; rfl)) ?_; (with_reducible refine (disk_Disk_Crash.calls (PS [u218000]) g209 x210000_1 x210001_1 x210002_1 x210003_1 x210004_1 ((rd_T34 l1 x30_1).f1) t254 t255 t256 t257 t258 w _ ?side1 ?side2 A67.out).mono ?_); (case side1 => repeat (first | (with_reducible first | exact HI209.out | apply IsU.alloc | apply IsU.drewN | apply IsU.drew | exact IsU.far5 HI209.out ⟨_, BK217.out⟩ NB209_217.out | exact IsU.far3 HI209.out ⟨_, BK219.out⟩ NB209_219.out) | exact HI209.out)); (case side2 => repeat (first | (with_reducible first | exact HB.out | apply below_alloc | apply pw_below_drewN | apply below_drew1 | refine below_set ?_ (IsU.ge HI209.out) | refine below_set ?_ GE217.out | refine below_set ?_ GE219.out) | exact HB.out)); rintro e w72 ⟨rfl, hi, hb, hk⟩; refine ⟨_, rfl, ?_⟩; have n0_ := Aside0.mk (Kd.R_mono (Kd.R_keep (IsU.apart (show IsU _ w _ g209 x210000_1 x210001_1 x210002_1 x210003_1 x210004_1 from by repeat (first | (with_reducible first | exact HI209.out | apply IsU.alloc | apply IsU.drewN | apply IsU.drew | exact IsU.far5 HI209.out ⟨_, BK217.out⟩ NB209_217.out | exact IsU.far3 HI209.out ⟨_, BK219.out⟩ NB209_219.out) | exact HI209.out)) (by (with_reducible repeat (first | apply Kd.R_alloc | apply Kd.R_drewN | apply Kd.R_drew)); exact (Kd.R_mono (Kd.R_far (p := ⟨gb219, 2, none⟩) (Kd.R_far (p := ⟨gb219, 1, none⟩) (Kd.R_far (p := ⟨gb219, 0, none⟩) (Kd.R_types HO_218000.out BK219.out (by decide)) (fun _ hk => hk.2) (.int .i64 ((rd_T34 l1 x30_1).f0))) (fun _ hk => hk.2) (.int .i64 ((rd_T34 l1 x30_1).f1))) (fun _ hk => hk.2) (.slice A218_2 ((rd_T34 l1 x30_1).f2).length c218_2)) (fun _ h_ => h_.1))) (by decide)) hk (fun _ h => h.2)) (fun _ h => h.1)); have n1_ := Aside0.mk (KeepBut.blk hk (g' := gb217) (o := .cells #[u218000, .int .i64 x218001_1, .int .i64 x218002_1, .int .i64 x218003_1, .bool x218004_1] 41 (0, 0)) (by (with_reducible repeat (first | refine blk_drewN ?_ _ | refine blk_drew ?_ | refine blk_alloc ?_ _)); refine blk_far ?_ NB217_219.out _; (with_reducible repeat (first | refine blk_drewN ?_ _ | refine blk_drew ?_ | refine blk_alloc ?_ _)); refine blk_far ?_ NB217_219.out _; (with_reducible repeat (first | refine blk_drewN ?_ _ | refine blk_drew ?_ | refine blk_alloc ?_ _)); refine blk_far ?_ NB217_219.out _; (with_reducible repeat (first | refine blk_drewN ?_ _ | refine blk_drew ?_ | refine blk_alloc ?_ _)); exact BK217.out) NB217_209.out (by simp)); have n2_ := Aside0.mk (KeepBut.blk hk (g' := gb219) (o := .cells #[.int .i64 ((rd_T34 l1 x30_1).f0), .int .i64 ((rd_T34 l1 x30_1).f1), .slice A218_2 ((rd_T34 l1 x30_1).f2).length c218_2] 34 (0, 0)) (by (with_reducible repeat (first | refine blk_drewN ?_ _ | refine blk_drew ?_ | refine blk_alloc ?_ _)); refine blk_put (cs := #[.int .i64 ((rd_T34 l1 x30_1).f0), .int .i64 ((rd_T34 l1 x30_1).f1), .slice none 0 0]) ?_ 2 _ rfl; (with_reducible repeat (first | refine blk_drewN ?_ _ | refine blk_drew ?_ | refine blk_alloc ?_ _)); refine blk_put (cs := #[.int .i64 ((rd_T34 l1 x30_1).f0), .int .i64 0, .slice none 0 0]) ?_ 1 _ rfl; (with_reducible repeat (first | refine blk_drewN ?_ _ | refine blk_drew ?_ | refine blk_alloc ?_ _)); refine blk_put (cs := #[.int .i64 0, .int .i64 0, .slice none 0 0]) ?_ 0 _ rfl; (with_reducible repeat (first | refine blk_drewN ?_ _ | refine blk_drew ?_ | refine blk_alloc ?_ _)); exact BK219.out) NB219_209.out (by simp)); have n3_ := Aside0.mk (hb); have n4_ := Aside0.mk (hi); clear HO_218000; clear BK217; clear BK219; clear HB; clear HI209; have HO_218000 := n0_; have BK217 := n1_; have BK219 := n2_; have HB := n3_; have HI209 := n4_; clear n0_ n1_ n2_ n3_ n4_; (try clear hb); (try clear hb2); (try clear hk); (try clear hi); have hnb73 := NB217_209.out; have hnc73 := NB209_217.out; have hcz74_0 : w72.cell? ⟨gb217, 0, none⟩ = some (u218000) := (blk_cell BK217.out 0).trans rfl; have hcz74_1 : w72.cell? ⟨gb217, 1, none⟩ = some (.int .i64 x218001_1) := (blk_cell BK217.out 1).trans rfl; have hcz74_2 : w72.cell? ⟨gb217, 2, none⟩ = some (.int .i64 x218002_1) := (blk_cell BK217.out 2).trans rfl; have hcz74_3 : w72.cell? ⟨gb217, 3, none⟩ = some (.int .i64 x218003_1) := (blk_cell BK217.out 3).trans rfl; have hcz74_4 : w72.cell? ⟨gb217, 4, none⟩ = some (.bool x218004_1) := (blk_cell BK217.out 4).trans rfl; have hfz74_0 := blk_frozen BK217.out 0; have hfz74_1 := blk_frozen BK217.out 1; have hfz74_2 := blk_frozen BK217.out 2; have hfz74_3 := blk_frozen BK217.out 3; have hfz74_4 := blk_frozen BK217.out 4; have hcz75_0 : w72.cell? ⟨gb219, 0, none⟩ = some (.int .i64 ((rd_T34 l1 x30_1).f0)) := (blk_cell BK219.out 0).trans rfl; have hcz75_1 : w72.cell? ⟨gb219, 1, none⟩ = some (.int .i64 ((rd_T34 l1 x30_1).f1)) := (blk_cell BK219.out 1).trans rfl; have hcz75_2 : w72.cell? ⟨gb219, 2, none⟩ = some (.slice A218_2 ((rd_T34 l1 x30_1).f2).length c218_2) := (blk_cell BK219.out 2).trans rfl; have hfz75_0 := blk_frozen BK219.out 0; have hfz75_1 := blk_frozen BK219.out 1; have hfz75_2 := blk_frozen BK219.out 2; obtain ⟨Ao76, co76, eo76⟩ := Kd.R_slice HO_218000.out; subst eo76) | ((with_reducible refine gate_callee (f := 22) rfl ?_); refine goesL_ (some 79) rfl rfl Try.func22 (by kernel_rfl) rfl #[.agg #[.slice Ao76 x218000_1.length co76, .int .i64 x218001_1, .int .i64 x218002_1, .int .i64 x218003_1, .bool x218004_1], .int .i64 ((rd_T34 l1 x30_1).f1)] rfl (by (try simp only [List.map_toArray, List.map_cons, List.map_nil]); first | done | rfl | (simp only [List.length_drop, List.length_take]; rfl)) ?_; (with_reducible refine (ropewayref08_Crash.calls k1 _ _ x218000_1 x218001_1 x218002_1 x218003_1 x218004_1 ((rd_T34 l1 x30_1).f1) t259 t262 t263 t264 t265 _ ?side1 ?side2 A68.out).mono ?_); (case side1 => repeat (first | exact (Kd.R_reads' HO_218000.out).2.2 | (with_reducible refine Kd.C_alloc ?_ _) | (with_reducible refine Kd.C_drewN ?_ _) | (with_reducible refine Kd.C_drew ?_))); (case side2 => exact (Kd.R_reads' HO_218000.out).2.1); rintro e w77 ⟨v260, rfl, ho0, hb⟩; refine ⟨_, rfl, ?_⟩; have n0_ := Aside0.mk (Kd.R_elder' (by (with_reducible repeat (first | apply Kd.R_alloc | apply Kd.R_drewN | apply Kd.R_drew)); exact HO_218000.out) (Kd.R_base ho0) hb); have n1_ := Aside0.mk (Kd.R_lower (Kd.R_new' ho0 (Kd.R_lt (by (with_reducible repeat (first | apply Kd.R_alloc | apply Kd.R_drewN | apply Kd.R_drew)); exact HO_218000.out))) (below_size (by repeat (first | (with_reducible first | exact HB.out | apply below_alloc | apply pw_below_drewN | apply below_drew1 | refine below_set ?_ (IsU.ge HI209.out) | refine below_set ?_ GE217.out | refine below_set ?_ GE219.out) | exact HB.out)))); have n2_ := Aside0.mk (blk_below (g := gb217) (o := .cells #[.slice Ao76 x218000_1.length co76, .int .i64 x218001_1, .int .i64 x218002_1, .int .i64 x218003_1, .bool x218004_1] 41 (0, 0)) (by (with_reducible repeat (first | refine blk_drewN ?_ _ | refine blk_drew ?_ | refine blk_alloc ?_ _)); exact BK217.out) hb); have n3_ := Aside0.mk (IsU.next0 (by repeat (first | (with_reducible first | exact HI209.out | apply IsU.alloc | apply IsU.drewN | apply IsU.drew | exact IsU.far5 HI209.out ⟨_, BK217.out⟩ NB209_217.out | exact IsU.far3 HI209.out ⟨_, BK219.out⟩ NB209_219.out) | exact HI209.out)) hb ho0); have n4_ := Aside0.mk (blk_below (g := gb219) (o := .cells #[.int .i64 ((rd_T34 l1 x30_1).f0), .int .i64 ((rd_T34 l1 x30_1).f1), .slice A218_2 ((rd_T34 l1 x30_1).f2).length c218_2] 34 (0, 0)) (by (with_reducible repeat (first | refine blk_drewN ?_ _ | refine blk_drew ?_ | refine blk_alloc ?_ _)); exact BK219.out) hb); have n5_ := Aside0.mk (below_step (by repeat (first | (with_reducible first | exact HB.out | apply below_alloc | apply pw_below_drewN | apply below_drew1 | refine below_set ?_ (IsU.ge HI209.out) | refine below_set ?_ GE217.out | refine below_set ?_ GE219.out) | exact HB.out)) hb); clear HO_218000; clear BK217; clear HI209; clear BK219; clear HB; have HO_218000 := n0_; have HO261 := n1_; have BK217 := n2_; have HI209 := n3_; have BK219 := n4_; have HB := n5_; clear n0_ n1_ n2_ n3_ n4_ n5_; (try clear hb); (try clear hb2); (try clear hk); (try clear hi); (try clear ho0); obtain ⟨Ao78, co78, eo78⟩ := Kd.R_slice HO261.out; subst eo78; have hcz79_0 : w77.cell? ⟨gb217, 0, none⟩ = some (.slice Ao76 x218000_1.length co76) := (blk_cell BK217.out 0).trans rfl; have hcz79_1 : w77.cell? ⟨gb217, 1, none⟩ = some (.int .i64 x218001_1) := (blk_cell BK217.out 1).trans rfl; have hcz79_2 : w77.cell? ⟨gb217, 2, none⟩ = some (.int .i64 x218002_1) := (blk_cell BK217.out 2).trans rfl; have hcz79_3 : w77.cell? ⟨gb217, 3, none⟩ = some (.int .i64 x218003_1) := (blk_cell BK217.out 3).trans rfl; have hcz79_4 : w77.cell? ⟨gb217, 4, none⟩ = some (.bool x218004_1) := (blk_cell BK217.out 4).trans rfl; have hfz79_0 := blk_frozen BK217.out 0; have hfz79_1 := blk_frozen BK217.out 1; have hfz79_2 := blk_frozen BK217.out 2; have hfz79_3 := blk_frozen BK217.out 3; have hfz79_4 := blk_frozen BK217.out 4))
                        go_meet
                        case rel => exact ⟨_, (0), (0), (t254), (t255), (t256), (t257), (t258), (t259), (t262), (t263), (t264), (t265), (.slice Ao78 t259.length co78), (by first | rfl | (simp; done) | (simp [*]; done)), (by first | rfl | (simp; done) | (simp [*]; done)), H', ⟨by have := HK1.out; first | omega | exact Nat.le_refl _⟩, ⟨by (with_reducible repeat (first | apply Kd.R_alloc | apply Kd.R_drewN | apply Kd.R_drew)); exact Kd.R_mono (Kd.R_far (p := ⟨gb217, 4, none⟩) (Kd.R_far (p := ⟨gb217, 3, none⟩) (Kd.R_far (p := ⟨gb217, 2, none⟩) (Kd.R_far (p := ⟨gb217, 1, none⟩) (Kd.R_far (p := ⟨gb217, 0, none⟩) (Kd.R_types HO261.out BK217.out (by decide)) (fun _ hk => hk.2) (.slice Ao78 t259.length co78)) (fun _ hk => hk.2) (.int .i64 t262)) (fun _ hk => hk.2) (.int .i64 t263)) (fun _ hk => hk.2) (.int .i64 t264)) (fun _ hk => hk.2) (.bool t265)) (fun _ hk => trivial)⟩, ⟨by (with_reducible repeat (first | refine blk_drewN ?_ _ | refine blk_drew ?_ | refine blk_alloc ?_ _)); refine blk_put (cs := #[.slice Ao78 t259.length co78, .int .i64 t262, .int .i64 t263, .int .i64 t264, .bool x218004_1]) ?_ 4 _ rfl; (with_reducible repeat (first | refine blk_drewN ?_ _ | refine blk_drew ?_ | refine blk_alloc ?_ _)); refine blk_put (cs := #[.slice Ao78 t259.length co78, .int .i64 t262, .int .i64 t263, .int .i64 x218003_1, .bool x218004_1]) ?_ 3 _ rfl; (with_reducible repeat (first | refine blk_drewN ?_ _ | refine blk_drew ?_ | refine blk_alloc ?_ _)); refine blk_put (cs := #[.slice Ao78 t259.length co78, .int .i64 t262, .int .i64 x218002_1, .int .i64 x218003_1, .bool x218004_1]) ?_ 2 _ rfl; (with_reducible repeat (first | refine blk_drewN ?_ _ | refine blk_drew ?_ | refine blk_alloc ?_ _)); refine blk_put (cs := #[.slice Ao78 t259.length co78, .int .i64 x218001_1, .int .i64 x218002_1, .int .i64 x218003_1, .bool x218004_1]) ?_ 1 _ rfl; (with_reducible repeat (first | refine blk_drewN ?_ _ | refine blk_drew ?_ | refine blk_alloc ?_ _)); refine blk_put (cs := #[.slice Ao76 x218000_1.length co76, .int .i64 x218001_1, .int .i64 x218002_1, .int .i64 x218003_1, .bool x218004_1]) ?_ 0 _ rfl; (with_reducible repeat (first | refine blk_drewN ?_ _ | refine blk_drew ?_ | refine blk_alloc ?_ _)); exact BK217.out⟩, ⟨by repeat (first | (with_reducible first | exact HI209.out | apply IsU.alloc | apply IsU.drewN | apply IsU.drew | exact IsU.far5 HI209.out ⟨_, BK217.out⟩ NB209_217.out | exact IsU.far3 HI209.out ⟨_, BK219.out⟩ NB209_219.out) | exact HI209.out)⟩, ⟨by repeat (first | (with_reducible first | exact HB.out | apply below_alloc | apply pw_below_drewN | apply below_drew1 | refine below_set ?_ (IsU.ge HI209.out) | refine below_set ?_ GE217.out | refine below_set ?_ GE219.out) | exact HB.out)⟩⟩
                      · rw [if_neg c66] at H
                        have c66b0 : (((rd_T34 l1 x30_1).f0) == 2) = false := beq_eq_false_iff_ne.mpr c66
                        have c66b1 : (((rd_T34 l1 x30_1).f0) != 2) = true := bne_iff_ne.mpr c66
                        by_cases c80 : ((rd_T34 l1 x30_1).f0) = 3
                        · rw [if_pos c80] at H
                          have c80b0 : (((rd_T34 l1 x30_1).f0) == 3) = true := beq_iff_eq.mpr c80
                          have c80b1 : (((rd_T34 l1 x30_1).f0) != 3) = false := bne_eq_false_iff_eq.mpr c80
                          clear c80
                          replace H := Option.bind_eq_some_iff.mp H
                          obtain ⟨⟨t266, t267, t268, t269, t270⟩, A810, H⟩ := H
                          replace H : ((ropewayref08_Limit.f x218000_1 x218001_1 x218002_1 x218003_1 x218004_1 ((rd_T34 l1 x30_1).f1)).bind fun bt271 => (ropewaylaw08_DiskRuns.j2 k1 0 0 l1 (l1.length : Int) x30_1 t266 t267 t268 t269 t270 bt271.1 bt271.2.1 bt271.2.2.1 bt271.2.2.2.1 bt271.2.2.2.2)) = some r := H
                          have A81 := Aside0.mk A810
                          clear A810
                          replace H := Option.bind_eq_some_iff.mp H
                          obtain ⟨⟨t271, t274, t275, t276, t277⟩, A820, H⟩ := H
                          replace H : (ropewaylaw08_DiskRuns.j2 k1 0 0 l1 (l1.length : Int) x30_1 t266 t267 t268 t269 t270 t271 t274 t275 t276 t277) = some r := H
                          have A82 := Aside0.mk A820
                          clear A820
                          have H' := Aside0.mk H
                          clear H
                          have hnb83 := NB219_217.out
                          have hnc83 := NB217_219.out
                          have hnb84 := NB219_209.out
                          have hnc84 := NB209_219.out
                          have hcz85_0 : w26.cell? ⟨gb219, 0, none⟩ = some (.int .i64 0) := (blk_cell BK219.out 0).trans rfl
                          have hcz85_1 : w26.cell? ⟨gb219, 1, none⟩ = some (.int .i64 0) := (blk_cell BK219.out 1).trans rfl
                          have hcz85_2 : w26.cell? ⟨gb219, 2, none⟩ = some (.slice none 0 0) := (blk_cell BK219.out 2).trans rfl
                          have hfz85_0 := blk_frozen BK219.out 0
                          have hfz85_1 := blk_frozen BK219.out 1
                          have hfz85_2 := blk_frozen BK219.out 2
                          go_wp2_with (first | ((with_reducible refine gate_callee (f := 23) rfl ?_); refine goesL_ (some 85) rfl rfl Try.func23 (by kernel_rfl) rfl #[.pointer (some ⟨g209, 0, none⟩), .int .i64 ((rd_T34 l1 x30_1).f1)] rfl (by (try simp only [List.map_toArray, List.map_cons, List.map_nil]); first | done | rfl | (simp only [List.length_drop, List.length_take]; rfl)) ?_; (with_reducible refine (disk_Disk_Limit.calls (PS [u218000]) g209 x210000_1 x210001_1 x210002_1 x210003_1 x210004_1 ((rd_T34 l1 x30_1).f1) t266 t267 t268 t269 t270 w _ ?side1 ?side2 A81.out).mono ?_); (case side1 => repeat (first | (with_reducible first | exact HI209.out | apply IsU.alloc | apply IsU.drewN | apply IsU.drew | exact IsU.far5 HI209.out ⟨_, BK217.out⟩ NB209_217.out | exact IsU.far3 HI209.out ⟨_, BK219.out⟩ NB209_219.out) | exact HI209.out)); (case side2 => repeat (first | (with_reducible first | exact HB.out | apply below_alloc | apply pw_below_drewN | apply below_drew1 | refine below_set ?_ (IsU.ge HI209.out) | refine below_set ?_ GE217.out | refine below_set ?_ GE219.out) | exact HB.out)); rintro e w86 ⟨rfl, hi, hb, hk⟩; refine ⟨_, rfl, ?_⟩; have n0_ := Aside0.mk (Kd.R_mono (Kd.R_keep (IsU.apart (show IsU _ w _ g209 x210000_1 x210001_1 x210002_1 x210003_1 x210004_1 from by repeat (first | (with_reducible first | exact HI209.out | apply IsU.alloc | apply IsU.drewN | apply IsU.drew | exact IsU.far5 HI209.out ⟨_, BK217.out⟩ NB209_217.out | exact IsU.far3 HI209.out ⟨_, BK219.out⟩ NB209_219.out) | exact HI209.out)) (by (with_reducible repeat (first | apply Kd.R_alloc | apply Kd.R_drewN | apply Kd.R_drew)); exact (Kd.R_mono (Kd.R_far (p := ⟨gb219, 2, none⟩) (Kd.R_far (p := ⟨gb219, 1, none⟩) (Kd.R_far (p := ⟨gb219, 0, none⟩) (Kd.R_types HO_218000.out BK219.out (by decide)) (fun _ hk => hk.2) (.int .i64 ((rd_T34 l1 x30_1).f0))) (fun _ hk => hk.2) (.int .i64 ((rd_T34 l1 x30_1).f1))) (fun _ hk => hk.2) (.slice A218_2 ((rd_T34 l1 x30_1).f2).length c218_2)) (fun _ h_ => h_.1))) (by decide)) hk (fun _ h => h.2)) (fun _ h => h.1)); have n1_ := Aside0.mk (KeepBut.blk hk (g' := gb217) (o := .cells #[u218000, .int .i64 x218001_1, .int .i64 x218002_1, .int .i64 x218003_1, .bool x218004_1] 41 (0, 0)) (by (with_reducible repeat (first | refine blk_drewN ?_ _ | refine blk_drew ?_ | refine blk_alloc ?_ _)); refine blk_far ?_ NB217_219.out _; (with_reducible repeat (first | refine blk_drewN ?_ _ | refine blk_drew ?_ | refine blk_alloc ?_ _)); refine blk_far ?_ NB217_219.out _; (with_reducible repeat (first | refine blk_drewN ?_ _ | refine blk_drew ?_ | refine blk_alloc ?_ _)); refine blk_far ?_ NB217_219.out _; (with_reducible repeat (first | refine blk_drewN ?_ _ | refine blk_drew ?_ | refine blk_alloc ?_ _)); exact BK217.out) NB217_209.out (by simp)); have n2_ := Aside0.mk (KeepBut.blk hk (g' := gb219) (o := .cells #[.int .i64 ((rd_T34 l1 x30_1).f0), .int .i64 ((rd_T34 l1 x30_1).f1), .slice A218_2 ((rd_T34 l1 x30_1).f2).length c218_2] 34 (0, 0)) (by (with_reducible repeat (first | refine blk_drewN ?_ _ | refine blk_drew ?_ | refine blk_alloc ?_ _)); refine blk_put (cs := #[.int .i64 ((rd_T34 l1 x30_1).f0), .int .i64 ((rd_T34 l1 x30_1).f1), .slice none 0 0]) ?_ 2 _ rfl; (with_reducible repeat (first | refine blk_drewN ?_ _ | refine blk_drew ?_ | refine blk_alloc ?_ _)); refine blk_put (cs := #[.int .i64 ((rd_T34 l1 x30_1).f0), .int .i64 0, .slice none 0 0]) ?_ 1 _ rfl; (with_reducible repeat (first | refine blk_drewN ?_ _ | refine blk_drew ?_ | refine blk_alloc ?_ _)); refine blk_put (cs := #[.int .i64 0, .int .i64 0, .slice none 0 0]) ?_ 0 _ rfl; (with_reducible repeat (first | refine blk_drewN ?_ _ | refine blk_drew ?_ | refine blk_alloc ?_ _)); exact BK219.out) NB219_209.out (by simp)); have n3_ := Aside0.mk (hb); have n4_ := Aside0.mk (hi); clear HO_218000; clear BK217; clear BK219; clear HB; clear HI209; have HO_218000 := n0_; have BK217 := n1_; have BK219 := n2_; have HB := n3_; have HI209 := n4_; clear n0_ n1_ n2_ n3_ n4_; (try clear hb); (try clear hb2); (try clear hk); (try clear hi); have hnb87 := NB217_209.out; have hnc87 := NB209_217.out; have hcz88_0 : w86.cell? ⟨gb217, 0, none⟩ = some (u218000) := (blk_cell BK217.out 0).trans rfl; have hcz88_1 : w86.cell? ⟨gb217, 1, none⟩ = some (.int .i64 x218001_1) := (blk_cell BK217.out 1).trans rfl; have hcz88_2 : w86.cell? ⟨gb217, 2, none⟩ = some (.int .i64 x218002_1) := (blk_cell BK217.out 2).trans rfl; have hcz88_3 : w86.cell? ⟨gb217, 3, none⟩ = some (.int .i64 x218003_1) := (blk_cell BK217.out 3).trans rfl; have hcz88_4 : w86.cell? ⟨gb217, 4, none⟩ = some (.bool x218004_1) := (blk_cell BK217.out 4).trans rfl; have hfz88_0 := blk_frozen BK217.out 0; have hfz88_1 := blk_frozen BK217.out 1; have hfz88_2 := blk_frozen BK217.out 2; have hfz88_3 := blk_frozen BK217.out 3; have hfz88_4 := blk_frozen BK217.out 4; have hcz89_0 : w86.cell? ⟨gb219, 0, none⟩ = some (.int .i64 ((rd_T34 l1 x30_1).f0)) := (blk_cell BK219.out 0).trans rfl; have hcz89_1 : w86.cell? ⟨gb219, 1, none⟩ = some (.int .i64 ((rd_T34 l1 x30_1).f1)) := (blk_cell BK219.out 1).trans rfl; have hcz89_2 : w86.cell? ⟨gb219, 2, none⟩ = some (.slice A218_2 ((rd_T34 l1 x30_1).f2).length c218_2) := (blk_cell BK219.out 2).trans rfl; have hfz89_0 := blk_frozen BK219.out 0; have hfz89_1 := blk_frozen BK219.out 1; have hfz89_2 := blk_frozen BK219.out 2; obtain ⟨Ao90, co90, eo90⟩ := Kd.R_slice HO_218000.out; subst eo90) | ((with_reducible refine gate_callee (f := 24) rfl ?_); refine goesL_ (some 89) rfl rfl Try.func24 (by kernel_rfl) rfl #[.agg #[.slice Ao90 x218000_1.length co90, .int .i64 x218001_1, .int .i64 x218002_1, .int .i64 x218003_1, .bool x218004_1], .int .i64 ((rd_T34 l1 x30_1).f1)] rfl (by (try simp only [List.map_toArray, List.map_cons, List.map_nil]); first | done | rfl | (simp only [List.length_drop, List.length_take]; rfl)) ?_; (with_reducible refine (ropewayref08_Limit.calls (fun k_ => some k_ = (.slice Ao90 x218000_1.length co90 : Value).ownBlock) (.slice Ao90 x218000_1.length co90) x218000_1 x218001_1 x218002_1 x218003_1 x218004_1 ((rd_T34 l1 x30_1).f1) t271 t274 t275 t276 t277 w _ ?side1 ?side2 A82.out).mono ?_); (case side1 => repeat (first | (with_reducible first | exact HB.out | apply below_alloc | apply pw_below_drewN | apply below_drew1 | refine below_set ?_ (IsU.ge HI209.out) | refine below_set ?_ GE217.out | refine below_set ?_ GE219.out) | exact HB.out)); (case side2 => exact Kd.R_tight rfl HO_218000.out); rintro e w91 ⟨v272, rfl, ho0, hb, hkp⟩; refine ⟨_, rfl, ?_⟩; have n0_ := Aside0.mk (blk_kept (by (with_reducible repeat (first | refine blk_drewN ?_ _ | refine blk_drew ?_ | refine blk_alloc ?_ _)); exact BK217.out) hkp (fun hs_ => (fun e_ => (Kd.R_ne HO_218000.out BK217.out (by decide)) e_) hs_)); have n1_ := Aside0.mk (IsU.kept1 (by repeat (first | (with_reducible first | exact HI209.out | apply IsU.alloc | apply IsU.drewN | apply IsU.drew | exact IsU.far5 HI209.out ⟨_, BK217.out⟩ NB209_217.out | exact IsU.far3 HI209.out ⟨_, BK219.out⟩ NB209_219.out) | exact HI209.out)) hkp (fun hs_ => (fun e_ => (IsU.own_ne HI209.out HO_218000.out (by decide)) e_) hs_) ho0); have n2_ := Aside0.mk (blk_kept (by (with_reducible repeat (first | refine blk_drewN ?_ _ | refine blk_drew ?_ | refine blk_alloc ?_ _)); exact BK219.out) hkp (fun hs_ => (fun e_ => (Kd.R_ne HO_218000.out BK219.out (by decide)) e_) hs_)); have n3_ := Aside0.mk (Kd.R_mono (ok' := fun k_ => True) ho0 (fun k_ hk_ => trivial)); have n4_ := Aside0.mk (hb); clear BK217; clear HI209; clear BK219; clear HB; clear HO_218000; have BK217 := n0_; have HI209 := n1_; have BK219 := n2_; have HO273 := n3_; have HB := n4_; clear n0_ n1_ n2_ n3_ n4_; (try clear hb); (try clear hkp); (try clear ho0); obtain ⟨Ao92, co92, eo92⟩ := Kd.R_slice HO273.out; subst eo92; have hcz93_0 : w91.cell? ⟨gb217, 0, none⟩ = some (.slice Ao90 x218000_1.length co90) := (blk_cell BK217.out 0).trans rfl; have hcz93_1 : w91.cell? ⟨gb217, 1, none⟩ = some (.int .i64 x218001_1) := (blk_cell BK217.out 1).trans rfl; have hcz93_2 : w91.cell? ⟨gb217, 2, none⟩ = some (.int .i64 x218002_1) := (blk_cell BK217.out 2).trans rfl; have hcz93_3 : w91.cell? ⟨gb217, 3, none⟩ = some (.int .i64 x218003_1) := (blk_cell BK217.out 3).trans rfl; have hcz93_4 : w91.cell? ⟨gb217, 4, none⟩ = some (.bool x218004_1) := (blk_cell BK217.out 4).trans rfl; have hfz93_0 := blk_frozen BK217.out 0; have hfz93_1 := blk_frozen BK217.out 1; have hfz93_2 := blk_frozen BK217.out 2; have hfz93_3 := blk_frozen BK217.out 3; have hfz93_4 := blk_frozen BK217.out 4))
                          go_meet
                          case rel => exact ⟨_, (0), (0), (t266), (t267), (t268), (t269), (t270), (t271), (t274), (t275), (t276), (t277), (.slice Ao92 t271.length co92), (by first | rfl | (simp; done) | (simp [*]; done)), (by first | rfl | (simp; done) | (simp [*]; done)), H', ⟨by have := HK1.out; first | omega | exact Nat.le_refl _⟩, ⟨by (with_reducible repeat (first | apply Kd.R_alloc | apply Kd.R_drewN | apply Kd.R_drew)); exact Kd.R_mono (Kd.R_far (p := ⟨gb217, 4, none⟩) (Kd.R_far (p := ⟨gb217, 3, none⟩) (Kd.R_far (p := ⟨gb217, 2, none⟩) (Kd.R_far (p := ⟨gb217, 1, none⟩) (Kd.R_far (p := ⟨gb217, 0, none⟩) (Kd.R_types HO273.out BK217.out (by decide)) (fun _ hk => hk.2) (.slice Ao92 t271.length co92)) (fun _ hk => hk.2) (.int .i64 t274)) (fun _ hk => hk.2) (.int .i64 t275)) (fun _ hk => hk.2) (.int .i64 t276)) (fun _ hk => hk.2) (.bool t277)) (fun _ hk => trivial)⟩, ⟨by (with_reducible repeat (first | refine blk_drewN ?_ _ | refine blk_drew ?_ | refine blk_alloc ?_ _)); refine blk_put (cs := #[.slice Ao92 t271.length co92, .int .i64 t274, .int .i64 t275, .int .i64 t276, .bool x218004_1]) ?_ 4 _ rfl; (with_reducible repeat (first | refine blk_drewN ?_ _ | refine blk_drew ?_ | refine blk_alloc ?_ _)); refine blk_put (cs := #[.slice Ao92 t271.length co92, .int .i64 t274, .int .i64 t275, .int .i64 x218003_1, .bool x218004_1]) ?_ 3 _ rfl; (with_reducible repeat (first | refine blk_drewN ?_ _ | refine blk_drew ?_ | refine blk_alloc ?_ _)); refine blk_put (cs := #[.slice Ao92 t271.length co92, .int .i64 t274, .int .i64 x218002_1, .int .i64 x218003_1, .bool x218004_1]) ?_ 2 _ rfl; (with_reducible repeat (first | refine blk_drewN ?_ _ | refine blk_drew ?_ | refine blk_alloc ?_ _)); refine blk_put (cs := #[.slice Ao92 t271.length co92, .int .i64 x218001_1, .int .i64 x218002_1, .int .i64 x218003_1, .bool x218004_1]) ?_ 1 _ rfl; (with_reducible repeat (first | refine blk_drewN ?_ _ | refine blk_drew ?_ | refine blk_alloc ?_ _)); refine blk_put (cs := #[.slice Ao90 x218000_1.length co90, .int .i64 x218001_1, .int .i64 x218002_1, .int .i64 x218003_1, .bool x218004_1]) ?_ 0 _ rfl; (with_reducible repeat (first | refine blk_drewN ?_ _ | refine blk_drew ?_ | refine blk_alloc ?_ _)); exact BK217.out⟩, ⟨by repeat (first | (with_reducible first | exact HI209.out | apply IsU.alloc | apply IsU.drewN | apply IsU.drew | exact IsU.far5 HI209.out ⟨_, BK217.out⟩ NB209_217.out | exact IsU.far3 HI209.out ⟨_, BK219.out⟩ NB209_219.out) | exact HI209.out)⟩, ⟨by repeat (first | (with_reducible first | exact HB.out | apply below_alloc | apply pw_below_drewN | apply below_drew1 | refine below_set ?_ (IsU.ge HI209.out) | refine below_set ?_ GE217.out | refine below_set ?_ GE219.out) | exact HB.out)⟩⟩
                        · rw [if_neg c80] at H
                          have c80b0 : (((rd_T34 l1 x30_1).f0) == 3) = false := beq_eq_false_iff_ne.mpr c80
                          have c80b1 : (((rd_T34 l1 x30_1).f0) != 3) = true := bne_iff_ne.mpr c80
                          by_cases c94 : ((rd_T34 l1 x30_1).f0) = 4
                          · rw [if_pos c94] at H
                            have c94b0 : (((rd_T34 l1 x30_1).f0) == 4) = true := beq_iff_eq.mpr c94
                            have c94b1 : (((rd_T34 l1 x30_1).f0) != 4) = false := bne_eq_false_iff_eq.mpr c94
                            clear c94
                            replace H := Option.bind_eq_some_iff.mp H
                            obtain ⟨⟨t278, t279, t280, t281, t282⟩, A950, H⟩ := H
                            replace H : ((ropewayref08_Cut.f k1 x218000_1 x218001_1 x218002_1 x218003_1 x218004_1 ((rd_T34 l1 x30_1).f1)).bind fun bt283 => (ropewaylaw08_DiskRuns.j2 k1 0 0 l1 (l1.length : Int) x30_1 t278 t279 t280 t281 t282 bt283.1 bt283.2.1 bt283.2.2.1 bt283.2.2.2.1 bt283.2.2.2.2)) = some r := H
                            have A95 := Aside0.mk A950
                            clear A950
                            replace H := Option.bind_eq_some_iff.mp H
                            obtain ⟨⟨t283, t286, t287, t288, t289⟩, A960, H⟩ := H
                            replace H : (ropewaylaw08_DiskRuns.j2 k1 0 0 l1 (l1.length : Int) x30_1 t278 t279 t280 t281 t282 t283 t286 t287 t288 t289) = some r := H
                            have A96 := Aside0.mk A960
                            clear A960
                            have H' := Aside0.mk H
                            clear H
                            have hnb97 := NB219_217.out
                            have hnc97 := NB217_219.out
                            have hnb98 := NB219_209.out
                            have hnc98 := NB209_219.out
                            have hcz99_0 : w26.cell? ⟨gb219, 0, none⟩ = some (.int .i64 0) := (blk_cell BK219.out 0).trans rfl
                            have hcz99_1 : w26.cell? ⟨gb219, 1, none⟩ = some (.int .i64 0) := (blk_cell BK219.out 1).trans rfl
                            have hcz99_2 : w26.cell? ⟨gb219, 2, none⟩ = some (.slice none 0 0) := (blk_cell BK219.out 2).trans rfl
                            have hfz99_0 := blk_frozen BK219.out 0
                            have hfz99_1 := blk_frozen BK219.out 1
                            have hfz99_2 := blk_frozen BK219.out 2
                            go_wp2_with (first | ((with_reducible refine gate_callee (f := 18) rfl ?_); refine goesL_ (some 95) rfl rfl Try.func18 (by kernel_rfl) rfl #[.pointer (some ⟨g209, 0, none⟩), .int .i64 ((rd_T34 l1 x30_1).f1)] rfl (by (try simp only [List.map_toArray, List.map_cons, List.map_nil]); first | done | rfl | (simp only [List.length_drop, List.length_take]; rfl)) ?_; (with_reducible refine (disk_Disk_Cut.calls (PS [u218000]) g209 x210000_1 x210001_1 x210002_1 x210003_1 x210004_1 ((rd_T34 l1 x30_1).f1) t278 t279 t280 t281 t282 w _ ?side1 ?side2 A95.out).mono ?_); (case side1 => repeat (first | (with_reducible first | exact HI209.out | apply IsU.alloc | apply IsU.drewN | apply IsU.drew | exact IsU.far5 HI209.out ⟨_, BK217.out⟩ NB209_217.out | exact IsU.far3 HI209.out ⟨_, BK219.out⟩ NB209_219.out) | exact HI209.out)); (case side2 => repeat (first | (with_reducible first | exact HB.out | apply below_alloc | apply pw_below_drewN | apply below_drew1 | refine below_set ?_ (IsU.ge HI209.out) | refine below_set ?_ GE217.out | refine below_set ?_ GE219.out) | exact HB.out)); rintro e w100 ⟨rfl, hi, hb, hk⟩; refine ⟨_, rfl, ?_⟩; have n0_ := Aside0.mk (Kd.R_mono (Kd.R_keep (IsU.apart (show IsU _ w _ g209 x210000_1 x210001_1 x210002_1 x210003_1 x210004_1 from by repeat (first | (with_reducible first | exact HI209.out | apply IsU.alloc | apply IsU.drewN | apply IsU.drew | exact IsU.far5 HI209.out ⟨_, BK217.out⟩ NB209_217.out | exact IsU.far3 HI209.out ⟨_, BK219.out⟩ NB209_219.out) | exact HI209.out)) (by (with_reducible repeat (first | apply Kd.R_alloc | apply Kd.R_drewN | apply Kd.R_drew)); exact (Kd.R_mono (Kd.R_far (p := ⟨gb219, 2, none⟩) (Kd.R_far (p := ⟨gb219, 1, none⟩) (Kd.R_far (p := ⟨gb219, 0, none⟩) (Kd.R_types HO_218000.out BK219.out (by decide)) (fun _ hk => hk.2) (.int .i64 ((rd_T34 l1 x30_1).f0))) (fun _ hk => hk.2) (.int .i64 ((rd_T34 l1 x30_1).f1))) (fun _ hk => hk.2) (.slice A218_2 ((rd_T34 l1 x30_1).f2).length c218_2)) (fun _ h_ => h_.1))) (by decide)) hk (fun _ h => h.2)) (fun _ h => h.1)); have n1_ := Aside0.mk (KeepBut.blk hk (g' := gb217) (o := .cells #[u218000, .int .i64 x218001_1, .int .i64 x218002_1, .int .i64 x218003_1, .bool x218004_1] 41 (0, 0)) (by (with_reducible repeat (first | refine blk_drewN ?_ _ | refine blk_drew ?_ | refine blk_alloc ?_ _)); refine blk_far ?_ NB217_219.out _; (with_reducible repeat (first | refine blk_drewN ?_ _ | refine blk_drew ?_ | refine blk_alloc ?_ _)); refine blk_far ?_ NB217_219.out _; (with_reducible repeat (first | refine blk_drewN ?_ _ | refine blk_drew ?_ | refine blk_alloc ?_ _)); refine blk_far ?_ NB217_219.out _; (with_reducible repeat (first | refine blk_drewN ?_ _ | refine blk_drew ?_ | refine blk_alloc ?_ _)); exact BK217.out) NB217_209.out (by simp)); have n2_ := Aside0.mk (KeepBut.blk hk (g' := gb219) (o := .cells #[.int .i64 ((rd_T34 l1 x30_1).f0), .int .i64 ((rd_T34 l1 x30_1).f1), .slice A218_2 ((rd_T34 l1 x30_1).f2).length c218_2] 34 (0, 0)) (by (with_reducible repeat (first | refine blk_drewN ?_ _ | refine blk_drew ?_ | refine blk_alloc ?_ _)); refine blk_put (cs := #[.int .i64 ((rd_T34 l1 x30_1).f0), .int .i64 ((rd_T34 l1 x30_1).f1), .slice none 0 0]) ?_ 2 _ rfl; (with_reducible repeat (first | refine blk_drewN ?_ _ | refine blk_drew ?_ | refine blk_alloc ?_ _)); refine blk_put (cs := #[.int .i64 ((rd_T34 l1 x30_1).f0), .int .i64 0, .slice none 0 0]) ?_ 1 _ rfl; (with_reducible repeat (first | refine blk_drewN ?_ _ | refine blk_drew ?_ | refine blk_alloc ?_ _)); refine blk_put (cs := #[.int .i64 0, .int .i64 0, .slice none 0 0]) ?_ 0 _ rfl; (with_reducible repeat (first | refine blk_drewN ?_ _ | refine blk_drew ?_ | refine blk_alloc ?_ _)); exact BK219.out) NB219_209.out (by simp)); have n3_ := Aside0.mk (hb); have n4_ := Aside0.mk (hi); clear HO_218000; clear BK217; clear BK219; clear HB; clear HI209; have HO_218000 := n0_; have BK217 := n1_; have BK219 := n2_; have HB := n3_; have HI209 := n4_; clear n0_ n1_ n2_ n3_ n4_; (try clear hb); (try clear hb2); (try clear hk); (try clear hi); have hnb101 := NB217_209.out; have hnc101 := NB209_217.out; have hcz102_0 : w100.cell? ⟨gb217, 0, none⟩ = some (u218000) := (blk_cell BK217.out 0).trans rfl; have hcz102_1 : w100.cell? ⟨gb217, 1, none⟩ = some (.int .i64 x218001_1) := (blk_cell BK217.out 1).trans rfl; have hcz102_2 : w100.cell? ⟨gb217, 2, none⟩ = some (.int .i64 x218002_1) := (blk_cell BK217.out 2).trans rfl; have hcz102_3 : w100.cell? ⟨gb217, 3, none⟩ = some (.int .i64 x218003_1) := (blk_cell BK217.out 3).trans rfl; have hcz102_4 : w100.cell? ⟨gb217, 4, none⟩ = some (.bool x218004_1) := (blk_cell BK217.out 4).trans rfl; have hfz102_0 := blk_frozen BK217.out 0; have hfz102_1 := blk_frozen BK217.out 1; have hfz102_2 := blk_frozen BK217.out 2; have hfz102_3 := blk_frozen BK217.out 3; have hfz102_4 := blk_frozen BK217.out 4; have hcz103_0 : w100.cell? ⟨gb219, 0, none⟩ = some (.int .i64 ((rd_T34 l1 x30_1).f0)) := (blk_cell BK219.out 0).trans rfl; have hcz103_1 : w100.cell? ⟨gb219, 1, none⟩ = some (.int .i64 ((rd_T34 l1 x30_1).f1)) := (blk_cell BK219.out 1).trans rfl; have hcz103_2 : w100.cell? ⟨gb219, 2, none⟩ = some (.slice A218_2 ((rd_T34 l1 x30_1).f2).length c218_2) := (blk_cell BK219.out 2).trans rfl; have hfz103_0 := blk_frozen BK219.out 0; have hfz103_1 := blk_frozen BK219.out 1; have hfz103_2 := blk_frozen BK219.out 2; obtain ⟨Ao104, co104, eo104⟩ := Kd.R_slice HO_218000.out; subst eo104) | ((with_reducible refine gate_callee (f := 25) rfl ?_); refine goesL_ (some 99) rfl rfl Try.func25 (by kernel_rfl) rfl #[.agg #[.slice Ao104 x218000_1.length co104, .int .i64 x218001_1, .int .i64 x218002_1, .int .i64 x218003_1, .bool x218004_1], .int .i64 ((rd_T34 l1 x30_1).f1)] rfl (by (try simp only [List.map_toArray, List.map_cons, List.map_nil]); first | done | rfl | (simp only [List.length_drop, List.length_take]; rfl)) ?_; (with_reducible refine (ropewayref08_Cut.calls k1 (fun k_ => some k_ = (.slice Ao104 x218000_1.length co104 : Value).ownBlock) (.slice Ao104 x218000_1.length co104) x218000_1 x218001_1 x218002_1 x218003_1 x218004_1 ((rd_T34 l1 x30_1).f1) t283 t286 t287 t288 t289 w _ ?side1 ?side2 A96.out).mono ?_); (case side1 => repeat (first | (with_reducible first | exact HB.out | apply below_alloc | apply pw_below_drewN | apply below_drew1 | refine below_set ?_ (IsU.ge HI209.out) | refine below_set ?_ GE217.out | refine below_set ?_ GE219.out) | exact HB.out)); (case side2 => exact Kd.R_tight rfl HO_218000.out); rintro e w105 ⟨v284, rfl, ho0, hb, hkp⟩; refine ⟨_, rfl, ?_⟩; have n0_ := Aside0.mk (blk_kept (by (with_reducible repeat (first | refine blk_drewN ?_ _ | refine blk_drew ?_ | refine blk_alloc ?_ _)); exact BK217.out) hkp (fun hs_ => (fun e_ => (Kd.R_ne HO_218000.out BK217.out (by decide)) e_) hs_)); have n1_ := Aside0.mk (IsU.kept1 (by repeat (first | (with_reducible first | exact HI209.out | apply IsU.alloc | apply IsU.drewN | apply IsU.drew | exact IsU.far5 HI209.out ⟨_, BK217.out⟩ NB209_217.out | exact IsU.far3 HI209.out ⟨_, BK219.out⟩ NB209_219.out) | exact HI209.out)) hkp (fun hs_ => (fun e_ => (IsU.own_ne HI209.out HO_218000.out (by decide)) e_) hs_) ho0); have n2_ := Aside0.mk (blk_kept (by (with_reducible repeat (first | refine blk_drewN ?_ _ | refine blk_drew ?_ | refine blk_alloc ?_ _)); exact BK219.out) hkp (fun hs_ => (fun e_ => (Kd.R_ne HO_218000.out BK219.out (by decide)) e_) hs_)); have n3_ := Aside0.mk (Kd.R_mono (ok' := fun k_ => True) ho0 (fun k_ hk_ => trivial)); have n4_ := Aside0.mk (hb); clear BK217; clear HI209; clear BK219; clear HB; clear HO_218000; have BK217 := n0_; have HI209 := n1_; have BK219 := n2_; have HO285 := n3_; have HB := n4_; clear n0_ n1_ n2_ n3_ n4_; (try clear hb); (try clear hkp); (try clear ho0); obtain ⟨Ao106, co106, eo106⟩ := Kd.R_slice HO285.out; subst eo106; have hcz107_0 : w105.cell? ⟨gb217, 0, none⟩ = some (.slice Ao104 x218000_1.length co104) := (blk_cell BK217.out 0).trans rfl; have hcz107_1 : w105.cell? ⟨gb217, 1, none⟩ = some (.int .i64 x218001_1) := (blk_cell BK217.out 1).trans rfl; have hcz107_2 : w105.cell? ⟨gb217, 2, none⟩ = some (.int .i64 x218002_1) := (blk_cell BK217.out 2).trans rfl; have hcz107_3 : w105.cell? ⟨gb217, 3, none⟩ = some (.int .i64 x218003_1) := (blk_cell BK217.out 3).trans rfl; have hcz107_4 : w105.cell? ⟨gb217, 4, none⟩ = some (.bool x218004_1) := (blk_cell BK217.out 4).trans rfl; have hfz107_0 := blk_frozen BK217.out 0; have hfz107_1 := blk_frozen BK217.out 1; have hfz107_2 := blk_frozen BK217.out 2; have hfz107_3 := blk_frozen BK217.out 3; have hfz107_4 := blk_frozen BK217.out 4))
                            go_meet
                            case rel => exact ⟨_, (0), (0), (t278), (t279), (t280), (t281), (t282), (t283), (t286), (t287), (t288), (t289), (.slice Ao106 t283.length co106), (by first | rfl | (simp; done) | (simp [*]; done)), (by first | rfl | (simp; done) | (simp [*]; done)), H', ⟨by have := HK1.out; first | omega | exact Nat.le_refl _⟩, ⟨by (with_reducible repeat (first | apply Kd.R_alloc | apply Kd.R_drewN | apply Kd.R_drew)); exact Kd.R_mono (Kd.R_far (p := ⟨gb217, 4, none⟩) (Kd.R_far (p := ⟨gb217, 3, none⟩) (Kd.R_far (p := ⟨gb217, 2, none⟩) (Kd.R_far (p := ⟨gb217, 1, none⟩) (Kd.R_far (p := ⟨gb217, 0, none⟩) (Kd.R_types HO285.out BK217.out (by decide)) (fun _ hk => hk.2) (.slice Ao106 t283.length co106)) (fun _ hk => hk.2) (.int .i64 t286)) (fun _ hk => hk.2) (.int .i64 t287)) (fun _ hk => hk.2) (.int .i64 t288)) (fun _ hk => hk.2) (.bool t289)) (fun _ hk => trivial)⟩, ⟨by (with_reducible repeat (first | refine blk_drewN ?_ _ | refine blk_drew ?_ | refine blk_alloc ?_ _)); refine blk_put (cs := #[.slice Ao106 t283.length co106, .int .i64 t286, .int .i64 t287, .int .i64 t288, .bool x218004_1]) ?_ 4 _ rfl; (with_reducible repeat (first | refine blk_drewN ?_ _ | refine blk_drew ?_ | refine blk_alloc ?_ _)); refine blk_put (cs := #[.slice Ao106 t283.length co106, .int .i64 t286, .int .i64 t287, .int .i64 x218003_1, .bool x218004_1]) ?_ 3 _ rfl; (with_reducible repeat (first | refine blk_drewN ?_ _ | refine blk_drew ?_ | refine blk_alloc ?_ _)); refine blk_put (cs := #[.slice Ao106 t283.length co106, .int .i64 t286, .int .i64 x218002_1, .int .i64 x218003_1, .bool x218004_1]) ?_ 2 _ rfl; (with_reducible repeat (first | refine blk_drewN ?_ _ | refine blk_drew ?_ | refine blk_alloc ?_ _)); refine blk_put (cs := #[.slice Ao106 t283.length co106, .int .i64 x218001_1, .int .i64 x218002_1, .int .i64 x218003_1, .bool x218004_1]) ?_ 1 _ rfl; (with_reducible repeat (first | refine blk_drewN ?_ _ | refine blk_drew ?_ | refine blk_alloc ?_ _)); refine blk_put (cs := #[.slice Ao104 x218000_1.length co104, .int .i64 x218001_1, .int .i64 x218002_1, .int .i64 x218003_1, .bool x218004_1]) ?_ 0 _ rfl; (with_reducible repeat (first | refine blk_drewN ?_ _ | refine blk_drew ?_ | refine blk_alloc ?_ _)); exact BK217.out⟩, ⟨by repeat (first | (with_reducible first | exact HI209.out | apply IsU.alloc | apply IsU.drewN | apply IsU.drew | exact IsU.far5 HI209.out ⟨_, BK217.out⟩ NB209_217.out | exact IsU.far3 HI209.out ⟨_, BK219.out⟩ NB209_219.out) | exact HI209.out)⟩, ⟨by repeat (first | (with_reducible first | exact HB.out | apply below_alloc | apply pw_below_drewN | apply below_drew1 | refine below_set ?_ (IsU.ge HI209.out) | refine below_set ?_ GE217.out | refine below_set ?_ GE219.out) | exact HB.out)⟩⟩
                          · rw [if_neg c94] at H
                            have c94b0 : (((rd_T34 l1 x30_1).f0) == 4) = false := beq_eq_false_iff_ne.mpr c94
                            have c94b1 : (((rd_T34 l1 x30_1).f0) != 4) = true := bne_iff_ne.mpr c94
                            by_cases c108 : ((rd_T34 l1 x30_1).f0) = 5
                            · rw [if_pos c108] at H
                              have c108b0 : (((rd_T34 l1 x30_1).f0) == 5) = true := beq_iff_eq.mpr c108
                              have c108b1 : (((rd_T34 l1 x30_1).f0) != 5) = false := bne_eq_false_iff_eq.mpr c108
                              clear c108
                              replace H := Option.bind_eq_some_iff.mp H
                              obtain ⟨⟨t290, t291, t292, t293, t294⟩, A1090, H⟩ := H
                              replace H : ((ropewayref08_Fuse.f x218000_1 x218001_1 x218002_1 x218003_1 x218004_1 ((rd_T34 l1 x30_1).f1)).bind fun bt295 => (ropewaylaw08_DiskRuns.j2 k1 0 0 l1 (l1.length : Int) x30_1 t290 t291 t292 t293 t294 bt295.1 bt295.2.1 bt295.2.2.1 bt295.2.2.2.1 bt295.2.2.2.2)) = some r := H
                              have A109 := Aside0.mk A1090
                              clear A1090
                              replace H := Option.bind_eq_some_iff.mp H
                              obtain ⟨⟨t295, t298, t299, t300, t301⟩, A1100, H⟩ := H
                              replace H : (ropewaylaw08_DiskRuns.j2 k1 0 0 l1 (l1.length : Int) x30_1 t290 t291 t292 t293 t294 t295 t298 t299 t300 t301) = some r := H
                              have A110 := Aside0.mk A1100
                              clear A1100
                              have H' := Aside0.mk H
                              clear H
                              have hnb111 := NB219_217.out
                              have hnc111 := NB217_219.out
                              have hnb112 := NB219_209.out
                              have hnc112 := NB209_219.out
                              have hcz113_0 : w26.cell? ⟨gb219, 0, none⟩ = some (.int .i64 0) := (blk_cell BK219.out 0).trans rfl
                              have hcz113_1 : w26.cell? ⟨gb219, 1, none⟩ = some (.int .i64 0) := (blk_cell BK219.out 1).trans rfl
                              have hcz113_2 : w26.cell? ⟨gb219, 2, none⟩ = some (.slice none 0 0) := (blk_cell BK219.out 2).trans rfl
                              have hfz113_0 := blk_frozen BK219.out 0
                              have hfz113_1 := blk_frozen BK219.out 1
                              have hfz113_2 := blk_frozen BK219.out 2
                              go_wp2_with (first | ((with_reducible refine gate_callee (f := 15) rfl ?_); refine goesL_ (some 105) rfl rfl Try.func15 (by kernel_rfl) rfl #[.pointer (some ⟨g209, 0, none⟩), .int .i64 ((rd_T34 l1 x30_1).f1)] rfl (by (try simp only [List.map_toArray, List.map_cons, List.map_nil]); first | done | rfl | (simp only [List.length_drop, List.length_take]; rfl)) ?_; (with_reducible refine (disk_Disk_Fuse.calls (PS [u218000]) g209 x210000_1 x210001_1 x210002_1 x210003_1 x210004_1 ((rd_T34 l1 x30_1).f1) t290 t291 t292 t293 t294 w _ ?side1 ?side2 A109.out).mono ?_); (case side1 => repeat (first | (with_reducible first | exact HI209.out | apply IsU.alloc | apply IsU.drewN | apply IsU.drew | exact IsU.far5 HI209.out ⟨_, BK217.out⟩ NB209_217.out | exact IsU.far3 HI209.out ⟨_, BK219.out⟩ NB209_219.out) | exact HI209.out)); (case side2 => repeat (first | (with_reducible first | exact HB.out | apply below_alloc | apply pw_below_drewN | apply below_drew1 | refine below_set ?_ (IsU.ge HI209.out) | refine below_set ?_ GE217.out | refine below_set ?_ GE219.out) | exact HB.out)); rintro e w114 ⟨rfl, hi, hb, hk⟩; refine ⟨_, rfl, ?_⟩; have n0_ := Aside0.mk (Kd.R_mono (Kd.R_keep (IsU.apart (show IsU _ w _ g209 x210000_1 x210001_1 x210002_1 x210003_1 x210004_1 from by repeat (first | (with_reducible first | exact HI209.out | apply IsU.alloc | apply IsU.drewN | apply IsU.drew | exact IsU.far5 HI209.out ⟨_, BK217.out⟩ NB209_217.out | exact IsU.far3 HI209.out ⟨_, BK219.out⟩ NB209_219.out) | exact HI209.out)) (by (with_reducible repeat (first | apply Kd.R_alloc | apply Kd.R_drewN | apply Kd.R_drew)); exact (Kd.R_mono (Kd.R_far (p := ⟨gb219, 2, none⟩) (Kd.R_far (p := ⟨gb219, 1, none⟩) (Kd.R_far (p := ⟨gb219, 0, none⟩) (Kd.R_types HO_218000.out BK219.out (by decide)) (fun _ hk => hk.2) (.int .i64 ((rd_T34 l1 x30_1).f0))) (fun _ hk => hk.2) (.int .i64 ((rd_T34 l1 x30_1).f1))) (fun _ hk => hk.2) (.slice A218_2 ((rd_T34 l1 x30_1).f2).length c218_2)) (fun _ h_ => h_.1))) (by decide)) hk (fun _ h => h.2)) (fun _ h => h.1)); have n1_ := Aside0.mk (KeepBut.blk hk (g' := gb217) (o := .cells #[u218000, .int .i64 x218001_1, .int .i64 x218002_1, .int .i64 x218003_1, .bool x218004_1] 41 (0, 0)) (by (with_reducible repeat (first | refine blk_drewN ?_ _ | refine blk_drew ?_ | refine blk_alloc ?_ _)); refine blk_far ?_ NB217_219.out _; (with_reducible repeat (first | refine blk_drewN ?_ _ | refine blk_drew ?_ | refine blk_alloc ?_ _)); refine blk_far ?_ NB217_219.out _; (with_reducible repeat (first | refine blk_drewN ?_ _ | refine blk_drew ?_ | refine blk_alloc ?_ _)); refine blk_far ?_ NB217_219.out _; (with_reducible repeat (first | refine blk_drewN ?_ _ | refine blk_drew ?_ | refine blk_alloc ?_ _)); exact BK217.out) NB217_209.out (by simp)); have n2_ := Aside0.mk (KeepBut.blk hk (g' := gb219) (o := .cells #[.int .i64 ((rd_T34 l1 x30_1).f0), .int .i64 ((rd_T34 l1 x30_1).f1), .slice A218_2 ((rd_T34 l1 x30_1).f2).length c218_2] 34 (0, 0)) (by (with_reducible repeat (first | refine blk_drewN ?_ _ | refine blk_drew ?_ | refine blk_alloc ?_ _)); refine blk_put (cs := #[.int .i64 ((rd_T34 l1 x30_1).f0), .int .i64 ((rd_T34 l1 x30_1).f1), .slice none 0 0]) ?_ 2 _ rfl; (with_reducible repeat (first | refine blk_drewN ?_ _ | refine blk_drew ?_ | refine blk_alloc ?_ _)); refine blk_put (cs := #[.int .i64 ((rd_T34 l1 x30_1).f0), .int .i64 0, .slice none 0 0]) ?_ 1 _ rfl; (with_reducible repeat (first | refine blk_drewN ?_ _ | refine blk_drew ?_ | refine blk_alloc ?_ _)); refine blk_put (cs := #[.int .i64 0, .int .i64 0, .slice none 0 0]) ?_ 0 _ rfl; (with_reducible repeat (first | refine blk_drewN ?_ _ | refine blk_drew ?_ | refine blk_alloc ?_ _)); exact BK219.out) NB219_209.out (by simp)); have n3_ := Aside0.mk (hb); have n4_ := Aside0.mk (hi); clear HO_218000; clear BK217; clear BK219; clear HB; clear HI209; have HO_218000 := n0_; have BK217 := n1_; have BK219 := n2_; have HB := n3_; have HI209 := n4_; clear n0_ n1_ n2_ n3_ n4_; (try clear hb); (try clear hb2); (try clear hk); (try clear hi); have hnb115 := NB217_209.out; have hnc115 := NB209_217.out; have hcz116_0 : w114.cell? ⟨gb217, 0, none⟩ = some (u218000) := (blk_cell BK217.out 0).trans rfl; have hcz116_1 : w114.cell? ⟨gb217, 1, none⟩ = some (.int .i64 x218001_1) := (blk_cell BK217.out 1).trans rfl; have hcz116_2 : w114.cell? ⟨gb217, 2, none⟩ = some (.int .i64 x218002_1) := (blk_cell BK217.out 2).trans rfl; have hcz116_3 : w114.cell? ⟨gb217, 3, none⟩ = some (.int .i64 x218003_1) := (blk_cell BK217.out 3).trans rfl; have hcz116_4 : w114.cell? ⟨gb217, 4, none⟩ = some (.bool x218004_1) := (blk_cell BK217.out 4).trans rfl; have hfz116_0 := blk_frozen BK217.out 0; have hfz116_1 := blk_frozen BK217.out 1; have hfz116_2 := blk_frozen BK217.out 2; have hfz116_3 := blk_frozen BK217.out 3; have hfz116_4 := blk_frozen BK217.out 4; have hcz117_0 : w114.cell? ⟨gb219, 0, none⟩ = some (.int .i64 ((rd_T34 l1 x30_1).f0)) := (blk_cell BK219.out 0).trans rfl; have hcz117_1 : w114.cell? ⟨gb219, 1, none⟩ = some (.int .i64 ((rd_T34 l1 x30_1).f1)) := (blk_cell BK219.out 1).trans rfl; have hcz117_2 : w114.cell? ⟨gb219, 2, none⟩ = some (.slice A218_2 ((rd_T34 l1 x30_1).f2).length c218_2) := (blk_cell BK219.out 2).trans rfl; have hfz117_0 := blk_frozen BK219.out 0; have hfz117_1 := blk_frozen BK219.out 1; have hfz117_2 := blk_frozen BK219.out 2; obtain ⟨Ao118, co118, eo118⟩ := Kd.R_slice HO_218000.out; subst eo118) | ((with_reducible refine gate_callee (f := 26) rfl ?_); refine goesL_ (some 109) rfl rfl Try.func26 (by kernel_rfl) rfl #[.agg #[.slice Ao118 x218000_1.length co118, .int .i64 x218001_1, .int .i64 x218002_1, .int .i64 x218003_1, .bool x218004_1], .int .i64 ((rd_T34 l1 x30_1).f1)] rfl (by (try simp only [List.map_toArray, List.map_cons, List.map_nil]); first | done | rfl | (simp only [List.length_drop, List.length_take]; rfl)) ?_; (with_reducible refine (ropewayref08_Fuse.calls (fun k_ => some k_ = (.slice Ao118 x218000_1.length co118 : Value).ownBlock) (.slice Ao118 x218000_1.length co118) x218000_1 x218001_1 x218002_1 x218003_1 x218004_1 ((rd_T34 l1 x30_1).f1) t295 t298 t299 t300 t301 w _ ?side1 ?side2 A110.out).mono ?_); (case side1 => repeat (first | (with_reducible first | exact HB.out | apply below_alloc | apply pw_below_drewN | apply below_drew1 | refine below_set ?_ (IsU.ge HI209.out) | refine below_set ?_ GE217.out | refine below_set ?_ GE219.out) | exact HB.out)); (case side2 => exact Kd.R_tight rfl HO_218000.out); rintro e w119 ⟨v296, rfl, ho0, hb, hkp⟩; refine ⟨_, rfl, ?_⟩; have n0_ := Aside0.mk (blk_kept (by (with_reducible repeat (first | refine blk_drewN ?_ _ | refine blk_drew ?_ | refine blk_alloc ?_ _)); exact BK217.out) hkp (fun hs_ => (fun e_ => (Kd.R_ne HO_218000.out BK217.out (by decide)) e_) hs_)); have n1_ := Aside0.mk (IsU.kept1 (by repeat (first | (with_reducible first | exact HI209.out | apply IsU.alloc | apply IsU.drewN | apply IsU.drew | exact IsU.far5 HI209.out ⟨_, BK217.out⟩ NB209_217.out | exact IsU.far3 HI209.out ⟨_, BK219.out⟩ NB209_219.out) | exact HI209.out)) hkp (fun hs_ => (fun e_ => (IsU.own_ne HI209.out HO_218000.out (by decide)) e_) hs_) ho0); have n2_ := Aside0.mk (blk_kept (by (with_reducible repeat (first | refine blk_drewN ?_ _ | refine blk_drew ?_ | refine blk_alloc ?_ _)); exact BK219.out) hkp (fun hs_ => (fun e_ => (Kd.R_ne HO_218000.out BK219.out (by decide)) e_) hs_)); have n3_ := Aside0.mk (Kd.R_mono (ok' := fun k_ => True) ho0 (fun k_ hk_ => trivial)); have n4_ := Aside0.mk (hb); clear BK217; clear HI209; clear BK219; clear HB; clear HO_218000; have BK217 := n0_; have HI209 := n1_; have BK219 := n2_; have HO297 := n3_; have HB := n4_; clear n0_ n1_ n2_ n3_ n4_; (try clear hb); (try clear hkp); (try clear ho0); obtain ⟨Ao120, co120, eo120⟩ := Kd.R_slice HO297.out; subst eo120; have hcz121_0 : w119.cell? ⟨gb217, 0, none⟩ = some (.slice Ao118 x218000_1.length co118) := (blk_cell BK217.out 0).trans rfl; have hcz121_1 : w119.cell? ⟨gb217, 1, none⟩ = some (.int .i64 x218001_1) := (blk_cell BK217.out 1).trans rfl; have hcz121_2 : w119.cell? ⟨gb217, 2, none⟩ = some (.int .i64 x218002_1) := (blk_cell BK217.out 2).trans rfl; have hcz121_3 : w119.cell? ⟨gb217, 3, none⟩ = some (.int .i64 x218003_1) := (blk_cell BK217.out 3).trans rfl; have hcz121_4 : w119.cell? ⟨gb217, 4, none⟩ = some (.bool x218004_1) := (blk_cell BK217.out 4).trans rfl; have hfz121_0 := blk_frozen BK217.out 0; have hfz121_1 := blk_frozen BK217.out 1; have hfz121_2 := blk_frozen BK217.out 2; have hfz121_3 := blk_frozen BK217.out 3; have hfz121_4 := blk_frozen BK217.out 4))
                              go_meet
                              case rel => exact ⟨_, (0), (0), (t290), (t291), (t292), (t293), (t294), (t295), (t298), (t299), (t300), (t301), (.slice Ao120 t295.length co120), (by first | rfl | (simp; done) | (simp [*]; done)), (by first | rfl | (simp; done) | (simp [*]; done)), H', ⟨by have := HK1.out; first | omega | exact Nat.le_refl _⟩, ⟨by (with_reducible repeat (first | apply Kd.R_alloc | apply Kd.R_drewN | apply Kd.R_drew)); exact Kd.R_mono (Kd.R_far (p := ⟨gb217, 4, none⟩) (Kd.R_far (p := ⟨gb217, 3, none⟩) (Kd.R_far (p := ⟨gb217, 2, none⟩) (Kd.R_far (p := ⟨gb217, 1, none⟩) (Kd.R_far (p := ⟨gb217, 0, none⟩) (Kd.R_types HO297.out BK217.out (by decide)) (fun _ hk => hk.2) (.slice Ao120 t295.length co120)) (fun _ hk => hk.2) (.int .i64 t298)) (fun _ hk => hk.2) (.int .i64 t299)) (fun _ hk => hk.2) (.int .i64 t300)) (fun _ hk => hk.2) (.bool t301)) (fun _ hk => trivial)⟩, ⟨by (with_reducible repeat (first | refine blk_drewN ?_ _ | refine blk_drew ?_ | refine blk_alloc ?_ _)); refine blk_put (cs := #[.slice Ao120 t295.length co120, .int .i64 t298, .int .i64 t299, .int .i64 t300, .bool x218004_1]) ?_ 4 _ rfl; (with_reducible repeat (first | refine blk_drewN ?_ _ | refine blk_drew ?_ | refine blk_alloc ?_ _)); refine blk_put (cs := #[.slice Ao120 t295.length co120, .int .i64 t298, .int .i64 t299, .int .i64 x218003_1, .bool x218004_1]) ?_ 3 _ rfl; (with_reducible repeat (first | refine blk_drewN ?_ _ | refine blk_drew ?_ | refine blk_alloc ?_ _)); refine blk_put (cs := #[.slice Ao120 t295.length co120, .int .i64 t298, .int .i64 x218002_1, .int .i64 x218003_1, .bool x218004_1]) ?_ 2 _ rfl; (with_reducible repeat (first | refine blk_drewN ?_ _ | refine blk_drew ?_ | refine blk_alloc ?_ _)); refine blk_put (cs := #[.slice Ao120 t295.length co120, .int .i64 x218001_1, .int .i64 x218002_1, .int .i64 x218003_1, .bool x218004_1]) ?_ 1 _ rfl; (with_reducible repeat (first | refine blk_drewN ?_ _ | refine blk_drew ?_ | refine blk_alloc ?_ _)); refine blk_put (cs := #[.slice Ao118 x218000_1.length co118, .int .i64 x218001_1, .int .i64 x218002_1, .int .i64 x218003_1, .bool x218004_1]) ?_ 0 _ rfl; (with_reducible repeat (first | refine blk_drewN ?_ _ | refine blk_drew ?_ | refine blk_alloc ?_ _)); exact BK217.out⟩, ⟨by repeat (first | (with_reducible first | exact HI209.out | apply IsU.alloc | apply IsU.drewN | apply IsU.drew | exact IsU.far5 HI209.out ⟨_, BK217.out⟩ NB209_217.out | exact IsU.far3 HI209.out ⟨_, BK219.out⟩ NB209_219.out) | exact HI209.out)⟩, ⟨by repeat (first | (with_reducible first | exact HB.out | apply below_alloc | apply pw_below_drewN | apply below_drew1 | refine below_set ?_ (IsU.ge HI209.out) | refine below_set ?_ GE217.out | refine below_set ?_ GE219.out) | exact HB.out)⟩⟩
                            · rw [if_neg c108] at H
                              have c108b0 : (((rd_T34 l1 x30_1).f0) == 5) = false := beq_eq_false_iff_ne.mpr c108
                              have c108b1 : (((rd_T34 l1 x30_1).f0) != 5) = true := bne_iff_ne.mpr c108
                              have H' := Aside0.mk H
                              clear H
                              go_wp2
                              go_meet
                              case rel => exact ⟨_, (0), (0), (x210000_1), (x210001_1), (x210002_1), (x210003_1), (x210004_1), (x218000_1), (x218001_1), (x218002_1), (x218003_1), (x218004_1), (u218000), (by first | rfl | (simp; done) | (simp [*]; done)), (by first | rfl | (simp; done) | (simp [*]; done)), H', ⟨by have := HK1.out; first | omega | exact Nat.le_refl _⟩, ⟨by (with_reducible repeat (first | apply Kd.R_alloc | apply Kd.R_drewN | apply Kd.R_drew)); exact Kd.R_mono (Kd.R_far (p := ⟨gb219, 2, none⟩) (Kd.R_far (p := ⟨gb219, 1, none⟩) (Kd.R_far (p := ⟨gb219, 0, none⟩) (Kd.R_types HO_218000.out BK219.out (by decide)) (fun _ hk => hk.2) (.int .i64 ((rd_T34 l1 x30_1).f0))) (fun _ hk => hk.2) (.int .i64 ((rd_T34 l1 x30_1).f1))) (fun _ hk => hk.2) (.slice A218_2 ((rd_T34 l1 x30_1).f2).length c218_2)) (fun _ hk => trivial)⟩, ⟨by (with_reducible repeat (first | refine blk_drewN ?_ _ | refine blk_drew ?_ | refine blk_alloc ?_ _)); refine blk_far ?_ NB217_219.out _; (with_reducible repeat (first | refine blk_drewN ?_ _ | refine blk_drew ?_ | refine blk_alloc ?_ _)); refine blk_far ?_ NB217_219.out _; (with_reducible repeat (first | refine blk_drewN ?_ _ | refine blk_drew ?_ | refine blk_alloc ?_ _)); refine blk_far ?_ NB217_219.out _; (with_reducible repeat (first | refine blk_drewN ?_ _ | refine blk_drew ?_ | refine blk_alloc ?_ _)); exact BK217.out⟩, ⟨by repeat (first | (with_reducible first | exact HI209.out | apply IsU.alloc | apply IsU.drewN | apply IsU.drew | exact IsU.far5 HI209.out ⟨_, BK217.out⟩ NB209_217.out | exact IsU.far3 HI209.out ⟨_, BK219.out⟩ NB209_219.out) | exact HI209.out)⟩, ⟨by repeat (first | (with_reducible first | exact HB.out | apply below_alloc | apply pw_below_drewN | apply below_drew1 | refine below_set ?_ (IsU.ge HI209.out) | refine below_set ?_ GE217.out | refine below_set ?_ GE219.out) | exact HB.out)⟩⟩
                case rest =>
                  clear HC25
                  try clear c1
                  try clear c2
                  try clear p2
                  try clear q2
                  try clear hx2
                  try clear c3
                  try clear c4
                  try clear c5
                  try clear p5
                  try clear q5
                  try clear hx5
                  try clear hf5
                  try clear c6
                  try clear p6
                  try clear c7
                  try clear c7b0
                  try clear c7b1
                  try clear c8
                  try clear c9
                  try clear c10
                  try clear c11
                  try clear c13
                  try clear c15
                  try clear c16
                  try clear c17
                  try clear c18
                  try clear c19
                  try clear c20
                  try clear c21
                  try clear p21
                  try clear q21
                  try clear hx21
                  try clear c22
                  try clear c22b0
                  try clear c23
                  try clear c23b0
                  try clear c24
                  try clear c24b0
                  try clear p24
                  try clear q24
                  try clear hx24
                  try clear c25
                  try clear c26
                  try clear c27
                  try clear c28
                  try clear c30
                  try clear c30b0
                  try clear c30b1
                  try clear c31
                  try clear c36
                  try clear c37
                  try clear c42
                  try clear c49
                  try clear c49b0
                  try clear c50
                  try clear c50b0
                  try clear c51
                  try clear c51b0
                  try clear p52
                  try clear q52
                  try clear hx52
                  try clear hf52
                  try clear c55
                  try clear c55b0
                  try clear c55b1
                  try clear c59
                  try clear c60
                  try clear p64
                  try clear c66
                  try clear c66b0
                  try clear c66b1
                  try clear c69
                  try clear c70
                  try clear c73
                  try clear c80
                  try clear c80b0
                  try clear c80b1
                  try clear c83
                  try clear c84
                  try clear c87
                  try clear c94
                  try clear c94b0
                  try clear c94b1
                  try clear c97
                  try clear c98
                  try clear c101
                  try clear c108
                  try clear c108b0
                  try clear c108b1
                  try clear c111
                  try clear c112
                  try clear c115
                  try clear hcz102_0
                  try clear hcz102_1
                  try clear hcz102_2
                  try clear hcz102_3
                  try clear hcz102_4
                  try clear hcz103_0
                  try clear hcz103_1
                  try clear hcz103_2
                  try clear hcz107_0
                  try clear hcz107_1
                  try clear hcz107_2
                  try clear hcz107_3
                  try clear hcz107_4
                  try clear hcz113_0
                  try clear hcz113_1
                  try clear hcz113_2
                  try clear hcz116_0
                  try clear hcz116_1
                  try clear hcz116_2
                  try clear hcz116_3
                  try clear hcz116_4
                  try clear hcz117_0
                  try clear hcz117_1
                  try clear hcz117_2
                  try clear hcz121_0
                  try clear hcz121_1
                  try clear hcz121_2
                  try clear hcz121_3
                  try clear hcz121_4
                  try clear hcz14_0
                  try clear hcz14_1
                  try clear hcz14_2
                  try clear hcz14_3
                  try clear hcz14_4
                  try clear hcz21_0
                  try clear hcz21_1
                  try clear hcz21_2
                  try clear hcz21_3
                  try clear hcz21_4
                  try clear hcz29_0
                  try clear hcz29_1
                  try clear hcz29_2
                  try clear hcz38_0
                  try clear hcz38_1
                  try clear hcz38_2
                  try clear hcz43_0
                  try clear hcz43_1
                  try clear hcz43_2
                  try clear hcz43_3
                  try clear hcz43_4
                  try clear hcz44_0
                  try clear hcz44_1
                  try clear hcz44_2
                  try clear hcz48_0
                  try clear hcz48_1
                  try clear hcz48_2
                  try clear hcz48_3
                  try clear hcz48_4
                  try clear hcz61_0
                  try clear hcz61_1
                  try clear hcz61_2
                  try clear hcz61_3
                  try clear hcz61_4
                  try clear hcz65_0
                  try clear hcz65_1
                  try clear hcz65_2
                  try clear hcz65_3
                  try clear hcz65_4
                  try clear hcz71_0
                  try clear hcz71_1
                  try clear hcz71_2
                  try clear hcz74_0
                  try clear hcz74_1
                  try clear hcz74_2
                  try clear hcz74_3
                  try clear hcz74_4
                  try clear hcz75_0
                  try clear hcz75_1
                  try clear hcz75_2
                  try clear hcz79_0
                  try clear hcz79_1
                  try clear hcz79_2
                  try clear hcz79_3
                  try clear hcz79_4
                  try clear hcz85_0
                  try clear hcz85_1
                  try clear hcz85_2
                  try clear hcz88_0
                  try clear hcz88_1
                  try clear hcz88_2
                  try clear hcz88_3
                  try clear hcz88_4
                  try clear hcz89_0
                  try clear hcz89_1
                  try clear hcz89_2
                  try clear hcz93_0
                  try clear hcz93_1
                  try clear hcz93_2
                  try clear hcz93_3
                  try clear hcz93_4
                  try clear hcz99_0
                  try clear hcz99_1
                  try clear hcz99_2
                  try clear hfz102_0
                  try clear hfz102_1
                  try clear hfz102_2
                  try clear hfz102_3
                  try clear hfz102_4
                  try clear hfz103_0
                  try clear hfz103_1
                  try clear hfz103_2
                  try clear hfz107_0
                  try clear hfz107_1
                  try clear hfz107_2
                  try clear hfz107_3
                  try clear hfz107_4
                  try clear hfz113_0
                  try clear hfz113_1
                  try clear hfz113_2
                  try clear hfz116_0
                  try clear hfz116_1
                  try clear hfz116_2
                  try clear hfz116_3
                  try clear hfz116_4
                  try clear hfz117_0
                  try clear hfz117_1
                  try clear hfz117_2
                  try clear hfz121_0
                  try clear hfz121_1
                  try clear hfz121_2
                  try clear hfz121_3
                  try clear hfz121_4
                  try clear hfz14_0
                  try clear hfz14_1
                  try clear hfz14_2
                  try clear hfz14_3
                  try clear hfz14_4
                  try clear hfz21_0
                  try clear hfz21_1
                  try clear hfz21_2
                  try clear hfz21_3
                  try clear hfz21_4
                  try clear hfz29_0
                  try clear hfz29_1
                  try clear hfz29_2
                  try clear hfz38_0
                  try clear hfz38_1
                  try clear hfz38_2
                  try clear hfz43_0
                  try clear hfz43_1
                  try clear hfz43_2
                  try clear hfz43_3
                  try clear hfz43_4
                  try clear hfz44_0
                  try clear hfz44_1
                  try clear hfz44_2
                  try clear hfz48_0
                  try clear hfz48_1
                  try clear hfz48_2
                  try clear hfz48_3
                  try clear hfz48_4
                  try clear hfz61_0
                  try clear hfz61_1
                  try clear hfz61_2
                  try clear hfz61_3
                  try clear hfz61_4
                  try clear hfz65_0
                  try clear hfz65_1
                  try clear hfz65_2
                  try clear hfz65_3
                  try clear hfz65_4
                  try clear hfz71_0
                  try clear hfz71_1
                  try clear hfz71_2
                  try clear hfz74_0
                  try clear hfz74_1
                  try clear hfz74_2
                  try clear hfz74_3
                  try clear hfz74_4
                  try clear hfz75_0
                  try clear hfz75_1
                  try clear hfz75_2
                  try clear hfz79_0
                  try clear hfz79_1
                  try clear hfz79_2
                  try clear hfz79_3
                  try clear hfz79_4
                  try clear hfz85_0
                  try clear hfz85_1
                  try clear hfz85_2
                  try clear hfz88_0
                  try clear hfz88_1
                  try clear hfz88_2
                  try clear hfz88_3
                  try clear hfz88_4
                  try clear hfz89_0
                  try clear hfz89_1
                  try clear hfz89_2
                  try clear hfz93_0
                  try clear hfz93_1
                  try clear hfz93_2
                  try clear hfz93_3
                  try clear hfz93_4
                  try clear hfz99_0
                  try clear hfz99_1
                  try clear hfz99_2
                  try clear hx218_0
                  try clear hx218_1
                  try clear hx218_2
                  try clear hx240_0
                  try clear hx52_0
                  try clear p2
                  try clear p21
                  try clear p218
                  try clear p240
                  try clear p52
                  try clear q2
                  try clear q21
                  try clear q218
                  try clear q240
                  try clear q52
                  obtain ⟨kq, x9_24, x10_24, x210000_24, x210001_24, x210002_24, x210003_24, x210004_24, x218000_24, x218001_24, x218002_24, x218003_24, x218004_24, u218000, rfl, rfl, HA, HJ24, HO_218000, BK217, HI209, HB⟩ := hcut
                  cases kq with
                  | zero => exact absurd HA.out (by simp [ropewaylaw08_DiskRuns.j2])
                  | succ kj24 =>
                    have H := HA.out
                    clear HA
                    simp only [ropewaylaw08_DiskRuns.j2] at H
                    by_cases c122 : x9_24 = x10_24
                    · rw [if_pos c122] at H
                      have c122b0 : (x9_24 == x10_24) = true := beq_iff_eq.mpr c122
                      have c122b1 : (x9_24 != x10_24) = false := bne_eq_false_iff_eq.mpr c122
                      clear c122
                      replace H := Option.bind_eq_some_iff.mp H
                      obtain ⟨⟨t302, t305, t306, t307, t308, t309⟩, A1230, H⟩ := H
                      replace H : (if (strOfNums t302).toList = (strOfNums x218000_24).toList then ((disk_Disk_Safe.f t305 t306 t307 t308 t309).bind fun bt310 => (if bt310.1 = x218001_24 then ((disk_Disk_Off.f bt310.2.1 bt310.2.2.1 bt310.2.2.2.1 bt310.2.2.2.2.1 bt310.2.2.2.2.2).bind fun bt316 => (if (bt316.1 != x218004_24) = true then (some false) else (ropewaylaw08_DiskRuns.l0 kj24 l1 (l1.length : Int) (wrap64 (x30_1 + 1)) bt316.2.1 bt316.2.2.1 bt316.2.2.2.1 bt316.2.2.2.2.1 bt316.2.2.2.2.2 x218000_24 x218001_24 x218002_24 x218003_24 x218004_24))) else (some false))) else (some false)) = some r := H
                      have A123 := Aside0.mk A1230
                      clear A1230
                      by_cases c124 : (strOfNums t302).toList = (strOfNums x218000_24).toList
                      · rw [if_pos c124] at H
                        have c124b0 : ((strOfNums t302).toList == (strOfNums x218000_24).toList) = true := beq_iff_eq.mpr c124
                        have c124b1 : ((strOfNums t302).toList != (strOfNums x218000_24).toList) = false := bne_eq_false_iff_eq.mpr c124
                        clear c124
                        replace H := Option.bind_eq_some_iff.mp H
                        obtain ⟨⟨t310, t311, t312, t313, t314, t315⟩, A1250, H⟩ := H
                        replace H : (if t310 = x218001_24 then ((disk_Disk_Off.f t311 t312 t313 t314 t315).bind fun bt316 => (if (bt316.1 != x218004_24) = true then (some false) else (ropewaylaw08_DiskRuns.l0 kj24 l1 (l1.length : Int) (wrap64 (x30_1 + 1)) bt316.2.1 bt316.2.2.1 bt316.2.2.2.1 bt316.2.2.2.2.1 bt316.2.2.2.2.2 x218000_24 x218001_24 x218002_24 x218003_24 x218004_24))) else (some false)) = some r := H
                        have A125 := Aside0.mk A1250
                        clear A1250
                        by_cases c126 : t310 = x218001_24
                        · rw [if_pos c126] at H
                          have c126b0 : (t310 == x218001_24) = true := beq_iff_eq.mpr c126
                          have c126b1 : (t310 != x218001_24) = false := bne_eq_false_iff_eq.mpr c126
                          clear c126
                          replace H := Option.bind_eq_some_iff.mp H
                          obtain ⟨⟨t316, t317, t318, t319, t320, t321⟩, A1270, H⟩ := H
                          replace H : (if (t316 != x218004_24) = true then (some false) else (ropewaylaw08_DiskRuns.l0 kj24 l1 (l1.length : Int) (wrap64 (x30_1 + 1)) t317 t318 t319 t320 t321 x218000_24 x218001_24 x218002_24 x218003_24 x218004_24)) = some r := H
                          have A127 := Aside0.mk A1270
                          clear A1270
                          by_cases c128 : (t316 != x218004_24) = true
                          · rw [if_pos c128] at H
                            have c128b0 : (t316 != x218004_24) = true := c128
                            (try (have c128b1 : decide (t316 = x218004_24) = false := by simpa using c128))
                            (try (have c128b2 : (t316 == x218004_24) = false := by simpa using c128))
                            (try (have c128b3 : ¬ (t316 = x218004_24) := by simpa using c128))
                            clear c128
                            obtain rfl := Option.some.inj H
                            try go_wp2
                            have n0_ := Aside0.mk (Kd.R_drew HO_218000.out)
                            have n1_ := Aside0.mk (blk_drew BK217.out)
                            have n2_ := Aside0.mk (IsU.drew HI209.out)
                            have n3_ := Aside0.mk (below_drew1 HB.out)
                            clear HO_218000
                            clear BK217
                            clear HI209
                            clear HB
                            have HO_218000 := n0_
                            have BK217 := n1_
                            have HI209 := n2_
                            have HB := n3_
                            clear n0_ n1_ n2_ n3_
                            refine start_ (n := 26) (S := fun w' => w'.cell? ⟨gb217, 0, none⟩ = some (u218000) ∧ w'.cell? ⟨gb217, 1, none⟩ = some (.int .i64 x218001_24) ∧ w'.cell? ⟨gb217, 2, none⟩ = some (.int .i64 x218002_24) ∧ w'.cell? ⟨gb217, 3, none⟩ = some (.int .i64 x218003_24) ∧ w'.cell? ⟨gb217, 4, none⟩ = some (.bool x218004_24) ∧ (convert 27 9 u218000).run Try.prog w' = .ok (.string (strOfNums x218000_24)) w') (ds := []) #[false, false, false, false, false, false, false, false, false, false, false, false, false, false, false, false, false, false, false, false, false, false, false, false, false, false] (by kernel_rfl) rfl rfl ⟨(blk_cell BK217.out 0).trans rfl, (blk_cell BK217.out 1).trans rfl, (blk_cell BK217.out 2).trans rfl, (blk_cell BK217.out 3).trans rfl, (blk_cell BK217.out 4).trans rfl, own_string (P := Try.prog) Try.underlying27 Try.underlying5 Try.underlying9 (Kd.own_of_R HO_218000.out)⟩ (fun hHeld => ?_); refine with_tabW ropewaylaw08_DiskRuns.tab36 ropewaylaw08_DiskRuns.bits36 (fun HT_ HW_ => ?_)
                            generalize wc.drew = w129 at HO_218000 BK217 HI209 HB hHeld ⊢
                            refine pure_ (i := 0) (N := some 110) (v := ?_) (a' := ?_) #[true, false, false, false, false, false, false, false, false, false, false, false, false, false, false, false, false, false, false, false, false, false, false, false, false, false] rfl rfl (any_of HT_.out (by kernel_rfl)) (fun _ _ _ h => h) (Or.inl ⟨by rfl, ?_⟩) ?_ ?_
                            rotate_left
                            · intro w'
                              go_simp
                              with_reducible rfl
                            rotate_left
                            · simp only [Act.put, List.setIfInBounds_toArray, List.set_cons_zero, List.set_cons_succ, i64_w, i32_w]
                              rfl
                            refine pure_ (i := 1) (N := some 111) (v := ?_) (a' := ?_) #[true, true, false, false, false, false, false, false, false, false, false, false, false, false, false, false, false, false, false, false, false, false, false, false, false, false] rfl rfl (any_of HT_.out (by kernel_rfl)) (fun _ _ _ h => h) (Or.inl ⟨by rfl, ?_⟩) ?_ ?_
                            rotate_left
                            · intro w'
                              go_simp
                              with_reducible rfl
                            rotate_left
                            · simp only [Act.put, List.setIfInBounds_toArray, List.set_cons_zero, List.set_cons_succ, i64_w, i32_w]
                              rfl
                            refine pure_ (i := 2) (N := some 112) (v := ?_) (a' := ?_) #[true, true, true, false, false, false, false, false, false, false, false, false, false, false, false, false, false, false, false, false, false, false, false, false, false, false] rfl rfl (any_of HT_.out (by kernel_rfl)) (fun _ _ _ h => h) (Or.inl ⟨by rfl, ?_⟩) ?_ ?_
                            rotate_left
                            · intro w'
                              go_simp
                              with_reducible rfl
                            rotate_left
                            · simp only [Act.put, List.setIfInBounds_toArray, List.set_cons_zero, List.set_cons_succ, i64_w, i32_w]
                              rfl
                            refine pure_ (i := 3) (N := some 113) (v := ?_) (a' := ?_) #[true, true, true, true, false, false, false, false, false, false, false, false, false, false, false, false, false, false, false, false, false, false, false, false, false, false] rfl rfl (any_of HT_.out (by kernel_rfl)) (fun _ _ _ h => h) (Or.inl ⟨by rfl, ?_⟩) ?_ ?_
                            rotate_left
                            · intro w'
                              go_simp
                              with_reducible rfl
                            rotate_left
                            · simp only [Act.put, List.setIfInBounds_toArray, List.set_cons_zero, List.set_cons_succ, i64_w, i32_w]
                              rfl
                            refine pure_ (i := 4) (N := some 114) (v := ?_) (a' := ?_) #[true, true, true, true, true, false, false, false, false, false, false, false, false, false, false, false, false, false, false, false, false, false, false, false, false, false] rfl rfl (any_of HT_.out (by kernel_rfl)) (fun _ _ _ h => h) (Or.inl ⟨by rfl, ?_⟩) ?_ ?_
                            rotate_left
                            · intro w'
                              go_simp
                              with_reducible rfl
                            rotate_left
                            · simp only [Act.put, List.setIfInBounds_toArray, List.set_cons_zero, List.set_cons_succ, i64_w, i32_w]
                              rfl
                            refine pure_ (i := 7) (N := some 117) (v := ?_) (a' := ?_) #[true, true, true, true, true, false, false, true, false, false, false, false, false, false, false, false, false, false, false, false, false, false, false, false, false, false] rfl rfl (any_of HT_.out (by kernel_rfl)) (fun _ _ _ h => h) (Or.inl ⟨by rfl, ?_⟩) ?_ ?_
                            rotate_left
                            · intro w'
                              go_simp
                              with_reducible rfl
                            rotate_left
                            · simp only [Act.put, List.setIfInBounds_toArray, List.set_cons_zero, List.set_cons_succ, i64_w, i32_w]
                              rfl
                            refine take_ (i := 8) (N := some 118) (v := ?_) (a' := ?_) #[true, true, true, true, true, false, false, true, true, false, false, false, false, false, false, false, false, false, false, false, false, false, false, false, false, false] rfl rfl (take_ofW HT_.out HW_.out (by kernel_rfl)) (fun _ _ _ h => h) (Or.inl ⟨by rfl, ?_⟩) hHeld ?_ ?_
                            rotate_left
                            · rintro w' ⟨s0, s1, s2, s3, s4, s5⟩
                              go_simp
                              with_reducible rfl
                            rotate_left
                            · simp only [Act.put, List.setIfInBounds_toArray, List.set_cons_zero, List.set_cons_succ, i64_w, i32_w]
                              rfl
                            refine take_ (i := 9) (N := some 119) (v := ?_) (a' := ?_) #[true, true, true, true, true, false, false, true, true, true, false, false, false, false, false, false, false, false, false, false, false, false, false, false, false, false] rfl rfl (take_ofW HT_.out HW_.out (by kernel_rfl)) (fun _ _ _ h => h) (Or.inl ⟨by rfl, ?_⟩) hHeld ?_ ?_
                            rotate_left
                            · rintro w' ⟨s0, s1, s2, s3, s4, s5⟩
                              go_simp
                              with_reducible rfl
                            rotate_left
                            · simp only [Act.put, List.setIfInBounds_toArray, List.set_cons_zero, List.set_cons_succ, i64_w, i32_w]
                              rfl
                            refine one_ (i := 5) (N := some 115) #[true, true, true, true, true, true, false, true, true, true, false, false, false, false, false, false, false, false, false, false, false, false, false, false, false, false] rfl rfl (one_of HT_.out (by kernel_rfl)) (by decide) (fun K hK => ?_)
                            refine goes_ Try.func12 (by kernel_rfl) rfl #[.pointer (some ⟨g209, 0, none⟩)] (by rfl) rfl rfl (by (try simp only [List.map_toArray, List.map_cons, List.map_nil]); first | done | rfl | (simp only [List.length_drop, List.length_take]; rfl)) ?_
                            with_reducible refine (disk_Disk_Bytes.calls (PS [u218000]) g209 x210000_24 x210001_24 x210002_24 x210003_24 x210004_24 t302 t305 t306 t307 t308 t309 w _ ?side1 ?side2 A123.out).mono ?_
                            (case side1 => repeat (first | (with_reducible first | exact HI209.out | apply IsU.alloc | apply IsU.drewN | apply IsU.drew | exact IsU.far5 HI209.out ⟨_, BK217.out⟩ NB209_217.out) | exact HI209.out))
                            (case side2 => repeat (first | (with_reducible first | exact HB.out | apply below_alloc | apply pw_below_drewN | apply below_drew1 | refine below_set ?_ (IsU.ge HI209.out) | refine below_set ?_ GE217.out) | exact HB.out))
                            rintro e w130 ⟨v303, rfl, ho0, hi, hb, hk⟩
                            refine ⟨_, rfl, ?_⟩
                            have n0_ := Aside0.mk (Kd.R_mono (Kd.R_told (Kd.R_oldK (IsU.apart (show IsU _ w _ g209 x210000_24 x210001_24 x210002_24 x210003_24 x210004_24 from by repeat (first | (with_reducible first | exact HI209.out | apply IsU.alloc | apply IsU.drewN | apply IsU.drew | exact IsU.far5 HI209.out ⟨_, BK217.out⟩ NB209_217.out) | exact HI209.out)) (by (with_reducible repeat (first | apply Kd.R_alloc | apply Kd.R_drewN | apply Kd.R_drew)); exact HO_218000.out) (by decide)) hk) (Kd.R_base ho0)) (fun _ h_ => h_.1))
                            have n1_ := Aside0.mk (KeepBut.blk hk (g' := gb217) (o := .cells #[u218000, .int .i64 x218001_24, .int .i64 x218002_24, .int .i64 x218003_24, .bool x218004_24] 41 (0, 0)) (by (with_reducible repeat (first | refine blk_drewN ?_ _ | refine blk_drew ?_ | refine blk_alloc ?_ _)); exact BK217.out) NB217_209.out (by simp))
                            have n2_ := Aside0.mk (Kd.R_lower (Kd.R_new' ho0 (Kd.R_lt (by (with_reducible repeat (first | apply Kd.R_alloc | apply Kd.R_drewN | apply Kd.R_drew)); exact HO_218000.out))) (below_size (by repeat (first | (with_reducible first | exact HB.out | apply below_alloc | apply pw_below_drewN | apply below_drew1 | refine below_set ?_ (IsU.ge HI209.out) | refine below_set ?_ GE217.out) | exact HB.out))))
                            have n3_ := Aside0.mk (hb)
                            have n4_ := Aside0.mk (hi)
                            clear HO_218000
                            clear BK217
                            clear HB
                            clear HI209
                            have HO_218000 := n0_
                            have BK217 := n1_
                            have HO304 := n2_
                            have HB := n3_
                            have HI209 := n4_
                            clear n0_ n1_ n2_ n3_ n4_
                            (try clear hb)
                            (try clear hb2)
                            (try clear hk)
                            (try clear hi)
                            (try clear ho0)
                            have hcv132 := own_string (P := Try.prog) Try.underlying27 Try.underlying5 Try.underlying9 (Kd.own_of_R HO_218000.out)
                            refine hK.out _ _ ⟨(blk_cell BK217.out 0).trans rfl, (blk_cell BK217.out 1).trans rfl, (blk_cell BK217.out 2).trans rfl, (blk_cell BK217.out 3).trans rfl, (blk_cell BK217.out 4).trans rfl, own_string (P := Try.prog) Try.underlying27 Try.underlying5 Try.underlying9 (Kd.own_of_R HO_218000.out)⟩ (fun hHeld => ?_)
                            clear hK K
                            refine norm_ (a' := ?_) ?_ ?_
                            rotate_left
                            · show Act.put _ (some 115) _ = _
                              simp only [Act.put, List.setIfInBounds_toArray, List.set_cons_zero, List.set_cons_succ, i64_w, i32_w]
                              rfl
                            refine one_ (i := 6) (N := some 116) #[true, true, true, true, true, true, true, true, true, true, false, false, false, false, false, false, false, false, false, false, false, false, false, false, false, false] rfl rfl (one_of HT_.out (by kernel_rfl)) (by decide) (fun K hK => ?_)
                            have hcv131 := own_string (P := Try.prog) Try.underlying27 Try.underlying5 Try.underlying9 (Kd.own_of_R HO304.out)
                            refine value_ (w1 := ?_) (v := ?_) (by rfl) rfl ?_ ?_
                            rotate_left 2
                            · go_simp
                              constructor
                              · rfl
                              · rfl
                            clear hcv131
                            refine hK.out _ _ ⟨(blk_cell BK217.out 0).trans rfl, (blk_cell BK217.out 1).trans rfl, (blk_cell BK217.out 2).trans rfl, (blk_cell BK217.out 3).trans rfl, (blk_cell BK217.out 4).trans rfl, own_string (P := Try.prog) Try.underlying27 Try.underlying5 Try.underlying9 (Kd.own_of_R HO_218000.out)⟩ (fun hHeld => ?_)
                            clear hK K
                            refine norm_ (a' := ?_) ?_ ?_
                            rotate_left
                            · show Act.put _ (some 116) _ = _
                              simp only [Act.put, List.setIfInBounds_toArray, List.set_cons_zero, List.set_cons_succ, i64_w, i32_w]
                              rfl
                            refine pure_ (i := 10) (N := some 120) (v := ?_) (a' := ?_) #[true, true, true, true, true, true, true, true, true, true, true, false, false, false, false, false, false, false, false, false, false, false, false, false, false, false] rfl rfl (any_of HT_.out (by kernel_rfl)) (fun _ _ _ h => h) (Or.inl ⟨by rfl, ?_⟩) ?_ ?_
                            rotate_left
                            · intro w'
                              go_simp
                              with_reducible rfl
                            rotate_left
                            · simp only [Act.put, List.setIfInBounds_toArray, List.set_cons_zero, List.set_cons_succ, i64_w, i32_w]
                              rfl
                            refine pure_ (i := 11) (N := some 121) (v := ?_) (a' := ?_) #[true, true, true, true, true, true, true, true, true, true, true, true, false, false, false, false, false, false, false, false, false, false, false, false, false, false] rfl rfl (any_of HT_.out (by kernel_rfl)) (fun _ _ _ h => h) (Or.inl ⟨by rfl, ?_⟩) ?_ ?_
                            rotate_left
                            · intro w'
                              go_simp
                              with_reducible rfl
                            rotate_left
                            · simp only [Act.put, List.setIfInBounds_toArray, List.set_cons_zero, List.set_cons_succ, i64_w, i32_w]
                              rfl
                            refine pure_ (i := 12) (N := some 122) (v := ?_) (a' := ?_) #[true, true, true, true, true, true, true, true, true, true, true, true, true, false, false, false, false, false, false, false, false, false, false, false, false, false] rfl rfl (any_of HT_.out (by kernel_rfl)) (fun _ _ _ h => h) (Or.inl ⟨by rfl, ?_⟩) ?_ ?_
                            rotate_left
                            · intro w'
                              go_simp
                              with_reducible rfl
                            rotate_left
                            · simp only [Act.put, List.setIfInBounds_toArray, List.set_cons_zero, List.set_cons_succ, i64_w, i32_w]
                              rfl
                            refine pure_ (i := 13) (N := some 123) (v := ?_) (a' := ?_) #[true, true, true, true, true, true, true, true, true, true, true, true, true, true, false, false, false, false, false, false, false, false, false, false, false, false] rfl rfl (any_of HT_.out (by kernel_rfl)) (fun _ _ _ h => h) (Or.inl ⟨by rfl, ?_⟩) ?_ ?_
                            rotate_left
                            · intro w'
                              go_simp
                              with_reducible rfl
                            rotate_left
                            · simp only [Act.put, List.setIfInBounds_toArray, List.set_cons_zero, List.set_cons_succ, i64_w, i32_w]
                              rfl
                            refine pure_ (i := 15) (N := some 125) (v := ?_) (a' := ?_) #[true, true, true, true, true, true, true, true, true, true, true, true, true, true, false, true, false, false, false, false, false, false, false, false, false, false] rfl rfl (any_of HT_.out (by kernel_rfl)) (fun _ _ _ h => h) (Or.inl ⟨by rfl, ?_⟩) ?_ ?_
                            rotate_left
                            · intro w'
                              go_simp
                              with_reducible rfl
                            rotate_left
                            · simp only [Act.put, List.setIfInBounds_toArray, List.set_cons_zero, List.set_cons_succ, i64_w, i32_w]
                              rfl
                            refine take_ (i := 16) (N := some 126) (v := ?_) (a' := ?_) #[true, true, true, true, true, true, true, true, true, true, true, true, true, true, false, true, true, false, false, false, false, false, false, false, false, false] rfl rfl (take_ofW HT_.out HW_.out (by kernel_rfl)) (fun _ _ _ h => h) (Or.inl ⟨by rfl, ?_⟩) hHeld ?_ ?_
                            rotate_left
                            · rintro w' ⟨s0, s1, s2, s3, s4, s5⟩
                              go_simp
                              with_reducible rfl
                            rotate_left
                            · simp only [Act.put, List.setIfInBounds_toArray, List.set_cons_zero, List.set_cons_succ, i64_w, i32_w]
                              rfl
                            refine one_ (i := 14) (N := some 124) #[true, true, true, true, true, true, true, true, true, true, true, true, true, true, true, true, true, false, false, false, false, false, false, false, false, false] rfl rfl (one_of HT_.out (by kernel_rfl)) (by decide) (fun K hK => ?_)
                            refine goes_ Try.func13 (by kernel_rfl) rfl #[.pointer (some ⟨g209, 0, none⟩)] (by rfl) rfl rfl (by (try simp only [List.map_toArray, List.map_cons, List.map_nil]); first | done | rfl | (simp only [List.length_drop, List.length_take]; rfl)) ?_
                            with_reducible refine (disk_Disk_Safe.calls (PS [u218000]) g209 t305 t306 t307 t308 t309 t310 t311 t312 t313 t314 t315 w _ ?side1 ?side2 A125.out).mono ?_
                            (case side1 => repeat (first | (with_reducible first | exact HI209.out | apply IsU.alloc | apply IsU.drewN | apply IsU.drew | exact IsU.far5 HI209.out ⟨_, BK217.out⟩ NB209_217.out) | exact HI209.out))
                            (case side2 => repeat (first | (with_reducible first | exact HB.out | apply below_alloc | apply pw_below_drewN | apply below_drew1 | refine below_set ?_ (IsU.ge HI209.out) | refine below_set ?_ GE217.out) | exact HB.out))
                            rintro e w134 ⟨rfl, hi, hb, hk⟩
                            refine ⟨_, rfl, ?_⟩
                            have n0_ := Aside0.mk (Kd.R_mono (Kd.R_keep (IsU.apart (show IsU _ w _ g209 t305 t306 t307 t308 t309 from by repeat (first | (with_reducible first | exact HI209.out | apply IsU.alloc | apply IsU.drewN | apply IsU.drew | exact IsU.far5 HI209.out ⟨_, BK217.out⟩ NB209_217.out) | exact HI209.out)) (by (with_reducible repeat (first | apply Kd.R_alloc | apply Kd.R_drewN | apply Kd.R_drew)); exact HO_218000.out) (by decide)) hk (fun _ h => h.2)) (fun _ h => h.1))
                            have n1_ := Aside0.mk (KeepBut.blk hk (g' := gb217) (o := .cells #[u218000, .int .i64 x218001_24, .int .i64 x218002_24, .int .i64 x218003_24, .bool x218004_24] 41 (0, 0)) (by (with_reducible repeat (first | refine blk_drewN ?_ _ | refine blk_drew ?_ | refine blk_alloc ?_ _)); exact BK217.out) NB217_209.out (by simp))
                            have n2_ := Aside0.mk (Kd.R_mono (Kd.R_keep (IsU.apart (show IsU _ w _ g209 t305 t306 t307 t308 t309 from by repeat (first | (with_reducible first | exact HI209.out | apply IsU.alloc | apply IsU.drewN | apply IsU.drew | exact IsU.far5 HI209.out ⟨_, BK217.out⟩ NB209_217.out) | exact HI209.out)) (by (with_reducible repeat (first | apply Kd.R_alloc | apply Kd.R_drewN | apply Kd.R_drew)); exact HO304.out) (by decide)) hk (fun _ h => h.2)) (fun _ h => h.1))
                            have n3_ := Aside0.mk (hb)
                            have n4_ := Aside0.mk (hi)
                            clear HO_218000
                            clear BK217
                            clear HO304
                            clear HB
                            clear HI209
                            have HO_218000 := n0_
                            have BK217 := n1_
                            have HO304 := n2_
                            have HB := n3_
                            have HI209 := n4_
                            clear n0_ n1_ n2_ n3_ n4_
                            (try clear hb)
                            (try clear hb2)
                            (try clear hk)
                            (try clear hi)
                            refine hK.out _ _ ⟨(blk_cell BK217.out 0).trans rfl, (blk_cell BK217.out 1).trans rfl, (blk_cell BK217.out 2).trans rfl, (blk_cell BK217.out 3).trans rfl, (blk_cell BK217.out 4).trans rfl, own_string (P := Try.prog) Try.underlying27 Try.underlying5 Try.underlying9 (Kd.own_of_R HO_218000.out)⟩ (fun hHeld => ?_)
                            clear hK K
                            refine norm_ (a' := ?_) ?_ ?_
                            rotate_left
                            · show Act.put _ (some 124) _ = _
                              simp only [Act.put, List.setIfInBounds_toArray, List.set_cons_zero, List.set_cons_succ, i64_w, i32_w]
                              rfl
                            refine pure_ (i := 17) (N := some 127) (v := ?_) (a' := ?_) #[true, true, true, true, true, true, true, true, true, true, true, true, true, true, true, true, true, true, false, false, false, false, false, false, false, false] rfl rfl (any_of HT_.out (by kernel_rfl)) (fun _ _ _ h => h) (Or.inl ⟨by rfl, ?_⟩) ?_ ?_
                            rotate_left
                            · intro w'
                              go_simp
                              with_reducible rfl
                            rotate_left
                            · simp only [Act.put, List.setIfInBounds_toArray, List.set_cons_zero, List.set_cons_succ, i64_w, i32_w]
                              rfl
                            refine pure_ (i := 18) (N := some 128) (v := ?_) (a' := ?_) #[true, true, true, true, true, true, true, true, true, true, true, true, true, true, true, true, true, true, true, false, false, false, false, false, false, false] rfl rfl (any_of HT_.out (by kernel_rfl)) (fun _ _ _ h => h) (Or.inl ⟨by rfl, ?_⟩) ?_ ?_
                            rotate_left
                            · intro w'
                              go_simp
                              with_reducible rfl
                            rotate_left
                            · simp only [Act.put, List.setIfInBounds_toArray, List.set_cons_zero, List.set_cons_succ, i64_w, i32_w]
                              rfl
                            refine pure_ (i := 19) (N := some 129) (v := ?_) (a' := ?_) #[true, true, true, true, true, true, true, true, true, true, true, true, true, true, true, true, true, true, true, true, false, false, false, false, false, false] rfl rfl (any_of HT_.out (by kernel_rfl)) (fun _ _ _ h => h) (Or.inl ⟨by rfl, ?_⟩) ?_ ?_
                            rotate_left
                            · intro w'
                              go_simp
                              with_reducible rfl
                            rotate_left
                            · simp only [Act.put, List.setIfInBounds_toArray, List.set_cons_zero, List.set_cons_succ, i64_w, i32_w]
                              rfl
                            refine pure_ (i := 20) (N := some 130) (v := ?_) (a' := ?_) #[true, true, true, true, true, true, true, true, true, true, true, true, true, true, true, true, true, true, true, true, true, false, false, false, false, false] rfl rfl (any_of HT_.out (by kernel_rfl)) (fun _ _ _ h => h) (Or.inl ⟨by rfl, ?_⟩) ?_ ?_
                            rotate_left
                            · intro w'
                              go_simp
                              with_reducible rfl
                            rotate_left
                            · simp only [Act.put, List.setIfInBounds_toArray, List.set_cons_zero, List.set_cons_succ, i64_w, i32_w]
                              rfl
                            refine pure_ (i := 22) (N := some 132) (v := ?_) (a' := ?_) #[true, true, true, true, true, true, true, true, true, true, true, true, true, true, true, true, true, true, true, true, true, false, true, false, false, false] rfl rfl (any_of HT_.out (by kernel_rfl)) (fun _ _ _ h => h) (Or.inl ⟨by rfl, ?_⟩) ?_ ?_
                            rotate_left
                            · intro w'
                              go_simp
                              with_reducible rfl
                            rotate_left
                            · simp only [Act.put, List.setIfInBounds_toArray, List.set_cons_zero, List.set_cons_succ, i64_w, i32_w]
                              rfl
                            refine take_ (i := 23) (N := some 133) (v := ?_) (a' := ?_) #[true, true, true, true, true, true, true, true, true, true, true, true, true, true, true, true, true, true, true, true, true, false, true, true, false, false] rfl rfl (take_ofW HT_.out HW_.out (by kernel_rfl)) (fun _ _ _ h => h) (Or.inl ⟨by rfl, ?_⟩) hHeld ?_ ?_
                            rotate_left
                            · rintro w' ⟨s0, s1, s2, s3, s4, s5⟩
                              go_simp
                              with_reducible rfl
                            rotate_left
                            · simp only [Act.put, List.setIfInBounds_toArray, List.set_cons_zero, List.set_cons_succ, i64_w, i32_w]
                              rfl
                            refine one_ (i := 21) (N := some 131) #[true, true, true, true, true, true, true, true, true, true, true, true, true, true, true, true, true, true, true, true, true, true, true, true, false, false] rfl rfl (one_of HT_.out (by kernel_rfl)) (by decide) (fun K hK => ?_)
                            refine goes_ Try.func14 (by kernel_rfl) rfl #[.pointer (some ⟨g209, 0, none⟩)] (by rfl) rfl rfl (by (try simp only [List.map_toArray, List.map_cons, List.map_nil]); first | done | rfl | (simp only [List.length_drop, List.length_take]; rfl)) ?_
                            with_reducible refine (disk_Disk_Off.calls (PS [u218000]) g209 t311 t312 t313 t314 t315 t316 t317 t318 t319 t320 t321 w _ ?side1 ?side2 A127.out).mono ?_
                            (case side1 => repeat (first | (with_reducible first | exact HI209.out | apply IsU.alloc | apply IsU.drewN | apply IsU.drew | exact IsU.far5 HI209.out ⟨_, BK217.out⟩ NB209_217.out) | exact HI209.out))
                            (case side2 => repeat (first | (with_reducible first | exact HB.out | apply below_alloc | apply pw_below_drewN | apply below_drew1 | refine below_set ?_ (IsU.ge HI209.out) | refine below_set ?_ GE217.out) | exact HB.out))
                            rintro e w135 ⟨rfl, hi, hb, hk⟩
                            refine ⟨_, rfl, ?_⟩
                            have n0_ := Aside0.mk (Kd.R_mono (Kd.R_keep (IsU.apart (show IsU _ w _ g209 t311 t312 t313 t314 t315 from by repeat (first | (with_reducible first | exact HI209.out | apply IsU.alloc | apply IsU.drewN | apply IsU.drew | exact IsU.far5 HI209.out ⟨_, BK217.out⟩ NB209_217.out) | exact HI209.out)) (by (with_reducible repeat (first | apply Kd.R_alloc | apply Kd.R_drewN | apply Kd.R_drew)); exact HO_218000.out) (by decide)) hk (fun _ h => h.2)) (fun _ h => h.1))
                            have n1_ := Aside0.mk (KeepBut.blk hk (g' := gb217) (o := .cells #[u218000, .int .i64 x218001_24, .int .i64 x218002_24, .int .i64 x218003_24, .bool x218004_24] 41 (0, 0)) (by (with_reducible repeat (first | refine blk_drewN ?_ _ | refine blk_drew ?_ | refine blk_alloc ?_ _)); exact BK217.out) NB217_209.out (by simp))
                            have n2_ := Aside0.mk (Kd.R_mono (Kd.R_keep (IsU.apart (show IsU _ w _ g209 t311 t312 t313 t314 t315 from by repeat (first | (with_reducible first | exact HI209.out | apply IsU.alloc | apply IsU.drewN | apply IsU.drew | exact IsU.far5 HI209.out ⟨_, BK217.out⟩ NB209_217.out) | exact HI209.out)) (by (with_reducible repeat (first | apply Kd.R_alloc | apply Kd.R_drewN | apply Kd.R_drew)); exact HO304.out) (by decide)) hk (fun _ h => h.2)) (fun _ h => h.1))
                            have n3_ := Aside0.mk (hb)
                            have n4_ := Aside0.mk (hi)
                            clear HO_218000
                            clear BK217
                            clear HO304
                            clear HB
                            clear HI209
                            have HO_218000 := n0_
                            have BK217 := n1_
                            have HO304 := n2_
                            have HB := n3_
                            have HI209 := n4_
                            clear n0_ n1_ n2_ n3_ n4_
                            (try clear hb)
                            (try clear hb2)
                            (try clear hk)
                            (try clear hi)
                            refine hK.out _ _ ⟨(blk_cell BK217.out 0).trans rfl, (blk_cell BK217.out 1).trans rfl, (blk_cell BK217.out 2).trans rfl, (blk_cell BK217.out 3).trans rfl, (blk_cell BK217.out 4).trans rfl, own_string (P := Try.prog) Try.underlying27 Try.underlying5 Try.underlying9 (Kd.own_of_R HO_218000.out)⟩ (fun hHeld => ?_)
                            clear hK K
                            refine norm_ (a' := ?_) ?_ ?_
                            rotate_left
                            · show Act.put _ (some 131) _ = _
                              simp only [Act.put, List.setIfInBounds_toArray, List.set_cons_zero, List.set_cons_succ, i64_w, i32_w]
                              rfl
                            refine pure_ (i := 24) (N := some 134) (v := ?_) (a' := ?_) #[true, true, true, true, true, true, true, true, true, true, true, true, true, true, true, true, true, true, true, true, true, true, true, true, true, false] rfl rfl (any_of HT_.out (by kernel_rfl)) (fun _ _ _ h => h) (Or.inl ⟨by rfl, ?_⟩) ?_ ?_
                            rotate_left
                            · intro w'
                              go_simp
                              with_reducible rfl
                            rotate_left
                            · simp only [Act.put, List.setIfInBounds_toArray, List.set_cons_zero, List.set_cons_succ, i64_w, i32_w]
                              rfl
                            refine pure_ (i := 25) (N := some 135) (v := ?_) (a' := ?_) #[true, true, true, true, true, true, true, true, true, true, true, true, true, true, true, true, true, true, true, true, true, true, true, true, true, true] rfl rfl (any_of HT_.out (by kernel_rfl)) (fun _ _ _ h => h) (Or.inl ⟨by rfl, ?_⟩) ?_ ?_
                            rotate_left
                            · intro w'
                              go_simp
                              with_reducible rfl
                            rotate_left
                            · simp only [Act.put, List.setIfInBounds_toArray, List.set_cons_zero, List.set_cons_succ, i64_w, i32_w]
                              rfl
                            refine done_ (done_of HT_.out (by kernel_rfl)) ?_
                            try go_wp2
                            go_ret
                            exact ⟨by first | rfl | (simp [errW_none, errW_some] <;> rfl) | (simp [*, errW_none, errW_some] <;> rfl), by repeat (first | (with_reducible first | exact HB.out | apply below_alloc | apply pw_below_drewN | apply below_drew1 | refine below_set ?_ (IsU.ge HI209.out) | refine below_set ?_ GE217.out) | exact HB.out)⟩
                          · rw [if_neg c128] at H
                            have c128b0 : (t316 != x218004_24) = false := by simpa using c128
                            (try (have c128b1 : decide (t316 = x218004_24) = true := by simpa using c128))
                            (try (have c128b2 : (t316 == x218004_24) = true := by simpa using c128))
                            clear c128
                            have H' := Aside0.mk H
                            clear H
                            try go_wp2
                            have n0_ := Aside0.mk (Kd.R_drew HO_218000.out)
                            have n1_ := Aside0.mk (blk_drew BK217.out)
                            have n2_ := Aside0.mk (IsU.drew HI209.out)
                            have n3_ := Aside0.mk (below_drew1 HB.out)
                            clear HO_218000
                            clear BK217
                            clear HI209
                            clear HB
                            have HO_218000 := n0_
                            have BK217 := n1_
                            have HI209 := n2_
                            have HB := n3_
                            clear n0_ n1_ n2_ n3_
                            refine start_ (n := 26) (S := fun w' => w'.cell? ⟨gb217, 0, none⟩ = some (u218000) ∧ w'.cell? ⟨gb217, 1, none⟩ = some (.int .i64 x218001_24) ∧ w'.cell? ⟨gb217, 2, none⟩ = some (.int .i64 x218002_24) ∧ w'.cell? ⟨gb217, 3, none⟩ = some (.int .i64 x218003_24) ∧ w'.cell? ⟨gb217, 4, none⟩ = some (.bool x218004_24) ∧ (convert 27 9 u218000).run Try.prog w' = .ok (.string (strOfNums x218000_24)) w') (ds := []) #[false, false, false, false, false, false, false, false, false, false, false, false, false, false, false, false, false, false, false, false, false, false, false, false, false, false] (by kernel_rfl) rfl rfl ⟨(blk_cell BK217.out 0).trans rfl, (blk_cell BK217.out 1).trans rfl, (blk_cell BK217.out 2).trans rfl, (blk_cell BK217.out 3).trans rfl, (blk_cell BK217.out 4).trans rfl, own_string (P := Try.prog) Try.underlying27 Try.underlying5 Try.underlying9 (Kd.own_of_R HO_218000.out)⟩ (fun hHeld => ?_); refine with_tabW ropewaylaw08_DiskRuns.tab36 ropewaylaw08_DiskRuns.bits36 (fun HT_ HW_ => ?_)
                            generalize wc.drew = w136 at HO_218000 BK217 HI209 HB hHeld ⊢
                            refine pure_ (i := 0) (N := some 110) (v := ?_) (a' := ?_) #[true, false, false, false, false, false, false, false, false, false, false, false, false, false, false, false, false, false, false, false, false, false, false, false, false, false] rfl rfl (any_of HT_.out (by kernel_rfl)) (fun _ _ _ h => h) (Or.inl ⟨by rfl, ?_⟩) ?_ ?_
                            rotate_left
                            · intro w'
                              go_simp
                              with_reducible rfl
                            rotate_left
                            · simp only [Act.put, List.setIfInBounds_toArray, List.set_cons_zero, List.set_cons_succ, i64_w, i32_w]
                              rfl
                            refine pure_ (i := 1) (N := some 111) (v := ?_) (a' := ?_) #[true, true, false, false, false, false, false, false, false, false, false, false, false, false, false, false, false, false, false, false, false, false, false, false, false, false] rfl rfl (any_of HT_.out (by kernel_rfl)) (fun _ _ _ h => h) (Or.inl ⟨by rfl, ?_⟩) ?_ ?_
                            rotate_left
                            · intro w'
                              go_simp
                              with_reducible rfl
                            rotate_left
                            · simp only [Act.put, List.setIfInBounds_toArray, List.set_cons_zero, List.set_cons_succ, i64_w, i32_w]
                              rfl
                            refine pure_ (i := 2) (N := some 112) (v := ?_) (a' := ?_) #[true, true, true, false, false, false, false, false, false, false, false, false, false, false, false, false, false, false, false, false, false, false, false, false, false, false] rfl rfl (any_of HT_.out (by kernel_rfl)) (fun _ _ _ h => h) (Or.inl ⟨by rfl, ?_⟩) ?_ ?_
                            rotate_left
                            · intro w'
                              go_simp
                              with_reducible rfl
                            rotate_left
                            · simp only [Act.put, List.setIfInBounds_toArray, List.set_cons_zero, List.set_cons_succ, i64_w, i32_w]
                              rfl
                            refine pure_ (i := 3) (N := some 113) (v := ?_) (a' := ?_) #[true, true, true, true, false, false, false, false, false, false, false, false, false, false, false, false, false, false, false, false, false, false, false, false, false, false] rfl rfl (any_of HT_.out (by kernel_rfl)) (fun _ _ _ h => h) (Or.inl ⟨by rfl, ?_⟩) ?_ ?_
                            rotate_left
                            · intro w'
                              go_simp
                              with_reducible rfl
                            rotate_left
                            · simp only [Act.put, List.setIfInBounds_toArray, List.set_cons_zero, List.set_cons_succ, i64_w, i32_w]
                              rfl
                            refine pure_ (i := 4) (N := some 114) (v := ?_) (a' := ?_) #[true, true, true, true, true, false, false, false, false, false, false, false, false, false, false, false, false, false, false, false, false, false, false, false, false, false] rfl rfl (any_of HT_.out (by kernel_rfl)) (fun _ _ _ h => h) (Or.inl ⟨by rfl, ?_⟩) ?_ ?_
                            rotate_left
                            · intro w'
                              go_simp
                              with_reducible rfl
                            rotate_left
                            · simp only [Act.put, List.setIfInBounds_toArray, List.set_cons_zero, List.set_cons_succ, i64_w, i32_w]
                              rfl
                            refine pure_ (i := 7) (N := some 117) (v := ?_) (a' := ?_) #[true, true, true, true, true, false, false, true, false, false, false, false, false, false, false, false, false, false, false, false, false, false, false, false, false, false] rfl rfl (any_of HT_.out (by kernel_rfl)) (fun _ _ _ h => h) (Or.inl ⟨by rfl, ?_⟩) ?_ ?_
                            rotate_left
                            · intro w'
                              go_simp
                              with_reducible rfl
                            rotate_left
                            · simp only [Act.put, List.setIfInBounds_toArray, List.set_cons_zero, List.set_cons_succ, i64_w, i32_w]
                              rfl
                            refine take_ (i := 8) (N := some 118) (v := ?_) (a' := ?_) #[true, true, true, true, true, false, false, true, true, false, false, false, false, false, false, false, false, false, false, false, false, false, false, false, false, false] rfl rfl (take_ofW HT_.out HW_.out (by kernel_rfl)) (fun _ _ _ h => h) (Or.inl ⟨by rfl, ?_⟩) hHeld ?_ ?_
                            rotate_left
                            · rintro w' ⟨s0, s1, s2, s3, s4, s5⟩
                              go_simp
                              with_reducible rfl
                            rotate_left
                            · simp only [Act.put, List.setIfInBounds_toArray, List.set_cons_zero, List.set_cons_succ, i64_w, i32_w]
                              rfl
                            refine take_ (i := 9) (N := some 119) (v := ?_) (a' := ?_) #[true, true, true, true, true, false, false, true, true, true, false, false, false, false, false, false, false, false, false, false, false, false, false, false, false, false] rfl rfl (take_ofW HT_.out HW_.out (by kernel_rfl)) (fun _ _ _ h => h) (Or.inl ⟨by rfl, ?_⟩) hHeld ?_ ?_
                            rotate_left
                            · rintro w' ⟨s0, s1, s2, s3, s4, s5⟩
                              go_simp
                              with_reducible rfl
                            rotate_left
                            · simp only [Act.put, List.setIfInBounds_toArray, List.set_cons_zero, List.set_cons_succ, i64_w, i32_w]
                              rfl
                            refine one_ (i := 5) (N := some 115) #[true, true, true, true, true, true, false, true, true, true, false, false, false, false, false, false, false, false, false, false, false, false, false, false, false, false] rfl rfl (one_of HT_.out (by kernel_rfl)) (by decide) (fun K hK => ?_)
                            refine goes_ Try.func12 (by kernel_rfl) rfl #[.pointer (some ⟨g209, 0, none⟩)] (by rfl) rfl rfl (by (try simp only [List.map_toArray, List.map_cons, List.map_nil]); first | done | rfl | (simp only [List.length_drop, List.length_take]; rfl)) ?_
                            with_reducible refine (disk_Disk_Bytes.calls (PS [u218000]) g209 x210000_24 x210001_24 x210002_24 x210003_24 x210004_24 t302 t305 t306 t307 t308 t309 w _ ?side1 ?side2 A123.out).mono ?_
                            (case side1 => repeat (first | (with_reducible first | exact HI209.out | apply IsU.alloc | apply IsU.drewN | apply IsU.drew | exact IsU.far5 HI209.out ⟨_, BK217.out⟩ NB209_217.out) | exact HI209.out))
                            (case side2 => repeat (first | (with_reducible first | exact HB.out | apply below_alloc | apply pw_below_drewN | apply below_drew1 | refine below_set ?_ (IsU.ge HI209.out) | refine below_set ?_ GE217.out) | exact HB.out))
                            rintro e w137 ⟨v303, rfl, ho0, hi, hb, hk⟩
                            refine ⟨_, rfl, ?_⟩
                            have n0_ := Aside0.mk (Kd.R_mono (Kd.R_told (Kd.R_oldK (IsU.apart (show IsU _ w _ g209 x210000_24 x210001_24 x210002_24 x210003_24 x210004_24 from by repeat (first | (with_reducible first | exact HI209.out | apply IsU.alloc | apply IsU.drewN | apply IsU.drew | exact IsU.far5 HI209.out ⟨_, BK217.out⟩ NB209_217.out) | exact HI209.out)) (by (with_reducible repeat (first | apply Kd.R_alloc | apply Kd.R_drewN | apply Kd.R_drew)); exact HO_218000.out) (by decide)) hk) (Kd.R_base ho0)) (fun _ h_ => h_.1))
                            have n1_ := Aside0.mk (KeepBut.blk hk (g' := gb217) (o := .cells #[u218000, .int .i64 x218001_24, .int .i64 x218002_24, .int .i64 x218003_24, .bool x218004_24] 41 (0, 0)) (by (with_reducible repeat (first | refine blk_drewN ?_ _ | refine blk_drew ?_ | refine blk_alloc ?_ _)); exact BK217.out) NB217_209.out (by simp))
                            have n2_ := Aside0.mk (Kd.R_lower (Kd.R_new' ho0 (Kd.R_lt (by (with_reducible repeat (first | apply Kd.R_alloc | apply Kd.R_drewN | apply Kd.R_drew)); exact HO_218000.out))) (below_size (by repeat (first | (with_reducible first | exact HB.out | apply below_alloc | apply pw_below_drewN | apply below_drew1 | refine below_set ?_ (IsU.ge HI209.out) | refine below_set ?_ GE217.out) | exact HB.out))))
                            have n3_ := Aside0.mk (hb)
                            have n4_ := Aside0.mk (hi)
                            clear HO_218000
                            clear BK217
                            clear HB
                            clear HI209
                            have HO_218000 := n0_
                            have BK217 := n1_
                            have HO304 := n2_
                            have HB := n3_
                            have HI209 := n4_
                            clear n0_ n1_ n2_ n3_ n4_
                            (try clear hb)
                            (try clear hb2)
                            (try clear hk)
                            (try clear hi)
                            (try clear ho0)
                            have hcv139 := own_string (P := Try.prog) Try.underlying27 Try.underlying5 Try.underlying9 (Kd.own_of_R HO_218000.out)
                            refine hK.out _ _ ⟨(blk_cell BK217.out 0).trans rfl, (blk_cell BK217.out 1).trans rfl, (blk_cell BK217.out 2).trans rfl, (blk_cell BK217.out 3).trans rfl, (blk_cell BK217.out 4).trans rfl, own_string (P := Try.prog) Try.underlying27 Try.underlying5 Try.underlying9 (Kd.own_of_R HO_218000.out)⟩ (fun hHeld => ?_)
                            clear hK K
                            refine norm_ (a' := ?_) ?_ ?_
                            rotate_left
                            · show Act.put _ (some 115) _ = _
                              simp only [Act.put, List.setIfInBounds_toArray, List.set_cons_zero, List.set_cons_succ, i64_w, i32_w]
                              rfl
                            refine one_ (i := 6) (N := some 116) #[true, true, true, true, true, true, true, true, true, true, false, false, false, false, false, false, false, false, false, false, false, false, false, false, false, false] rfl rfl (one_of HT_.out (by kernel_rfl)) (by decide) (fun K hK => ?_)
                            have hcv138 := own_string (P := Try.prog) Try.underlying27 Try.underlying5 Try.underlying9 (Kd.own_of_R HO304.out)
                            refine value_ (w1 := ?_) (v := ?_) (by rfl) rfl ?_ ?_
                            rotate_left 2
                            · go_simp
                              constructor
                              · rfl
                              · rfl
                            clear hcv138
                            refine hK.out _ _ ⟨(blk_cell BK217.out 0).trans rfl, (blk_cell BK217.out 1).trans rfl, (blk_cell BK217.out 2).trans rfl, (blk_cell BK217.out 3).trans rfl, (blk_cell BK217.out 4).trans rfl, own_string (P := Try.prog) Try.underlying27 Try.underlying5 Try.underlying9 (Kd.own_of_R HO_218000.out)⟩ (fun hHeld => ?_)
                            clear hK K
                            refine norm_ (a' := ?_) ?_ ?_
                            rotate_left
                            · show Act.put _ (some 116) _ = _
                              simp only [Act.put, List.setIfInBounds_toArray, List.set_cons_zero, List.set_cons_succ, i64_w, i32_w]
                              rfl
                            refine pure_ (i := 10) (N := some 120) (v := ?_) (a' := ?_) #[true, true, true, true, true, true, true, true, true, true, true, false, false, false, false, false, false, false, false, false, false, false, false, false, false, false] rfl rfl (any_of HT_.out (by kernel_rfl)) (fun _ _ _ h => h) (Or.inl ⟨by rfl, ?_⟩) ?_ ?_
                            rotate_left
                            · intro w'
                              go_simp
                              with_reducible rfl
                            rotate_left
                            · simp only [Act.put, List.setIfInBounds_toArray, List.set_cons_zero, List.set_cons_succ, i64_w, i32_w]
                              rfl
                            refine pure_ (i := 11) (N := some 121) (v := ?_) (a' := ?_) #[true, true, true, true, true, true, true, true, true, true, true, true, false, false, false, false, false, false, false, false, false, false, false, false, false, false] rfl rfl (any_of HT_.out (by kernel_rfl)) (fun _ _ _ h => h) (Or.inl ⟨by rfl, ?_⟩) ?_ ?_
                            rotate_left
                            · intro w'
                              go_simp
                              with_reducible rfl
                            rotate_left
                            · simp only [Act.put, List.setIfInBounds_toArray, List.set_cons_zero, List.set_cons_succ, i64_w, i32_w]
                              rfl
                            refine pure_ (i := 12) (N := some 122) (v := ?_) (a' := ?_) #[true, true, true, true, true, true, true, true, true, true, true, true, true, false, false, false, false, false, false, false, false, false, false, false, false, false] rfl rfl (any_of HT_.out (by kernel_rfl)) (fun _ _ _ h => h) (Or.inl ⟨by rfl, ?_⟩) ?_ ?_
                            rotate_left
                            · intro w'
                              go_simp
                              with_reducible rfl
                            rotate_left
                            · simp only [Act.put, List.setIfInBounds_toArray, List.set_cons_zero, List.set_cons_succ, i64_w, i32_w]
                              rfl
                            refine pure_ (i := 13) (N := some 123) (v := ?_) (a' := ?_) #[true, true, true, true, true, true, true, true, true, true, true, true, true, true, false, false, false, false, false, false, false, false, false, false, false, false] rfl rfl (any_of HT_.out (by kernel_rfl)) (fun _ _ _ h => h) (Or.inl ⟨by rfl, ?_⟩) ?_ ?_
                            rotate_left
                            · intro w'
                              go_simp
                              with_reducible rfl
                            rotate_left
                            · simp only [Act.put, List.setIfInBounds_toArray, List.set_cons_zero, List.set_cons_succ, i64_w, i32_w]
                              rfl
                            refine pure_ (i := 15) (N := some 125) (v := ?_) (a' := ?_) #[true, true, true, true, true, true, true, true, true, true, true, true, true, true, false, true, false, false, false, false, false, false, false, false, false, false] rfl rfl (any_of HT_.out (by kernel_rfl)) (fun _ _ _ h => h) (Or.inl ⟨by rfl, ?_⟩) ?_ ?_
                            rotate_left
                            · intro w'
                              go_simp
                              with_reducible rfl
                            rotate_left
                            · simp only [Act.put, List.setIfInBounds_toArray, List.set_cons_zero, List.set_cons_succ, i64_w, i32_w]
                              rfl
                            refine take_ (i := 16) (N := some 126) (v := ?_) (a' := ?_) #[true, true, true, true, true, true, true, true, true, true, true, true, true, true, false, true, true, false, false, false, false, false, false, false, false, false] rfl rfl (take_ofW HT_.out HW_.out (by kernel_rfl)) (fun _ _ _ h => h) (Or.inl ⟨by rfl, ?_⟩) hHeld ?_ ?_
                            rotate_left
                            · rintro w' ⟨s0, s1, s2, s3, s4, s5⟩
                              go_simp
                              with_reducible rfl
                            rotate_left
                            · simp only [Act.put, List.setIfInBounds_toArray, List.set_cons_zero, List.set_cons_succ, i64_w, i32_w]
                              rfl
                            refine one_ (i := 14) (N := some 124) #[true, true, true, true, true, true, true, true, true, true, true, true, true, true, true, true, true, false, false, false, false, false, false, false, false, false] rfl rfl (one_of HT_.out (by kernel_rfl)) (by decide) (fun K hK => ?_)
                            refine goes_ Try.func13 (by kernel_rfl) rfl #[.pointer (some ⟨g209, 0, none⟩)] (by rfl) rfl rfl (by (try simp only [List.map_toArray, List.map_cons, List.map_nil]); first | done | rfl | (simp only [List.length_drop, List.length_take]; rfl)) ?_
                            with_reducible refine (disk_Disk_Safe.calls (PS [u218000]) g209 t305 t306 t307 t308 t309 t310 t311 t312 t313 t314 t315 w _ ?side1 ?side2 A125.out).mono ?_
                            (case side1 => repeat (first | (with_reducible first | exact HI209.out | apply IsU.alloc | apply IsU.drewN | apply IsU.drew | exact IsU.far5 HI209.out ⟨_, BK217.out⟩ NB209_217.out) | exact HI209.out))
                            (case side2 => repeat (first | (with_reducible first | exact HB.out | apply below_alloc | apply pw_below_drewN | apply below_drew1 | refine below_set ?_ (IsU.ge HI209.out) | refine below_set ?_ GE217.out) | exact HB.out))
                            rintro e w141 ⟨rfl, hi, hb, hk⟩
                            refine ⟨_, rfl, ?_⟩
                            have n0_ := Aside0.mk (Kd.R_mono (Kd.R_keep (IsU.apart (show IsU _ w _ g209 t305 t306 t307 t308 t309 from by repeat (first | (with_reducible first | exact HI209.out | apply IsU.alloc | apply IsU.drewN | apply IsU.drew | exact IsU.far5 HI209.out ⟨_, BK217.out⟩ NB209_217.out) | exact HI209.out)) (by (with_reducible repeat (first | apply Kd.R_alloc | apply Kd.R_drewN | apply Kd.R_drew)); exact HO_218000.out) (by decide)) hk (fun _ h => h.2)) (fun _ h => h.1))
                            have n1_ := Aside0.mk (KeepBut.blk hk (g' := gb217) (o := .cells #[u218000, .int .i64 x218001_24, .int .i64 x218002_24, .int .i64 x218003_24, .bool x218004_24] 41 (0, 0)) (by (with_reducible repeat (first | refine blk_drewN ?_ _ | refine blk_drew ?_ | refine blk_alloc ?_ _)); exact BK217.out) NB217_209.out (by simp))
                            have n2_ := Aside0.mk (Kd.R_mono (Kd.R_keep (IsU.apart (show IsU _ w _ g209 t305 t306 t307 t308 t309 from by repeat (first | (with_reducible first | exact HI209.out | apply IsU.alloc | apply IsU.drewN | apply IsU.drew | exact IsU.far5 HI209.out ⟨_, BK217.out⟩ NB209_217.out) | exact HI209.out)) (by (with_reducible repeat (first | apply Kd.R_alloc | apply Kd.R_drewN | apply Kd.R_drew)); exact HO304.out) (by decide)) hk (fun _ h => h.2)) (fun _ h => h.1))
                            have n3_ := Aside0.mk (hb)
                            have n4_ := Aside0.mk (hi)
                            clear HO_218000
                            clear BK217
                            clear HO304
                            clear HB
                            clear HI209
                            have HO_218000 := n0_
                            have BK217 := n1_
                            have HO304 := n2_
                            have HB := n3_
                            have HI209 := n4_
                            clear n0_ n1_ n2_ n3_ n4_
                            (try clear hb)
                            (try clear hb2)
                            (try clear hk)
                            (try clear hi)
                            refine hK.out _ _ ⟨(blk_cell BK217.out 0).trans rfl, (blk_cell BK217.out 1).trans rfl, (blk_cell BK217.out 2).trans rfl, (blk_cell BK217.out 3).trans rfl, (blk_cell BK217.out 4).trans rfl, own_string (P := Try.prog) Try.underlying27 Try.underlying5 Try.underlying9 (Kd.own_of_R HO_218000.out)⟩ (fun hHeld => ?_)
                            clear hK K
                            refine norm_ (a' := ?_) ?_ ?_
                            rotate_left
                            · show Act.put _ (some 124) _ = _
                              simp only [Act.put, List.setIfInBounds_toArray, List.set_cons_zero, List.set_cons_succ, i64_w, i32_w]
                              rfl
                            refine pure_ (i := 17) (N := some 127) (v := ?_) (a' := ?_) #[true, true, true, true, true, true, true, true, true, true, true, true, true, true, true, true, true, true, false, false, false, false, false, false, false, false] rfl rfl (any_of HT_.out (by kernel_rfl)) (fun _ _ _ h => h) (Or.inl ⟨by rfl, ?_⟩) ?_ ?_
                            rotate_left
                            · intro w'
                              go_simp
                              with_reducible rfl
                            rotate_left
                            · simp only [Act.put, List.setIfInBounds_toArray, List.set_cons_zero, List.set_cons_succ, i64_w, i32_w]
                              rfl
                            refine pure_ (i := 18) (N := some 128) (v := ?_) (a' := ?_) #[true, true, true, true, true, true, true, true, true, true, true, true, true, true, true, true, true, true, true, false, false, false, false, false, false, false] rfl rfl (any_of HT_.out (by kernel_rfl)) (fun _ _ _ h => h) (Or.inl ⟨by rfl, ?_⟩) ?_ ?_
                            rotate_left
                            · intro w'
                              go_simp
                              with_reducible rfl
                            rotate_left
                            · simp only [Act.put, List.setIfInBounds_toArray, List.set_cons_zero, List.set_cons_succ, i64_w, i32_w]
                              rfl
                            refine pure_ (i := 19) (N := some 129) (v := ?_) (a' := ?_) #[true, true, true, true, true, true, true, true, true, true, true, true, true, true, true, true, true, true, true, true, false, false, false, false, false, false] rfl rfl (any_of HT_.out (by kernel_rfl)) (fun _ _ _ h => h) (Or.inl ⟨by rfl, ?_⟩) ?_ ?_
                            rotate_left
                            · intro w'
                              go_simp
                              with_reducible rfl
                            rotate_left
                            · simp only [Act.put, List.setIfInBounds_toArray, List.set_cons_zero, List.set_cons_succ, i64_w, i32_w]
                              rfl
                            refine pure_ (i := 20) (N := some 130) (v := ?_) (a' := ?_) #[true, true, true, true, true, true, true, true, true, true, true, true, true, true, true, true, true, true, true, true, true, false, false, false, false, false] rfl rfl (any_of HT_.out (by kernel_rfl)) (fun _ _ _ h => h) (Or.inl ⟨by rfl, ?_⟩) ?_ ?_
                            rotate_left
                            · intro w'
                              go_simp
                              with_reducible rfl
                            rotate_left
                            · simp only [Act.put, List.setIfInBounds_toArray, List.set_cons_zero, List.set_cons_succ, i64_w, i32_w]
                              rfl
                            refine pure_ (i := 22) (N := some 132) (v := ?_) (a' := ?_) #[true, true, true, true, true, true, true, true, true, true, true, true, true, true, true, true, true, true, true, true, true, false, true, false, false, false] rfl rfl (any_of HT_.out (by kernel_rfl)) (fun _ _ _ h => h) (Or.inl ⟨by rfl, ?_⟩) ?_ ?_
                            rotate_left
                            · intro w'
                              go_simp
                              with_reducible rfl
                            rotate_left
                            · simp only [Act.put, List.setIfInBounds_toArray, List.set_cons_zero, List.set_cons_succ, i64_w, i32_w]
                              rfl
                            refine take_ (i := 23) (N := some 133) (v := ?_) (a' := ?_) #[true, true, true, true, true, true, true, true, true, true, true, true, true, true, true, true, true, true, true, true, true, false, true, true, false, false] rfl rfl (take_ofW HT_.out HW_.out (by kernel_rfl)) (fun _ _ _ h => h) (Or.inl ⟨by rfl, ?_⟩) hHeld ?_ ?_
                            rotate_left
                            · rintro w' ⟨s0, s1, s2, s3, s4, s5⟩
                              go_simp
                              with_reducible rfl
                            rotate_left
                            · simp only [Act.put, List.setIfInBounds_toArray, List.set_cons_zero, List.set_cons_succ, i64_w, i32_w]
                              rfl
                            refine one_ (i := 21) (N := some 131) #[true, true, true, true, true, true, true, true, true, true, true, true, true, true, true, true, true, true, true, true, true, true, true, true, false, false] rfl rfl (one_of HT_.out (by kernel_rfl)) (by decide) (fun K hK => ?_)
                            refine goes_ Try.func14 (by kernel_rfl) rfl #[.pointer (some ⟨g209, 0, none⟩)] (by rfl) rfl rfl (by (try simp only [List.map_toArray, List.map_cons, List.map_nil]); first | done | rfl | (simp only [List.length_drop, List.length_take]; rfl)) ?_
                            with_reducible refine (disk_Disk_Off.calls (PS [u218000]) g209 t311 t312 t313 t314 t315 t316 t317 t318 t319 t320 t321 w _ ?side1 ?side2 A127.out).mono ?_
                            (case side1 => repeat (first | (with_reducible first | exact HI209.out | apply IsU.alloc | apply IsU.drewN | apply IsU.drew | exact IsU.far5 HI209.out ⟨_, BK217.out⟩ NB209_217.out) | exact HI209.out))
                            (case side2 => repeat (first | (with_reducible first | exact HB.out | apply below_alloc | apply pw_below_drewN | apply below_drew1 | refine below_set ?_ (IsU.ge HI209.out) | refine below_set ?_ GE217.out) | exact HB.out))
                            rintro e w142 ⟨rfl, hi, hb, hk⟩
                            refine ⟨_, rfl, ?_⟩
                            have n0_ := Aside0.mk (Kd.R_mono (Kd.R_keep (IsU.apart (show IsU _ w _ g209 t311 t312 t313 t314 t315 from by repeat (first | (with_reducible first | exact HI209.out | apply IsU.alloc | apply IsU.drewN | apply IsU.drew | exact IsU.far5 HI209.out ⟨_, BK217.out⟩ NB209_217.out) | exact HI209.out)) (by (with_reducible repeat (first | apply Kd.R_alloc | apply Kd.R_drewN | apply Kd.R_drew)); exact HO_218000.out) (by decide)) hk (fun _ h => h.2)) (fun _ h => h.1))
                            have n1_ := Aside0.mk (KeepBut.blk hk (g' := gb217) (o := .cells #[u218000, .int .i64 x218001_24, .int .i64 x218002_24, .int .i64 x218003_24, .bool x218004_24] 41 (0, 0)) (by (with_reducible repeat (first | refine blk_drewN ?_ _ | refine blk_drew ?_ | refine blk_alloc ?_ _)); exact BK217.out) NB217_209.out (by simp))
                            have n2_ := Aside0.mk (Kd.R_mono (Kd.R_keep (IsU.apart (show IsU _ w _ g209 t311 t312 t313 t314 t315 from by repeat (first | (with_reducible first | exact HI209.out | apply IsU.alloc | apply IsU.drewN | apply IsU.drew | exact IsU.far5 HI209.out ⟨_, BK217.out⟩ NB209_217.out) | exact HI209.out)) (by (with_reducible repeat (first | apply Kd.R_alloc | apply Kd.R_drewN | apply Kd.R_drew)); exact HO304.out) (by decide)) hk (fun _ h => h.2)) (fun _ h => h.1))
                            have n3_ := Aside0.mk (hb)
                            have n4_ := Aside0.mk (hi)
                            clear HO_218000
                            clear BK217
                            clear HO304
                            clear HB
                            clear HI209
                            have HO_218000 := n0_
                            have BK217 := n1_
                            have HO304 := n2_
                            have HB := n3_
                            have HI209 := n4_
                            clear n0_ n1_ n2_ n3_ n4_
                            (try clear hb)
                            (try clear hb2)
                            (try clear hk)
                            (try clear hi)
                            refine hK.out _ _ ⟨(blk_cell BK217.out 0).trans rfl, (blk_cell BK217.out 1).trans rfl, (blk_cell BK217.out 2).trans rfl, (blk_cell BK217.out 3).trans rfl, (blk_cell BK217.out 4).trans rfl, own_string (P := Try.prog) Try.underlying27 Try.underlying5 Try.underlying9 (Kd.own_of_R HO_218000.out)⟩ (fun hHeld => ?_)
                            clear hK K
                            refine norm_ (a' := ?_) ?_ ?_
                            rotate_left
                            · show Act.put _ (some 131) _ = _
                              simp only [Act.put, List.setIfInBounds_toArray, List.set_cons_zero, List.set_cons_succ, i64_w, i32_w]
                              rfl
                            refine pure_ (i := 24) (N := some 134) (v := ?_) (a' := ?_) #[true, true, true, true, true, true, true, true, true, true, true, true, true, true, true, true, true, true, true, true, true, true, true, true, true, false] rfl rfl (any_of HT_.out (by kernel_rfl)) (fun _ _ _ h => h) (Or.inl ⟨by rfl, ?_⟩) ?_ ?_
                            rotate_left
                            · intro w'
                              go_simp
                              with_reducible rfl
                            rotate_left
                            · simp only [Act.put, List.setIfInBounds_toArray, List.set_cons_zero, List.set_cons_succ, i64_w, i32_w]
                              rfl
                            refine pure_ (i := 25) (N := some 135) (v := ?_) (a' := ?_) #[true, true, true, true, true, true, true, true, true, true, true, true, true, true, true, true, true, true, true, true, true, true, true, true, true, true] rfl rfl (any_of HT_.out (by kernel_rfl)) (fun _ _ _ h => h) (Or.inl ⟨by rfl, ?_⟩) ?_ ?_
                            rotate_left
                            · intro w'
                              go_simp
                              with_reducible rfl
                            rotate_left
                            · simp only [Act.put, List.setIfInBounds_toArray, List.set_cons_zero, List.set_cons_succ, i64_w, i32_w]
                              rfl
                            refine done_ (done_of HT_.out (by kernel_rfl)) ?_
                            try go_wp2
                            go_roundg kj24
                            case measure => have := HK1.out; have := HJ24.out; omega
                            case rel => exact ⟨(wrap64 (x30_1 + 1)), (t317), (t318), (t319), (t320), (t321), (x218000_24), (x218001_24), (x218002_24), (x218003_24), (x218004_24), (u218000), (by first | rfl | (simp; done) | (simp [*]; done)), H', ⟨by have := HK1.out; have := HJ24.out; omega⟩, ⟨by (with_reducible repeat (first | apply Kd.R_alloc | apply Kd.R_drewN | apply Kd.R_drew)); exact Kd.R_mono HO_218000.out (fun _ hk => trivial)⟩, ⟨by (with_reducible repeat (first | refine blk_drewN ?_ _ | refine blk_drew ?_ | refine blk_alloc ?_ _)); exact BK217.out⟩, ⟨by repeat (first | (with_reducible first | exact HI209.out | apply IsU.alloc | apply IsU.drewN | apply IsU.drew | exact IsU.far5 HI209.out ⟨_, BK217.out⟩ NB209_217.out) | exact HI209.out)⟩, ⟨by repeat (first | (with_reducible first | exact HB.out | apply below_alloc | apply pw_below_drewN | apply below_drew1 | refine below_set ?_ (IsU.ge HI209.out) | refine below_set ?_ GE217.out) | exact HB.out)⟩⟩
                        · rw [if_neg c126] at H
                          have c126b0 : (t310 == x218001_24) = false := beq_eq_false_iff_ne.mpr c126
                          have c126b1 : (t310 != x218001_24) = true := bne_iff_ne.mpr c126
                          obtain rfl := Option.some.inj H
                          try go_wp2
                          have n0_ := Aside0.mk (Kd.R_drew HO_218000.out)
                          have n1_ := Aside0.mk (blk_drew BK217.out)
                          have n2_ := Aside0.mk (IsU.drew HI209.out)
                          have n3_ := Aside0.mk (below_drew1 HB.out)
                          clear HO_218000
                          clear BK217
                          clear HI209
                          clear HB
                          have HO_218000 := n0_
                          have BK217 := n1_
                          have HI209 := n2_
                          have HB := n3_
                          clear n0_ n1_ n2_ n3_
                          refine start_ (n := 26) (S := fun w' => w'.cell? ⟨gb217, 0, none⟩ = some (u218000) ∧ w'.cell? ⟨gb217, 1, none⟩ = some (.int .i64 x218001_24) ∧ w'.cell? ⟨gb217, 2, none⟩ = some (.int .i64 x218002_24) ∧ w'.cell? ⟨gb217, 3, none⟩ = some (.int .i64 x218003_24) ∧ w'.cell? ⟨gb217, 4, none⟩ = some (.bool x218004_24) ∧ (convert 27 9 u218000).run Try.prog w' = .ok (.string (strOfNums x218000_24)) w') (ds := []) #[false, false, false, false, false, false, false, false, false, false, false, false, false, false, false, false, false, false, false, false, false, false, false, false, false, false] (by kernel_rfl) rfl rfl ⟨(blk_cell BK217.out 0).trans rfl, (blk_cell BK217.out 1).trans rfl, (blk_cell BK217.out 2).trans rfl, (blk_cell BK217.out 3).trans rfl, (blk_cell BK217.out 4).trans rfl, own_string (P := Try.prog) Try.underlying27 Try.underlying5 Try.underlying9 (Kd.own_of_R HO_218000.out)⟩ (fun hHeld => ?_); refine with_tabW ropewaylaw08_DiskRuns.tab36 ropewaylaw08_DiskRuns.bits36 (fun HT_ HW_ => ?_)
                          generalize wc.drew = w143 at HO_218000 BK217 HI209 HB hHeld ⊢
                          refine pure_ (i := 0) (N := some 110) (v := ?_) (a' := ?_) #[true, false, false, false, false, false, false, false, false, false, false, false, false, false, false, false, false, false, false, false, false, false, false, false, false, false] rfl rfl (any_of HT_.out (by kernel_rfl)) (fun _ _ _ h => h) (Or.inl ⟨by rfl, ?_⟩) ?_ ?_
                          rotate_left
                          · intro w'
                            go_simp
                            with_reducible rfl
                          rotate_left
                          · simp only [Act.put, List.setIfInBounds_toArray, List.set_cons_zero, List.set_cons_succ, i64_w, i32_w]
                            rfl
                          refine pure_ (i := 1) (N := some 111) (v := ?_) (a' := ?_) #[true, true, false, false, false, false, false, false, false, false, false, false, false, false, false, false, false, false, false, false, false, false, false, false, false, false] rfl rfl (any_of HT_.out (by kernel_rfl)) (fun _ _ _ h => h) (Or.inl ⟨by rfl, ?_⟩) ?_ ?_
                          rotate_left
                          · intro w'
                            go_simp
                            with_reducible rfl
                          rotate_left
                          · simp only [Act.put, List.setIfInBounds_toArray, List.set_cons_zero, List.set_cons_succ, i64_w, i32_w]
                            rfl
                          refine pure_ (i := 2) (N := some 112) (v := ?_) (a' := ?_) #[true, true, true, false, false, false, false, false, false, false, false, false, false, false, false, false, false, false, false, false, false, false, false, false, false, false] rfl rfl (any_of HT_.out (by kernel_rfl)) (fun _ _ _ h => h) (Or.inl ⟨by rfl, ?_⟩) ?_ ?_
                          rotate_left
                          · intro w'
                            go_simp
                            with_reducible rfl
                          rotate_left
                          · simp only [Act.put, List.setIfInBounds_toArray, List.set_cons_zero, List.set_cons_succ, i64_w, i32_w]
                            rfl
                          refine pure_ (i := 3) (N := some 113) (v := ?_) (a' := ?_) #[true, true, true, true, false, false, false, false, false, false, false, false, false, false, false, false, false, false, false, false, false, false, false, false, false, false] rfl rfl (any_of HT_.out (by kernel_rfl)) (fun _ _ _ h => h) (Or.inl ⟨by rfl, ?_⟩) ?_ ?_
                          rotate_left
                          · intro w'
                            go_simp
                            with_reducible rfl
                          rotate_left
                          · simp only [Act.put, List.setIfInBounds_toArray, List.set_cons_zero, List.set_cons_succ, i64_w, i32_w]
                            rfl
                          refine pure_ (i := 4) (N := some 114) (v := ?_) (a' := ?_) #[true, true, true, true, true, false, false, false, false, false, false, false, false, false, false, false, false, false, false, false, false, false, false, false, false, false] rfl rfl (any_of HT_.out (by kernel_rfl)) (fun _ _ _ h => h) (Or.inl ⟨by rfl, ?_⟩) ?_ ?_
                          rotate_left
                          · intro w'
                            go_simp
                            with_reducible rfl
                          rotate_left
                          · simp only [Act.put, List.setIfInBounds_toArray, List.set_cons_zero, List.set_cons_succ, i64_w, i32_w]
                            rfl
                          refine pure_ (i := 7) (N := some 117) (v := ?_) (a' := ?_) #[true, true, true, true, true, false, false, true, false, false, false, false, false, false, false, false, false, false, false, false, false, false, false, false, false, false] rfl rfl (any_of HT_.out (by kernel_rfl)) (fun _ _ _ h => h) (Or.inl ⟨by rfl, ?_⟩) ?_ ?_
                          rotate_left
                          · intro w'
                            go_simp
                            with_reducible rfl
                          rotate_left
                          · simp only [Act.put, List.setIfInBounds_toArray, List.set_cons_zero, List.set_cons_succ, i64_w, i32_w]
                            rfl
                          refine take_ (i := 8) (N := some 118) (v := ?_) (a' := ?_) #[true, true, true, true, true, false, false, true, true, false, false, false, false, false, false, false, false, false, false, false, false, false, false, false, false, false] rfl rfl (take_ofW HT_.out HW_.out (by kernel_rfl)) (fun _ _ _ h => h) (Or.inl ⟨by rfl, ?_⟩) hHeld ?_ ?_
                          rotate_left
                          · rintro w' ⟨s0, s1, s2, s3, s4, s5⟩
                            go_simp
                            with_reducible rfl
                          rotate_left
                          · simp only [Act.put, List.setIfInBounds_toArray, List.set_cons_zero, List.set_cons_succ, i64_w, i32_w]
                            rfl
                          refine take_ (i := 9) (N := some 119) (v := ?_) (a' := ?_) #[true, true, true, true, true, false, false, true, true, true, false, false, false, false, false, false, false, false, false, false, false, false, false, false, false, false] rfl rfl (take_ofW HT_.out HW_.out (by kernel_rfl)) (fun _ _ _ h => h) (Or.inl ⟨by rfl, ?_⟩) hHeld ?_ ?_
                          rotate_left
                          · rintro w' ⟨s0, s1, s2, s3, s4, s5⟩
                            go_simp
                            with_reducible rfl
                          rotate_left
                          · simp only [Act.put, List.setIfInBounds_toArray, List.set_cons_zero, List.set_cons_succ, i64_w, i32_w]
                            rfl
                          refine one_ (i := 5) (N := some 115) #[true, true, true, true, true, true, false, true, true, true, false, false, false, false, false, false, false, false, false, false, false, false, false, false, false, false] rfl rfl (one_of HT_.out (by kernel_rfl)) (by decide) (fun K hK => ?_)
                          refine goes_ Try.func12 (by kernel_rfl) rfl #[.pointer (some ⟨g209, 0, none⟩)] (by rfl) rfl rfl (by (try simp only [List.map_toArray, List.map_cons, List.map_nil]); first | done | rfl | (simp only [List.length_drop, List.length_take]; rfl)) ?_
                          with_reducible refine (disk_Disk_Bytes.calls (PS [u218000]) g209 x210000_24 x210001_24 x210002_24 x210003_24 x210004_24 t302 t305 t306 t307 t308 t309 w _ ?side1 ?side2 A123.out).mono ?_
                          (case side1 => repeat (first | (with_reducible first | exact HI209.out | apply IsU.alloc | apply IsU.drewN | apply IsU.drew | exact IsU.far5 HI209.out ⟨_, BK217.out⟩ NB209_217.out) | exact HI209.out))
                          (case side2 => repeat (first | (with_reducible first | exact HB.out | apply below_alloc | apply pw_below_drewN | apply below_drew1 | refine below_set ?_ (IsU.ge HI209.out) | refine below_set ?_ GE217.out) | exact HB.out))
                          rintro e w144 ⟨v303, rfl, ho0, hi, hb, hk⟩
                          refine ⟨_, rfl, ?_⟩
                          have n0_ := Aside0.mk (Kd.R_mono (Kd.R_told (Kd.R_oldK (IsU.apart (show IsU _ w _ g209 x210000_24 x210001_24 x210002_24 x210003_24 x210004_24 from by repeat (first | (with_reducible first | exact HI209.out | apply IsU.alloc | apply IsU.drewN | apply IsU.drew | exact IsU.far5 HI209.out ⟨_, BK217.out⟩ NB209_217.out) | exact HI209.out)) (by (with_reducible repeat (first | apply Kd.R_alloc | apply Kd.R_drewN | apply Kd.R_drew)); exact HO_218000.out) (by decide)) hk) (Kd.R_base ho0)) (fun _ h_ => h_.1))
                          have n1_ := Aside0.mk (KeepBut.blk hk (g' := gb217) (o := .cells #[u218000, .int .i64 x218001_24, .int .i64 x218002_24, .int .i64 x218003_24, .bool x218004_24] 41 (0, 0)) (by (with_reducible repeat (first | refine blk_drewN ?_ _ | refine blk_drew ?_ | refine blk_alloc ?_ _)); exact BK217.out) NB217_209.out (by simp))
                          have n2_ := Aside0.mk (Kd.R_lower (Kd.R_new' ho0 (Kd.R_lt (by (with_reducible repeat (first | apply Kd.R_alloc | apply Kd.R_drewN | apply Kd.R_drew)); exact HO_218000.out))) (below_size (by repeat (first | (with_reducible first | exact HB.out | apply below_alloc | apply pw_below_drewN | apply below_drew1 | refine below_set ?_ (IsU.ge HI209.out) | refine below_set ?_ GE217.out) | exact HB.out))))
                          have n3_ := Aside0.mk (hb)
                          have n4_ := Aside0.mk (hi)
                          clear HO_218000
                          clear BK217
                          clear HB
                          clear HI209
                          have HO_218000 := n0_
                          have BK217 := n1_
                          have HO304 := n2_
                          have HB := n3_
                          have HI209 := n4_
                          clear n0_ n1_ n2_ n3_ n4_
                          (try clear hb)
                          (try clear hb2)
                          (try clear hk)
                          (try clear hi)
                          (try clear ho0)
                          have hcv146 := own_string (P := Try.prog) Try.underlying27 Try.underlying5 Try.underlying9 (Kd.own_of_R HO_218000.out)
                          refine hK.out _ _ ⟨(blk_cell BK217.out 0).trans rfl, (blk_cell BK217.out 1).trans rfl, (blk_cell BK217.out 2).trans rfl, (blk_cell BK217.out 3).trans rfl, (blk_cell BK217.out 4).trans rfl, own_string (P := Try.prog) Try.underlying27 Try.underlying5 Try.underlying9 (Kd.own_of_R HO_218000.out)⟩ (fun hHeld => ?_)
                          clear hK K
                          refine norm_ (a' := ?_) ?_ ?_
                          rotate_left
                          · show Act.put _ (some 115) _ = _
                            simp only [Act.put, List.setIfInBounds_toArray, List.set_cons_zero, List.set_cons_succ, i64_w, i32_w]
                            rfl
                          refine one_ (i := 6) (N := some 116) #[true, true, true, true, true, true, true, true, true, true, false, false, false, false, false, false, false, false, false, false, false, false, false, false, false, false] rfl rfl (one_of HT_.out (by kernel_rfl)) (by decide) (fun K hK => ?_)
                          have hcv145 := own_string (P := Try.prog) Try.underlying27 Try.underlying5 Try.underlying9 (Kd.own_of_R HO304.out)
                          refine value_ (w1 := ?_) (v := ?_) (by rfl) rfl ?_ ?_
                          rotate_left 2
                          · go_simp
                            constructor
                            · rfl
                            · rfl
                          clear hcv145
                          refine hK.out _ _ ⟨(blk_cell BK217.out 0).trans rfl, (blk_cell BK217.out 1).trans rfl, (blk_cell BK217.out 2).trans rfl, (blk_cell BK217.out 3).trans rfl, (blk_cell BK217.out 4).trans rfl, own_string (P := Try.prog) Try.underlying27 Try.underlying5 Try.underlying9 (Kd.own_of_R HO_218000.out)⟩ (fun hHeld => ?_)
                          clear hK K
                          refine norm_ (a' := ?_) ?_ ?_
                          rotate_left
                          · show Act.put _ (some 116) _ = _
                            simp only [Act.put, List.setIfInBounds_toArray, List.set_cons_zero, List.set_cons_succ, i64_w, i32_w]
                            rfl
                          refine pure_ (i := 10) (N := some 120) (v := ?_) (a' := ?_) #[true, true, true, true, true, true, true, true, true, true, true, false, false, false, false, false, false, false, false, false, false, false, false, false, false, false] rfl rfl (any_of HT_.out (by kernel_rfl)) (fun _ _ _ h => h) (Or.inl ⟨by rfl, ?_⟩) ?_ ?_
                          rotate_left
                          · intro w'
                            go_simp
                            with_reducible rfl
                          rotate_left
                          · simp only [Act.put, List.setIfInBounds_toArray, List.set_cons_zero, List.set_cons_succ, i64_w, i32_w]
                            rfl
                          refine pure_ (i := 11) (N := some 121) (v := ?_) (a' := ?_) #[true, true, true, true, true, true, true, true, true, true, true, true, false, false, false, false, false, false, false, false, false, false, false, false, false, false] rfl rfl (any_of HT_.out (by kernel_rfl)) (fun _ _ _ h => h) (Or.inl ⟨by rfl, ?_⟩) ?_ ?_
                          rotate_left
                          · intro w'
                            go_simp
                            with_reducible rfl
                          rotate_left
                          · simp only [Act.put, List.setIfInBounds_toArray, List.set_cons_zero, List.set_cons_succ, i64_w, i32_w]
                            rfl
                          refine pure_ (i := 12) (N := some 122) (v := ?_) (a' := ?_) #[true, true, true, true, true, true, true, true, true, true, true, true, true, false, false, false, false, false, false, false, false, false, false, false, false, false] rfl rfl (any_of HT_.out (by kernel_rfl)) (fun _ _ _ h => h) (Or.inl ⟨by rfl, ?_⟩) ?_ ?_
                          rotate_left
                          · intro w'
                            go_simp
                            with_reducible rfl
                          rotate_left
                          · simp only [Act.put, List.setIfInBounds_toArray, List.set_cons_zero, List.set_cons_succ, i64_w, i32_w]
                            rfl
                          refine pure_ (i := 13) (N := some 123) (v := ?_) (a' := ?_) #[true, true, true, true, true, true, true, true, true, true, true, true, true, true, false, false, false, false, false, false, false, false, false, false, false, false] rfl rfl (any_of HT_.out (by kernel_rfl)) (fun _ _ _ h => h) (Or.inl ⟨by rfl, ?_⟩) ?_ ?_
                          rotate_left
                          · intro w'
                            go_simp
                            with_reducible rfl
                          rotate_left
                          · simp only [Act.put, List.setIfInBounds_toArray, List.set_cons_zero, List.set_cons_succ, i64_w, i32_w]
                            rfl
                          refine pure_ (i := 15) (N := some 125) (v := ?_) (a' := ?_) #[true, true, true, true, true, true, true, true, true, true, true, true, true, true, false, true, false, false, false, false, false, false, false, false, false, false] rfl rfl (any_of HT_.out (by kernel_rfl)) (fun _ _ _ h => h) (Or.inl ⟨by rfl, ?_⟩) ?_ ?_
                          rotate_left
                          · intro w'
                            go_simp
                            with_reducible rfl
                          rotate_left
                          · simp only [Act.put, List.setIfInBounds_toArray, List.set_cons_zero, List.set_cons_succ, i64_w, i32_w]
                            rfl
                          refine take_ (i := 16) (N := some 126) (v := ?_) (a' := ?_) #[true, true, true, true, true, true, true, true, true, true, true, true, true, true, false, true, true, false, false, false, false, false, false, false, false, false] rfl rfl (take_ofW HT_.out HW_.out (by kernel_rfl)) (fun _ _ _ h => h) (Or.inl ⟨by rfl, ?_⟩) hHeld ?_ ?_
                          rotate_left
                          · rintro w' ⟨s0, s1, s2, s3, s4, s5⟩
                            go_simp
                            with_reducible rfl
                          rotate_left
                          · simp only [Act.put, List.setIfInBounds_toArray, List.set_cons_zero, List.set_cons_succ, i64_w, i32_w]
                            rfl
                          refine one_ (i := 14) (N := some 124) #[true, true, true, true, true, true, true, true, true, true, true, true, true, true, true, true, true, false, false, false, false, false, false, false, false, false] rfl rfl (one_of HT_.out (by kernel_rfl)) (by decide) (fun K hK => ?_)
                          refine goes_ Try.func13 (by kernel_rfl) rfl #[.pointer (some ⟨g209, 0, none⟩)] (by rfl) rfl rfl (by (try simp only [List.map_toArray, List.map_cons, List.map_nil]); first | done | rfl | (simp only [List.length_drop, List.length_take]; rfl)) ?_
                          with_reducible refine (disk_Disk_Safe.calls (PS [u218000]) g209 t305 t306 t307 t308 t309 t310 t311 t312 t313 t314 t315 w _ ?side1 ?side2 A125.out).mono ?_
                          (case side1 => repeat (first | (with_reducible first | exact HI209.out | apply IsU.alloc | apply IsU.drewN | apply IsU.drew | exact IsU.far5 HI209.out ⟨_, BK217.out⟩ NB209_217.out) | exact HI209.out))
                          (case side2 => repeat (first | (with_reducible first | exact HB.out | apply below_alloc | apply pw_below_drewN | apply below_drew1 | refine below_set ?_ (IsU.ge HI209.out) | refine below_set ?_ GE217.out) | exact HB.out))
                          rintro e w148 ⟨rfl, hi, hb, hk⟩
                          refine ⟨_, rfl, ?_⟩
                          have n0_ := Aside0.mk (Kd.R_mono (Kd.R_keep (IsU.apart (show IsU _ w _ g209 t305 t306 t307 t308 t309 from by repeat (first | (with_reducible first | exact HI209.out | apply IsU.alloc | apply IsU.drewN | apply IsU.drew | exact IsU.far5 HI209.out ⟨_, BK217.out⟩ NB209_217.out) | exact HI209.out)) (by (with_reducible repeat (first | apply Kd.R_alloc | apply Kd.R_drewN | apply Kd.R_drew)); exact HO_218000.out) (by decide)) hk (fun _ h => h.2)) (fun _ h => h.1))
                          have n1_ := Aside0.mk (KeepBut.blk hk (g' := gb217) (o := .cells #[u218000, .int .i64 x218001_24, .int .i64 x218002_24, .int .i64 x218003_24, .bool x218004_24] 41 (0, 0)) (by (with_reducible repeat (first | refine blk_drewN ?_ _ | refine blk_drew ?_ | refine blk_alloc ?_ _)); exact BK217.out) NB217_209.out (by simp))
                          have n2_ := Aside0.mk (Kd.R_mono (Kd.R_keep (IsU.apart (show IsU _ w _ g209 t305 t306 t307 t308 t309 from by repeat (first | (with_reducible first | exact HI209.out | apply IsU.alloc | apply IsU.drewN | apply IsU.drew | exact IsU.far5 HI209.out ⟨_, BK217.out⟩ NB209_217.out) | exact HI209.out)) (by (with_reducible repeat (first | apply Kd.R_alloc | apply Kd.R_drewN | apply Kd.R_drew)); exact HO304.out) (by decide)) hk (fun _ h => h.2)) (fun _ h => h.1))
                          have n3_ := Aside0.mk (hb)
                          have n4_ := Aside0.mk (hi)
                          clear HO_218000
                          clear BK217
                          clear HO304
                          clear HB
                          clear HI209
                          have HO_218000 := n0_
                          have BK217 := n1_
                          have HO304 := n2_
                          have HB := n3_
                          have HI209 := n4_
                          clear n0_ n1_ n2_ n3_ n4_
                          (try clear hb)
                          (try clear hb2)
                          (try clear hk)
                          (try clear hi)
                          refine hK.out _ _ ⟨(blk_cell BK217.out 0).trans rfl, (blk_cell BK217.out 1).trans rfl, (blk_cell BK217.out 2).trans rfl, (blk_cell BK217.out 3).trans rfl, (blk_cell BK217.out 4).trans rfl, own_string (P := Try.prog) Try.underlying27 Try.underlying5 Try.underlying9 (Kd.own_of_R HO_218000.out)⟩ (fun hHeld => ?_)
                          clear hK K
                          refine norm_ (a' := ?_) ?_ ?_
                          rotate_left
                          · show Act.put _ (some 124) _ = _
                            simp only [Act.put, List.setIfInBounds_toArray, List.set_cons_zero, List.set_cons_succ, i64_w, i32_w]
                            rfl
                          refine pure_ (i := 17) (N := some 127) (v := ?_) (a' := ?_) #[true, true, true, true, true, true, true, true, true, true, true, true, true, true, true, true, true, true, false, false, false, false, false, false, false, false] rfl rfl (any_of HT_.out (by kernel_rfl)) (fun _ _ _ h => h) (Or.inl ⟨by rfl, ?_⟩) ?_ ?_
                          rotate_left
                          · intro w'
                            go_simp
                            with_reducible rfl
                          rotate_left
                          · simp only [Act.put, List.setIfInBounds_toArray, List.set_cons_zero, List.set_cons_succ, i64_w, i32_w]
                            rfl
                          refine pure_ (i := 18) (N := some 128) (v := ?_) (a' := ?_) #[true, true, true, true, true, true, true, true, true, true, true, true, true, true, true, true, true, true, true, false, false, false, false, false, false, false] rfl rfl (any_of HT_.out (by kernel_rfl)) (fun _ _ _ h => h) (Or.inl ⟨by rfl, ?_⟩) ?_ ?_
                          rotate_left
                          · intro w'
                            go_simp
                            with_reducible rfl
                          rotate_left
                          · simp only [Act.put, List.setIfInBounds_toArray, List.set_cons_zero, List.set_cons_succ, i64_w, i32_w]
                            rfl
                          refine pure_ (i := 19) (N := some 129) (v := ?_) (a' := ?_) #[true, true, true, true, true, true, true, true, true, true, true, true, true, true, true, true, true, true, true, true, false, false, false, false, false, false] rfl rfl (any_of HT_.out (by kernel_rfl)) (fun _ _ _ h => h) (Or.inl ⟨by rfl, ?_⟩) ?_ ?_
                          rotate_left
                          · intro w'
                            go_simp
                            with_reducible rfl
                          rotate_left
                          · simp only [Act.put, List.setIfInBounds_toArray, List.set_cons_zero, List.set_cons_succ, i64_w, i32_w]
                            rfl
                          refine pure_ (i := 20) (N := some 130) (v := undef) (a' := ?_) #[true, true, true, true, true, true, true, true, true, true, true, true, true, true, true, true, true, true, true, true, true, false, false, false, false, false] rfl rfl (any_of HT_.out (by kernel_rfl)) (fun _ _ _ h => h) (Or.inr ⟨by rfl, rfl⟩) ?_ ?_
                          rotate_left
                          · simp only [Act.put, List.setIfInBounds_toArray, List.set_cons_zero, List.set_cons_succ, i64_w, i32_w]
                            rfl
                          refine pure_ (i := 21) (N := some 131) (v := undef) (a' := ?_) #[true, true, true, true, true, true, true, true, true, true, true, true, true, true, true, true, true, true, true, true, true, true, false, false, false, false] rfl rfl (any_of HT_.out (by kernel_rfl)) (fun _ _ _ h => h) (Or.inr ⟨by rfl, rfl⟩) ?_ ?_
                          rotate_left
                          · simp only [Act.put, List.setIfInBounds_toArray, List.set_cons_zero, List.set_cons_succ, i64_w, i32_w]
                            rfl
                          refine pure_ (i := 22) (N := some 132) (v := undef) (a' := ?_) #[true, true, true, true, true, true, true, true, true, true, true, true, true, true, true, true, true, true, true, true, true, true, true, false, false, false] rfl rfl (any_of HT_.out (by kernel_rfl)) (fun _ _ _ h => h) (Or.inr ⟨by rfl, rfl⟩) ?_ ?_
                          rotate_left
                          · simp only [Act.put, List.setIfInBounds_toArray, List.set_cons_zero, List.set_cons_succ, i64_w, i32_w]
                            rfl
                          refine pure_ (i := 23) (N := some 133) (v := undef) (a' := ?_) #[true, true, true, true, true, true, true, true, true, true, true, true, true, true, true, true, true, true, true, true, true, true, true, true, false, false] rfl rfl (any_of HT_.out (by kernel_rfl)) (fun _ _ _ h => h) (Or.inr ⟨by rfl, rfl⟩) ?_ ?_
                          rotate_left
                          · simp only [Act.put, List.setIfInBounds_toArray, List.set_cons_zero, List.set_cons_succ, i64_w, i32_w]
                            rfl
                          refine pure_ (i := 24) (N := some 134) (v := undef) (a' := ?_) #[true, true, true, true, true, true, true, true, true, true, true, true, true, true, true, true, true, true, true, true, true, true, true, true, true, false] rfl rfl (any_of HT_.out (by kernel_rfl)) (fun _ _ _ h => h) (Or.inr ⟨by rfl, rfl⟩) ?_ ?_
                          rotate_left
                          · simp only [Act.put, List.setIfInBounds_toArray, List.set_cons_zero, List.set_cons_succ, i64_w, i32_w]
                            rfl
                          refine pure_ (i := 25) (N := some 135) (v := ?_) (a' := ?_) #[true, true, true, true, true, true, true, true, true, true, true, true, true, true, true, true, true, true, true, true, true, true, true, true, true, true] rfl rfl (any_of HT_.out (by kernel_rfl)) (fun _ _ _ h => h) (Or.inl ⟨by rfl, ?_⟩) ?_ ?_
                          rotate_left
                          · intro w'
                            go_simp
                            with_reducible rfl
                          rotate_left
                          · simp only [Act.put, List.setIfInBounds_toArray, List.set_cons_zero, List.set_cons_succ, i64_w, i32_w]
                            rfl
                          refine done_ (done_of HT_.out (by kernel_rfl)) ?_
                          try go_wp2
                          go_ret
                          exact ⟨by first | rfl | (simp [errW_none, errW_some] <;> rfl) | (simp [*, errW_none, errW_some] <;> rfl), by repeat (first | (with_reducible first | exact HB.out | apply below_alloc | apply pw_below_drewN | apply below_drew1 | refine below_set ?_ (IsU.ge HI209.out) | refine below_set ?_ GE217.out) | exact HB.out)⟩
                      · rw [if_neg c124] at H
                        have c124b0 : ((strOfNums t302).toList == (strOfNums x218000_24).toList) = false := beq_eq_false_iff_ne.mpr c124
                        have c124b1 : ((strOfNums t302).toList != (strOfNums x218000_24).toList) = true := bne_iff_ne.mpr c124
                        obtain rfl := Option.some.inj H
                        try go_wp2
                        have n0_ := Aside0.mk (Kd.R_drew HO_218000.out)
                        have n1_ := Aside0.mk (blk_drew BK217.out)
                        have n2_ := Aside0.mk (IsU.drew HI209.out)
                        have n3_ := Aside0.mk (below_drew1 HB.out)
                        clear HO_218000
                        clear BK217
                        clear HI209
                        clear HB
                        have HO_218000 := n0_
                        have BK217 := n1_
                        have HI209 := n2_
                        have HB := n3_
                        clear n0_ n1_ n2_ n3_
                        refine start_ (n := 26) (S := fun w' => w'.cell? ⟨gb217, 0, none⟩ = some (u218000) ∧ w'.cell? ⟨gb217, 1, none⟩ = some (.int .i64 x218001_24) ∧ w'.cell? ⟨gb217, 2, none⟩ = some (.int .i64 x218002_24) ∧ w'.cell? ⟨gb217, 3, none⟩ = some (.int .i64 x218003_24) ∧ w'.cell? ⟨gb217, 4, none⟩ = some (.bool x218004_24) ∧ (convert 27 9 u218000).run Try.prog w' = .ok (.string (strOfNums x218000_24)) w') (ds := []) #[false, false, false, false, false, false, false, false, false, false, false, false, false, false, false, false, false, false, false, false, false, false, false, false, false, false] (by kernel_rfl) rfl rfl ⟨(blk_cell BK217.out 0).trans rfl, (blk_cell BK217.out 1).trans rfl, (blk_cell BK217.out 2).trans rfl, (blk_cell BK217.out 3).trans rfl, (blk_cell BK217.out 4).trans rfl, own_string (P := Try.prog) Try.underlying27 Try.underlying5 Try.underlying9 (Kd.own_of_R HO_218000.out)⟩ (fun hHeld => ?_); refine with_tabW ropewaylaw08_DiskRuns.tab36 ropewaylaw08_DiskRuns.bits36 (fun HT_ HW_ => ?_)
                        generalize wc.drew = w149 at HO_218000 BK217 HI209 HB hHeld ⊢
                        refine pure_ (i := 0) (N := some 110) (v := ?_) (a' := ?_) #[true, false, false, false, false, false, false, false, false, false, false, false, false, false, false, false, false, false, false, false, false, false, false, false, false, false] rfl rfl (any_of HT_.out (by kernel_rfl)) (fun _ _ _ h => h) (Or.inl ⟨by rfl, ?_⟩) ?_ ?_
                        rotate_left
                        · intro w'
                          go_simp
                          with_reducible rfl
                        rotate_left
                        · simp only [Act.put, List.setIfInBounds_toArray, List.set_cons_zero, List.set_cons_succ, i64_w, i32_w]
                          rfl
                        refine pure_ (i := 1) (N := some 111) (v := ?_) (a' := ?_) #[true, true, false, false, false, false, false, false, false, false, false, false, false, false, false, false, false, false, false, false, false, false, false, false, false, false] rfl rfl (any_of HT_.out (by kernel_rfl)) (fun _ _ _ h => h) (Or.inl ⟨by rfl, ?_⟩) ?_ ?_
                        rotate_left
                        · intro w'
                          go_simp
                          with_reducible rfl
                        rotate_left
                        · simp only [Act.put, List.setIfInBounds_toArray, List.set_cons_zero, List.set_cons_succ, i64_w, i32_w]
                          rfl
                        refine pure_ (i := 2) (N := some 112) (v := ?_) (a' := ?_) #[true, true, true, false, false, false, false, false, false, false, false, false, false, false, false, false, false, false, false, false, false, false, false, false, false, false] rfl rfl (any_of HT_.out (by kernel_rfl)) (fun _ _ _ h => h) (Or.inl ⟨by rfl, ?_⟩) ?_ ?_
                        rotate_left
                        · intro w'
                          go_simp
                          with_reducible rfl
                        rotate_left
                        · simp only [Act.put, List.setIfInBounds_toArray, List.set_cons_zero, List.set_cons_succ, i64_w, i32_w]
                          rfl
                        refine pure_ (i := 3) (N := some 113) (v := ?_) (a' := ?_) #[true, true, true, true, false, false, false, false, false, false, false, false, false, false, false, false, false, false, false, false, false, false, false, false, false, false] rfl rfl (any_of HT_.out (by kernel_rfl)) (fun _ _ _ h => h) (Or.inl ⟨by rfl, ?_⟩) ?_ ?_
                        rotate_left
                        · intro w'
                          go_simp
                          with_reducible rfl
                        rotate_left
                        · simp only [Act.put, List.setIfInBounds_toArray, List.set_cons_zero, List.set_cons_succ, i64_w, i32_w]
                          rfl
                        refine pure_ (i := 4) (N := some 114) (v := ?_) (a' := ?_) #[true, true, true, true, true, false, false, false, false, false, false, false, false, false, false, false, false, false, false, false, false, false, false, false, false, false] rfl rfl (any_of HT_.out (by kernel_rfl)) (fun _ _ _ h => h) (Or.inl ⟨by rfl, ?_⟩) ?_ ?_
                        rotate_left
                        · intro w'
                          go_simp
                          with_reducible rfl
                        rotate_left
                        · simp only [Act.put, List.setIfInBounds_toArray, List.set_cons_zero, List.set_cons_succ, i64_w, i32_w]
                          rfl
                        refine pure_ (i := 7) (N := some 117) (v := ?_) (a' := ?_) #[true, true, true, true, true, false, false, true, false, false, false, false, false, false, false, false, false, false, false, false, false, false, false, false, false, false] rfl rfl (any_of HT_.out (by kernel_rfl)) (fun _ _ _ h => h) (Or.inl ⟨by rfl, ?_⟩) ?_ ?_
                        rotate_left
                        · intro w'
                          go_simp
                          with_reducible rfl
                        rotate_left
                        · simp only [Act.put, List.setIfInBounds_toArray, List.set_cons_zero, List.set_cons_succ, i64_w, i32_w]
                          rfl
                        refine take_ (i := 8) (N := some 118) (v := ?_) (a' := ?_) #[true, true, true, true, true, false, false, true, true, false, false, false, false, false, false, false, false, false, false, false, false, false, false, false, false, false] rfl rfl (take_ofW HT_.out HW_.out (by kernel_rfl)) (fun _ _ _ h => h) (Or.inl ⟨by rfl, ?_⟩) hHeld ?_ ?_
                        rotate_left
                        · rintro w' ⟨s0, s1, s2, s3, s4, s5⟩
                          go_simp
                          with_reducible rfl
                        rotate_left
                        · simp only [Act.put, List.setIfInBounds_toArray, List.set_cons_zero, List.set_cons_succ, i64_w, i32_w]
                          rfl
                        refine take_ (i := 9) (N := some 119) (v := ?_) (a' := ?_) #[true, true, true, true, true, false, false, true, true, true, false, false, false, false, false, false, false, false, false, false, false, false, false, false, false, false] rfl rfl (take_ofW HT_.out HW_.out (by kernel_rfl)) (fun _ _ _ h => h) (Or.inl ⟨by rfl, ?_⟩) hHeld ?_ ?_
                        rotate_left
                        · rintro w' ⟨s0, s1, s2, s3, s4, s5⟩
                          go_simp
                          with_reducible rfl
                        rotate_left
                        · simp only [Act.put, List.setIfInBounds_toArray, List.set_cons_zero, List.set_cons_succ, i64_w, i32_w]
                          rfl
                        refine one_ (i := 5) (N := some 115) #[true, true, true, true, true, true, false, true, true, true, false, false, false, false, false, false, false, false, false, false, false, false, false, false, false, false] rfl rfl (one_of HT_.out (by kernel_rfl)) (by decide) (fun K hK => ?_)
                        refine goes_ Try.func12 (by kernel_rfl) rfl #[.pointer (some ⟨g209, 0, none⟩)] (by rfl) rfl rfl (by (try simp only [List.map_toArray, List.map_cons, List.map_nil]); first | done | rfl | (simp only [List.length_drop, List.length_take]; rfl)) ?_
                        with_reducible refine (disk_Disk_Bytes.calls (PS [u218000]) g209 x210000_24 x210001_24 x210002_24 x210003_24 x210004_24 t302 t305 t306 t307 t308 t309 w _ ?side1 ?side2 A123.out).mono ?_
                        (case side1 => repeat (first | (with_reducible first | exact HI209.out | apply IsU.alloc | apply IsU.drewN | apply IsU.drew | exact IsU.far5 HI209.out ⟨_, BK217.out⟩ NB209_217.out) | exact HI209.out))
                        (case side2 => repeat (first | (with_reducible first | exact HB.out | apply below_alloc | apply pw_below_drewN | apply below_drew1 | refine below_set ?_ (IsU.ge HI209.out) | refine below_set ?_ GE217.out) | exact HB.out))
                        rintro e w150 ⟨v303, rfl, ho0, hi, hb, hk⟩
                        refine ⟨_, rfl, ?_⟩
                        have n0_ := Aside0.mk (Kd.R_mono (Kd.R_told (Kd.R_oldK (IsU.apart (show IsU _ w _ g209 x210000_24 x210001_24 x210002_24 x210003_24 x210004_24 from by repeat (first | (with_reducible first | exact HI209.out | apply IsU.alloc | apply IsU.drewN | apply IsU.drew | exact IsU.far5 HI209.out ⟨_, BK217.out⟩ NB209_217.out) | exact HI209.out)) (by (with_reducible repeat (first | apply Kd.R_alloc | apply Kd.R_drewN | apply Kd.R_drew)); exact HO_218000.out) (by decide)) hk) (Kd.R_base ho0)) (fun _ h_ => h_.1))
                        have n1_ := Aside0.mk (KeepBut.blk hk (g' := gb217) (o := .cells #[u218000, .int .i64 x218001_24, .int .i64 x218002_24, .int .i64 x218003_24, .bool x218004_24] 41 (0, 0)) (by (with_reducible repeat (first | refine blk_drewN ?_ _ | refine blk_drew ?_ | refine blk_alloc ?_ _)); exact BK217.out) NB217_209.out (by simp))
                        have n2_ := Aside0.mk (Kd.R_lower (Kd.R_new' ho0 (Kd.R_lt (by (with_reducible repeat (first | apply Kd.R_alloc | apply Kd.R_drewN | apply Kd.R_drew)); exact HO_218000.out))) (below_size (by repeat (first | (with_reducible first | exact HB.out | apply below_alloc | apply pw_below_drewN | apply below_drew1 | refine below_set ?_ (IsU.ge HI209.out) | refine below_set ?_ GE217.out) | exact HB.out))))
                        have n3_ := Aside0.mk (hb)
                        have n4_ := Aside0.mk (hi)
                        clear HO_218000
                        clear BK217
                        clear HB
                        clear HI209
                        have HO_218000 := n0_
                        have BK217 := n1_
                        have HO304 := n2_
                        have HB := n3_
                        have HI209 := n4_
                        clear n0_ n1_ n2_ n3_ n4_
                        (try clear hb)
                        (try clear hb2)
                        (try clear hk)
                        (try clear hi)
                        (try clear ho0)
                        have hcv152 := own_string (P := Try.prog) Try.underlying27 Try.underlying5 Try.underlying9 (Kd.own_of_R HO_218000.out)
                        refine hK.out _ _ ⟨(blk_cell BK217.out 0).trans rfl, (blk_cell BK217.out 1).trans rfl, (blk_cell BK217.out 2).trans rfl, (blk_cell BK217.out 3).trans rfl, (blk_cell BK217.out 4).trans rfl, own_string (P := Try.prog) Try.underlying27 Try.underlying5 Try.underlying9 (Kd.own_of_R HO_218000.out)⟩ (fun hHeld => ?_)
                        clear hK K
                        refine norm_ (a' := ?_) ?_ ?_
                        rotate_left
                        · show Act.put _ (some 115) _ = _
                          simp only [Act.put, List.setIfInBounds_toArray, List.set_cons_zero, List.set_cons_succ, i64_w, i32_w]
                          rfl
                        refine one_ (i := 6) (N := some 116) #[true, true, true, true, true, true, true, true, true, true, false, false, false, false, false, false, false, false, false, false, false, false, false, false, false, false] rfl rfl (one_of HT_.out (by kernel_rfl)) (by decide) (fun K hK => ?_)
                        have hcv151 := own_string (P := Try.prog) Try.underlying27 Try.underlying5 Try.underlying9 (Kd.own_of_R HO304.out)
                        refine value_ (w1 := ?_) (v := ?_) (by rfl) rfl ?_ ?_
                        rotate_left 2
                        · go_simp
                          constructor
                          · rfl
                          · rfl
                        clear hcv151
                        refine hK.out _ _ ⟨(blk_cell BK217.out 0).trans rfl, (blk_cell BK217.out 1).trans rfl, (blk_cell BK217.out 2).trans rfl, (blk_cell BK217.out 3).trans rfl, (blk_cell BK217.out 4).trans rfl, own_string (P := Try.prog) Try.underlying27 Try.underlying5 Try.underlying9 (Kd.own_of_R HO_218000.out)⟩ (fun hHeld => ?_)
                        clear hK K
                        refine norm_ (a' := ?_) ?_ ?_
                        rotate_left
                        · show Act.put _ (some 116) _ = _
                          simp only [Act.put, List.setIfInBounds_toArray, List.set_cons_zero, List.set_cons_succ, i64_w, i32_w]
                          rfl
                        refine pure_ (i := 10) (N := some 120) (v := ?_) (a' := ?_) #[true, true, true, true, true, true, true, true, true, true, true, false, false, false, false, false, false, false, false, false, false, false, false, false, false, false] rfl rfl (any_of HT_.out (by kernel_rfl)) (fun _ _ _ h => h) (Or.inl ⟨by rfl, ?_⟩) ?_ ?_
                        rotate_left
                        · intro w'
                          go_simp
                          with_reducible rfl
                        rotate_left
                        · simp only [Act.put, List.setIfInBounds_toArray, List.set_cons_zero, List.set_cons_succ, i64_w, i32_w]
                          rfl
                        refine pure_ (i := 11) (N := some 121) (v := ?_) (a' := ?_) #[true, true, true, true, true, true, true, true, true, true, true, true, false, false, false, false, false, false, false, false, false, false, false, false, false, false] rfl rfl (any_of HT_.out (by kernel_rfl)) (fun _ _ _ h => h) (Or.inl ⟨by rfl, ?_⟩) ?_ ?_
                        rotate_left
                        · intro w'
                          go_simp
                          with_reducible rfl
                        rotate_left
                        · simp only [Act.put, List.setIfInBounds_toArray, List.set_cons_zero, List.set_cons_succ, i64_w, i32_w]
                          rfl
                        refine pure_ (i := 12) (N := some 122) (v := ?_) (a' := ?_) #[true, true, true, true, true, true, true, true, true, true, true, true, true, false, false, false, false, false, false, false, false, false, false, false, false, false] rfl rfl (any_of HT_.out (by kernel_rfl)) (fun _ _ _ h => h) (Or.inl ⟨by rfl, ?_⟩) ?_ ?_
                        rotate_left
                        · intro w'
                          go_simp
                          with_reducible rfl
                        rotate_left
                        · simp only [Act.put, List.setIfInBounds_toArray, List.set_cons_zero, List.set_cons_succ, i64_w, i32_w]
                          rfl
                        refine pure_ (i := 13) (N := some 123) (v := undef) (a' := ?_) #[true, true, true, true, true, true, true, true, true, true, true, true, true, true, false, false, false, false, false, false, false, false, false, false, false, false] rfl rfl (any_of HT_.out (by kernel_rfl)) (fun _ _ _ h => h) (Or.inr ⟨by rfl, rfl⟩) ?_ ?_
                        rotate_left
                        · simp only [Act.put, List.setIfInBounds_toArray, List.set_cons_zero, List.set_cons_succ, i64_w, i32_w]
                          rfl
                        refine pure_ (i := 14) (N := some 124) (v := undef) (a' := ?_) #[true, true, true, true, true, true, true, true, true, true, true, true, true, true, true, false, false, false, false, false, false, false, false, false, false, false] rfl rfl (any_of HT_.out (by kernel_rfl)) (fun _ _ _ h => h) (Or.inr ⟨by rfl, rfl⟩) ?_ ?_
                        rotate_left
                        · simp only [Act.put, List.setIfInBounds_toArray, List.set_cons_zero, List.set_cons_succ, i64_w, i32_w]
                          rfl
                        refine pure_ (i := 15) (N := some 125) (v := undef) (a' := ?_) #[true, true, true, true, true, true, true, true, true, true, true, true, true, true, true, true, false, false, false, false, false, false, false, false, false, false] rfl rfl (any_of HT_.out (by kernel_rfl)) (fun _ _ _ h => h) (Or.inr ⟨by rfl, rfl⟩) ?_ ?_
                        rotate_left
                        · simp only [Act.put, List.setIfInBounds_toArray, List.set_cons_zero, List.set_cons_succ, i64_w, i32_w]
                          rfl
                        refine pure_ (i := 16) (N := some 126) (v := undef) (a' := ?_) #[true, true, true, true, true, true, true, true, true, true, true, true, true, true, true, true, true, false, false, false, false, false, false, false, false, false] rfl rfl (any_of HT_.out (by kernel_rfl)) (fun _ _ _ h => h) (Or.inr ⟨by rfl, rfl⟩) ?_ ?_
                        rotate_left
                        · simp only [Act.put, List.setIfInBounds_toArray, List.set_cons_zero, List.set_cons_succ, i64_w, i32_w]
                          rfl
                        refine pure_ (i := 17) (N := some 127) (v := undef) (a' := ?_) #[true, true, true, true, true, true, true, true, true, true, true, true, true, true, true, true, true, true, false, false, false, false, false, false, false, false] rfl rfl (any_of HT_.out (by kernel_rfl)) (fun _ _ _ h => h) (Or.inr ⟨by rfl, rfl⟩) ?_ ?_
                        rotate_left
                        · simp only [Act.put, List.setIfInBounds_toArray, List.set_cons_zero, List.set_cons_succ, i64_w, i32_w]
                          rfl
                        refine pure_ (i := 18) (N := some 128) (v := ?_) (a' := ?_) #[true, true, true, true, true, true, true, true, true, true, true, true, true, true, true, true, true, true, true, false, false, false, false, false, false, false] rfl rfl (any_of HT_.out (by kernel_rfl)) (fun _ _ _ h => h) (Or.inl ⟨by rfl, ?_⟩) ?_ ?_
                        rotate_left
                        · intro w'
                          go_simp
                          with_reducible rfl
                        rotate_left
                        · simp only [Act.put, List.setIfInBounds_toArray, List.set_cons_zero, List.set_cons_succ, i64_w, i32_w]
                          rfl
                        refine pure_ (i := 19) (N := some 129) (v := ?_) (a' := ?_) #[true, true, true, true, true, true, true, true, true, true, true, true, true, true, true, true, true, true, true, true, false, false, false, false, false, false] rfl rfl (any_of HT_.out (by kernel_rfl)) (fun _ _ _ h => h) (Or.inl ⟨by rfl, ?_⟩) ?_ ?_
                        rotate_left
                        · intro w'
                          go_simp
                          with_reducible rfl
                        rotate_left
                        · simp only [Act.put, List.setIfInBounds_toArray, List.set_cons_zero, List.set_cons_succ, i64_w, i32_w]
                          rfl
                        refine pure_ (i := 20) (N := some 130) (v := undef) (a' := ?_) #[true, true, true, true, true, true, true, true, true, true, true, true, true, true, true, true, true, true, true, true, true, false, false, false, false, false] rfl rfl (any_of HT_.out (by kernel_rfl)) (fun _ _ _ h => h) (Or.inr ⟨by rfl, rfl⟩) ?_ ?_
                        rotate_left
                        · simp only [Act.put, List.setIfInBounds_toArray, List.set_cons_zero, List.set_cons_succ, i64_w, i32_w]
                          rfl
                        refine pure_ (i := 21) (N := some 131) (v := undef) (a' := ?_) #[true, true, true, true, true, true, true, true, true, true, true, true, true, true, true, true, true, true, true, true, true, true, false, false, false, false] rfl rfl (any_of HT_.out (by kernel_rfl)) (fun _ _ _ h => h) (Or.inr ⟨by rfl, rfl⟩) ?_ ?_
                        rotate_left
                        · simp only [Act.put, List.setIfInBounds_toArray, List.set_cons_zero, List.set_cons_succ, i64_w, i32_w]
                          rfl
                        refine pure_ (i := 22) (N := some 132) (v := undef) (a' := ?_) #[true, true, true, true, true, true, true, true, true, true, true, true, true, true, true, true, true, true, true, true, true, true, true, false, false, false] rfl rfl (any_of HT_.out (by kernel_rfl)) (fun _ _ _ h => h) (Or.inr ⟨by rfl, rfl⟩) ?_ ?_
                        rotate_left
                        · simp only [Act.put, List.setIfInBounds_toArray, List.set_cons_zero, List.set_cons_succ, i64_w, i32_w]
                          rfl
                        refine pure_ (i := 23) (N := some 133) (v := undef) (a' := ?_) #[true, true, true, true, true, true, true, true, true, true, true, true, true, true, true, true, true, true, true, true, true, true, true, true, false, false] rfl rfl (any_of HT_.out (by kernel_rfl)) (fun _ _ _ h => h) (Or.inr ⟨by rfl, rfl⟩) ?_ ?_
                        rotate_left
                        · simp only [Act.put, List.setIfInBounds_toArray, List.set_cons_zero, List.set_cons_succ, i64_w, i32_w]
                          rfl
                        refine pure_ (i := 24) (N := some 134) (v := undef) (a' := ?_) #[true, true, true, true, true, true, true, true, true, true, true, true, true, true, true, true, true, true, true, true, true, true, true, true, true, false] rfl rfl (any_of HT_.out (by kernel_rfl)) (fun _ _ _ h => h) (Or.inr ⟨by rfl, rfl⟩) ?_ ?_
                        rotate_left
                        · simp only [Act.put, List.setIfInBounds_toArray, List.set_cons_zero, List.set_cons_succ, i64_w, i32_w]
                          rfl
                        refine pure_ (i := 25) (N := some 135) (v := ?_) (a' := ?_) #[true, true, true, true, true, true, true, true, true, true, true, true, true, true, true, true, true, true, true, true, true, true, true, true, true, true] rfl rfl (any_of HT_.out (by kernel_rfl)) (fun _ _ _ h => h) (Or.inl ⟨by rfl, ?_⟩) ?_ ?_
                        rotate_left
                        · intro w'
                          go_simp
                          with_reducible rfl
                        rotate_left
                        · simp only [Act.put, List.setIfInBounds_toArray, List.set_cons_zero, List.set_cons_succ, i64_w, i32_w]
                          rfl
                        refine done_ (done_of HT_.out (by kernel_rfl)) ?_
                        try go_wp2
                        go_ret
                        exact ⟨by first | rfl | (simp [errW_none, errW_some] <;> rfl) | (simp [*, errW_none, errW_some] <;> rfl), by repeat (first | (with_reducible first | exact HB.out | apply below_alloc | apply pw_below_drewN | apply below_drew1 | refine below_set ?_ (IsU.ge HI209.out) | refine below_set ?_ GE217.out) | exact HB.out)⟩
                    · rw [if_neg c122] at H
                      have c122b0 : (x9_24 == x10_24) = false := beq_eq_false_iff_ne.mpr c122
                      have c122b1 : (x9_24 != x10_24) = true := bne_iff_ne.mpr c122
                      obtain rfl := Option.some.inj H
                      try go_wp2
                      have n0_ := Aside0.mk (Kd.R_drew HO_218000.out)
                      have n1_ := Aside0.mk (blk_drew BK217.out)
                      have n2_ := Aside0.mk (IsU.drew HI209.out)
                      have n3_ := Aside0.mk (below_drew1 HB.out)
                      clear HO_218000
                      clear BK217
                      clear HI209
                      clear HB
                      have HO_218000 := n0_
                      have BK217 := n1_
                      have HI209 := n2_
                      have HB := n3_
                      clear n0_ n1_ n2_ n3_
                      refine start_ (n := 26) (S := fun w' => True) (ds := []) #[false, false, false, false, false, false, false, false, false, false, false, false, false, false, false, false, false, false, false, false, false, false, false, false, false, false] (by kernel_rfl) rfl rfl trivial (fun hHeld => ?_); refine with_tabW ropewaylaw08_DiskRuns.tab36 ropewaylaw08_DiskRuns.bits36 (fun HT_ HW_ => ?_)
                      generalize wc.drew = w154 at HO_218000 BK217 HI209 HB hHeld ⊢
                      refine pure_ (i := 0) (N := some 110) (v := ?_) (a' := ?_) #[true, false, false, false, false, false, false, false, false, false, false, false, false, false, false, false, false, false, false, false, false, false, false, false, false, false] rfl rfl (any_of HT_.out (by kernel_rfl)) (fun _ _ _ h => h) (Or.inl ⟨by rfl, ?_⟩) ?_ ?_
                      rotate_left
                      · intro w'
                        go_simp
                        with_reducible rfl
                      rotate_left
                      · simp only [Act.put, List.setIfInBounds_toArray, List.set_cons_zero, List.set_cons_succ, i64_w, i32_w]
                        rfl
                      refine pure_ (i := 1) (N := some 111) (v := ?_) (a' := ?_) #[true, true, false, false, false, false, false, false, false, false, false, false, false, false, false, false, false, false, false, false, false, false, false, false, false, false] rfl rfl (any_of HT_.out (by kernel_rfl)) (fun _ _ _ h => h) (Or.inl ⟨by rfl, ?_⟩) ?_ ?_
                      rotate_left
                      · intro w'
                        go_simp
                        with_reducible rfl
                      rotate_left
                      · simp only [Act.put, List.setIfInBounds_toArray, List.set_cons_zero, List.set_cons_succ, i64_w, i32_w]
                        rfl
                      refine pure_ (i := 2) (N := some 112) (v := ?_) (a' := ?_) #[true, true, true, false, false, false, false, false, false, false, false, false, false, false, false, false, false, false, false, false, false, false, false, false, false, false] rfl rfl (any_of HT_.out (by kernel_rfl)) (fun _ _ _ h => h) (Or.inl ⟨by rfl, ?_⟩) ?_ ?_
                      rotate_left
                      · intro w'
                        go_simp
                        with_reducible rfl
                      rotate_left
                      · simp only [Act.put, List.setIfInBounds_toArray, List.set_cons_zero, List.set_cons_succ, i64_w, i32_w]
                        rfl
                      refine pure_ (i := 3) (N := some 113) (v := ?_) (a' := ?_) #[true, true, true, true, false, false, false, false, false, false, false, false, false, false, false, false, false, false, false, false, false, false, false, false, false, false] rfl rfl (any_of HT_.out (by kernel_rfl)) (fun _ _ _ h => h) (Or.inl ⟨by rfl, ?_⟩) ?_ ?_
                      rotate_left
                      · intro w'
                        go_simp
                        with_reducible rfl
                      rotate_left
                      · simp only [Act.put, List.setIfInBounds_toArray, List.set_cons_zero, List.set_cons_succ, i64_w, i32_w]
                        rfl
                      refine pure_ (i := 4) (N := some 114) (v := undef) (a' := ?_) #[true, true, true, true, true, false, false, false, false, false, false, false, false, false, false, false, false, false, false, false, false, false, false, false, false, false] rfl rfl (any_of HT_.out (by kernel_rfl)) (fun _ _ _ h => h) (Or.inr ⟨by rfl, rfl⟩) ?_ ?_
                      rotate_left
                      · simp only [Act.put, List.setIfInBounds_toArray, List.set_cons_zero, List.set_cons_succ, i64_w, i32_w]
                        rfl
                      refine pure_ (i := 5) (N := some 115) (v := undef) (a' := ?_) #[true, true, true, true, true, true, false, false, false, false, false, false, false, false, false, false, false, false, false, false, false, false, false, false, false, false] rfl rfl (any_of HT_.out (by kernel_rfl)) (fun _ _ _ h => h) (Or.inr ⟨by rfl, rfl⟩) ?_ ?_
                      rotate_left
                      · simp only [Act.put, List.setIfInBounds_toArray, List.set_cons_zero, List.set_cons_succ, i64_w, i32_w]
                        rfl
                      refine pure_ (i := 6) (N := some 116) (v := undef) (a' := ?_) #[true, true, true, true, true, true, true, false, false, false, false, false, false, false, false, false, false, false, false, false, false, false, false, false, false, false] rfl rfl (any_of HT_.out (by kernel_rfl)) (fun _ _ _ h => h) (Or.inr ⟨by rfl, rfl⟩) ?_ ?_
                      rotate_left
                      · simp only [Act.put, List.setIfInBounds_toArray, List.set_cons_zero, List.set_cons_succ, i64_w, i32_w]
                        rfl
                      refine pure_ (i := 7) (N := some 117) (v := undef) (a' := ?_) #[true, true, true, true, true, true, true, true, false, false, false, false, false, false, false, false, false, false, false, false, false, false, false, false, false, false] rfl rfl (any_of HT_.out (by kernel_rfl)) (fun _ _ _ h => h) (Or.inr ⟨by rfl, rfl⟩) ?_ ?_
                      rotate_left
                      · simp only [Act.put, List.setIfInBounds_toArray, List.set_cons_zero, List.set_cons_succ, i64_w, i32_w]
                        rfl
                      refine pure_ (i := 8) (N := some 118) (v := undef) (a' := ?_) #[true, true, true, true, true, true, true, true, true, false, false, false, false, false, false, false, false, false, false, false, false, false, false, false, false, false] rfl rfl (any_of HT_.out (by kernel_rfl)) (fun _ _ _ h => h) (Or.inr ⟨by rfl, rfl⟩) ?_ ?_
                      rotate_left
                      · simp only [Act.put, List.setIfInBounds_toArray, List.set_cons_zero, List.set_cons_succ, i64_w, i32_w]
                        rfl
                      refine pure_ (i := 9) (N := some 119) (v := undef) (a' := ?_) #[true, true, true, true, true, true, true, true, true, true, false, false, false, false, false, false, false, false, false, false, false, false, false, false, false, false] rfl rfl (any_of HT_.out (by kernel_rfl)) (fun _ _ _ h => h) (Or.inr ⟨by rfl, rfl⟩) ?_ ?_
                      rotate_left
                      · simp only [Act.put, List.setIfInBounds_toArray, List.set_cons_zero, List.set_cons_succ, i64_w, i32_w]
                        rfl
                      refine pure_ (i := 10) (N := some 120) (v := undef) (a' := ?_) #[true, true, true, true, true, true, true, true, true, true, true, false, false, false, false, false, false, false, false, false, false, false, false, false, false, false] rfl rfl (any_of HT_.out (by kernel_rfl)) (fun _ _ _ h => h) (Or.inr ⟨by rfl, rfl⟩) ?_ ?_
                      rotate_left
                      · simp only [Act.put, List.setIfInBounds_toArray, List.set_cons_zero, List.set_cons_succ, i64_w, i32_w]
                        rfl
                      refine pure_ (i := 11) (N := some 121) (v := ?_) (a' := ?_) #[true, true, true, true, true, true, true, true, true, true, true, true, false, false, false, false, false, false, false, false, false, false, false, false, false, false] rfl rfl (any_of HT_.out (by kernel_rfl)) (fun _ _ _ h => h) (Or.inl ⟨by rfl, ?_⟩) ?_ ?_
                      rotate_left
                      · intro w'
                        go_simp
                        with_reducible rfl
                      rotate_left
                      · simp only [Act.put, List.setIfInBounds_toArray, List.set_cons_zero, List.set_cons_succ, i64_w, i32_w]
                        rfl
                      refine pure_ (i := 12) (N := some 122) (v := ?_) (a' := ?_) #[true, true, true, true, true, true, true, true, true, true, true, true, true, false, false, false, false, false, false, false, false, false, false, false, false, false] rfl rfl (any_of HT_.out (by kernel_rfl)) (fun _ _ _ h => h) (Or.inl ⟨by rfl, ?_⟩) ?_ ?_
                      rotate_left
                      · intro w'
                        go_simp
                        with_reducible rfl
                      rotate_left
                      · simp only [Act.put, List.setIfInBounds_toArray, List.set_cons_zero, List.set_cons_succ, i64_w, i32_w]
                        rfl
                      refine pure_ (i := 13) (N := some 123) (v := undef) (a' := ?_) #[true, true, true, true, true, true, true, true, true, true, true, true, true, true, false, false, false, false, false, false, false, false, false, false, false, false] rfl rfl (any_of HT_.out (by kernel_rfl)) (fun _ _ _ h => h) (Or.inr ⟨by rfl, rfl⟩) ?_ ?_
                      rotate_left
                      · simp only [Act.put, List.setIfInBounds_toArray, List.set_cons_zero, List.set_cons_succ, i64_w, i32_w]
                        rfl
                      refine pure_ (i := 14) (N := some 124) (v := undef) (a' := ?_) #[true, true, true, true, true, true, true, true, true, true, true, true, true, true, true, false, false, false, false, false, false, false, false, false, false, false] rfl rfl (any_of HT_.out (by kernel_rfl)) (fun _ _ _ h => h) (Or.inr ⟨by rfl, rfl⟩) ?_ ?_
                      rotate_left
                      · simp only [Act.put, List.setIfInBounds_toArray, List.set_cons_zero, List.set_cons_succ, i64_w, i32_w]
                        rfl
                      refine pure_ (i := 15) (N := some 125) (v := undef) (a' := ?_) #[true, true, true, true, true, true, true, true, true, true, true, true, true, true, true, true, false, false, false, false, false, false, false, false, false, false] rfl rfl (any_of HT_.out (by kernel_rfl)) (fun _ _ _ h => h) (Or.inr ⟨by rfl, rfl⟩) ?_ ?_
                      rotate_left
                      · simp only [Act.put, List.setIfInBounds_toArray, List.set_cons_zero, List.set_cons_succ, i64_w, i32_w]
                        rfl
                      refine pure_ (i := 16) (N := some 126) (v := undef) (a' := ?_) #[true, true, true, true, true, true, true, true, true, true, true, true, true, true, true, true, true, false, false, false, false, false, false, false, false, false] rfl rfl (any_of HT_.out (by kernel_rfl)) (fun _ _ _ h => h) (Or.inr ⟨by rfl, rfl⟩) ?_ ?_
                      rotate_left
                      · simp only [Act.put, List.setIfInBounds_toArray, List.set_cons_zero, List.set_cons_succ, i64_w, i32_w]
                        rfl
                      refine pure_ (i := 17) (N := some 127) (v := undef) (a' := ?_) #[true, true, true, true, true, true, true, true, true, true, true, true, true, true, true, true, true, true, false, false, false, false, false, false, false, false] rfl rfl (any_of HT_.out (by kernel_rfl)) (fun _ _ _ h => h) (Or.inr ⟨by rfl, rfl⟩) ?_ ?_
                      rotate_left
                      · simp only [Act.put, List.setIfInBounds_toArray, List.set_cons_zero, List.set_cons_succ, i64_w, i32_w]
                        rfl
                      refine pure_ (i := 18) (N := some 128) (v := ?_) (a' := ?_) #[true, true, true, true, true, true, true, true, true, true, true, true, true, true, true, true, true, true, true, false, false, false, false, false, false, false] rfl rfl (any_of HT_.out (by kernel_rfl)) (fun _ _ _ h => h) (Or.inl ⟨by rfl, ?_⟩) ?_ ?_
                      rotate_left
                      · intro w'
                        go_simp
                        with_reducible rfl
                      rotate_left
                      · simp only [Act.put, List.setIfInBounds_toArray, List.set_cons_zero, List.set_cons_succ, i64_w, i32_w]
                        rfl
                      refine pure_ (i := 19) (N := some 129) (v := ?_) (a' := ?_) #[true, true, true, true, true, true, true, true, true, true, true, true, true, true, true, true, true, true, true, true, false, false, false, false, false, false] rfl rfl (any_of HT_.out (by kernel_rfl)) (fun _ _ _ h => h) (Or.inl ⟨by rfl, ?_⟩) ?_ ?_
                      rotate_left
                      · intro w'
                        go_simp
                        with_reducible rfl
                      rotate_left
                      · simp only [Act.put, List.setIfInBounds_toArray, List.set_cons_zero, List.set_cons_succ, i64_w, i32_w]
                        rfl
                      refine pure_ (i := 20) (N := some 130) (v := undef) (a' := ?_) #[true, true, true, true, true, true, true, true, true, true, true, true, true, true, true, true, true, true, true, true, true, false, false, false, false, false] rfl rfl (any_of HT_.out (by kernel_rfl)) (fun _ _ _ h => h) (Or.inr ⟨by rfl, rfl⟩) ?_ ?_
                      rotate_left
                      · simp only [Act.put, List.setIfInBounds_toArray, List.set_cons_zero, List.set_cons_succ, i64_w, i32_w]
                        rfl
                      refine pure_ (i := 21) (N := some 131) (v := undef) (a' := ?_) #[true, true, true, true, true, true, true, true, true, true, true, true, true, true, true, true, true, true, true, true, true, true, false, false, false, false] rfl rfl (any_of HT_.out (by kernel_rfl)) (fun _ _ _ h => h) (Or.inr ⟨by rfl, rfl⟩) ?_ ?_
                      rotate_left
                      · simp only [Act.put, List.setIfInBounds_toArray, List.set_cons_zero, List.set_cons_succ, i64_w, i32_w]
                        rfl
                      refine pure_ (i := 22) (N := some 132) (v := undef) (a' := ?_) #[true, true, true, true, true, true, true, true, true, true, true, true, true, true, true, true, true, true, true, true, true, true, true, false, false, false] rfl rfl (any_of HT_.out (by kernel_rfl)) (fun _ _ _ h => h) (Or.inr ⟨by rfl, rfl⟩) ?_ ?_
                      rotate_left
                      · simp only [Act.put, List.setIfInBounds_toArray, List.set_cons_zero, List.set_cons_succ, i64_w, i32_w]
                        rfl
                      refine pure_ (i := 23) (N := some 133) (v := undef) (a' := ?_) #[true, true, true, true, true, true, true, true, true, true, true, true, true, true, true, true, true, true, true, true, true, true, true, true, false, false] rfl rfl (any_of HT_.out (by kernel_rfl)) (fun _ _ _ h => h) (Or.inr ⟨by rfl, rfl⟩) ?_ ?_
                      rotate_left
                      · simp only [Act.put, List.setIfInBounds_toArray, List.set_cons_zero, List.set_cons_succ, i64_w, i32_w]
                        rfl
                      refine pure_ (i := 24) (N := some 134) (v := undef) (a' := ?_) #[true, true, true, true, true, true, true, true, true, true, true, true, true, true, true, true, true, true, true, true, true, true, true, true, true, false] rfl rfl (any_of HT_.out (by kernel_rfl)) (fun _ _ _ h => h) (Or.inr ⟨by rfl, rfl⟩) ?_ ?_
                      rotate_left
                      · simp only [Act.put, List.setIfInBounds_toArray, List.set_cons_zero, List.set_cons_succ, i64_w, i32_w]
                        rfl
                      refine pure_ (i := 25) (N := some 135) (v := ?_) (a' := ?_) #[true, true, true, true, true, true, true, true, true, true, true, true, true, true, true, true, true, true, true, true, true, true, true, true, true, true] rfl rfl (any_of HT_.out (by kernel_rfl)) (fun _ _ _ h => h) (Or.inl ⟨by rfl, ?_⟩) ?_ ?_
                      rotate_left
                      · intro w'
                        go_simp
                        with_reducible rfl
                      rotate_left
                      · simp only [Act.put, List.setIfInBounds_toArray, List.set_cons_zero, List.set_cons_succ, i64_w, i32_w]
                        rfl
                      refine done_ (done_of HT_.out (by kernel_rfl)) ?_
                      try go_wp2
                      go_ret
                      exact ⟨by first | rfl | (simp [errW_none, errW_some] <;> rfl) | (simp [*, errW_none, errW_some] <;> rfl), by repeat (first | (with_reducible first | exact HB.out | apply below_alloc | apply pw_below_drewN | apply below_drew1 | refine below_set ?_ (IsU.ge HI209.out) | refine below_set ?_ GE217.out) | exact HB.out)⟩
              · rw [if_neg c24] at H
                exact absurd H (by simp)
            · rw [if_neg c23] at H
              exact absurd H (by simp)
          · rw [if_neg c22] at H
            have c22b0 : decide (x30_1 < (l1.length : Int)) = false := decide_eq_false c22
            clear c22
            obtain rfl := Option.some.inj H
            go_wp2
            go_ret
            exact ⟨by first | rfl | (simp [errW_none, errW_some] <;> rfl) | (simp [*, errW_none, errW_some] <;> rfl), by repeat (first | (with_reducible first | exact HB.out | apply below_alloc | apply pw_below_drewN | apply below_drew1 | refine below_set ?_ (IsU.ge HI209.out) | refine below_set ?_ GE217.out) | exact HB.out)⟩
  · replace c4 := Bool.eq_false_iff.mpr c4
    subst c4
    have H1 : (some false) = some r := by rw [if_neg (show ¬ (false = true) by decide)] at H; exact H
    clear H
    have H := H1
    clear H1
    obtain rfl := Option.some.inj H
    go_enter Try.func8, Try.ntmps8
    go_wp2_with (first | ((with_reducible refine gate_callee (f := 9) rfl ?_); refine goesL_ (some 13) rfl rfl Try.func9 (by kernel_rfl) rfl #[] rfl (by (try simp only [List.map_toArray, List.map_cons, List.map_nil]); first | done | rfl | (simp only [List.length_drop, List.length_take]; rfl)) ?_; (with_reducible refine (ropewaylaw08_diskAlive.calls  false _ A3.out).mono ?_); rintro e w155 ⟨rfl, hb⟩; refine ⟨_, rfl, ?_⟩; have n0_ := Aside0.mk (below_step (by repeat (first | (with_reducible first | exact HB.out | apply below_alloc | apply pw_below_drewN | apply below_drew1) | exact HB.out)) hb); clear HB; have HB := n0_; clear n0_; (try clear hb); (try clear hb2); (try clear hk); (try clear hi)))
    go_ret
    exact ⟨by first | rfl | (simp [errW_none, errW_some] <;> rfl) | (simp [*, errW_none, errW_some] <;> rfl), by repeat (first | (with_reducible first | exact HB.out | apply below_alloc | apply pw_below_drewN | apply below_drew1) | exact HB.out)⟩

end Go.Proofs.Ythoeoooccmjjaaa.PDru
