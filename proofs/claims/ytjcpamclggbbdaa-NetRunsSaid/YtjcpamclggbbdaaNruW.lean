/- The walk of NetRuns: what a call of it does is what the Lean function says. -/
import Derived.Test.YtjcpamclggbbdaaNruF
namespace Go.Proofs.Ytjcpamclggbbdaa.PNru
open Go.RowKit Go.Proofs.Ytjcpamclggbbdaa.PNgt Go.Proofs.YtjcpamclggbbdaaW.PrintWords Go.Proofs.YtjcpamclggbbdaaW.PrintLast Go.Proofs.YtjcpamclggbbdaaW.PrintMore
attribute [local go_sem] max2_int min2_int max_two min_two max_three min_three max_four min_four
set_option linter.unusedVariables false
set_option linter.unusedSimpArgs false
set_option maxHeartbeats 8000000 in
set_option maxRecDepth 100000 in
theorem ropewaylaw19_NetRuns.calls (k : Nat) (A0 : Option Addr) (c0 : Nat) (l0 : List (S52)) (r : Bool) (w : World) (hr0 : Kd.C k52 w A0 l0.length l0) (hc0 : l0.length ≤ c0) (h : ropewaylaw19_NetRuns.f k l0 = some r) :
    Calls Try.prog 11 #[.slice A0 l0.length c0] w fun e w' => e = .returned (.bool r) ∧ Below w.heap.size w w' := by
  have hu52 := Try.underlying52
  have hu56 := Try.underlying56
  have HR0 := Aside0.mk hr0
  have HC0 := Aside0.mk hc0
  clear hr0 hc0
  have HB := Aside0.mk (Below.refl w.heap.size w)
  have H : ((ropewaylaw19_netAlive.f k).bind fun t => if t = true then (if (l0.length : Int) > 200 then some true else (net_New.f).bind fun s => ropewaylaw19_NetRuns.l0 k [] l0 (l0.length : Int) 0 s) else some false) = some r := h
  clear h
  replace H := Option.bind_eq_some_iff.mp H
  obtain ⟨t, A20, H⟩ := H
  replace H : (if t = true then (if (l0.length : Int) > 200 then some true else (net_New.f).bind fun s => ropewaylaw19_NetRuns.l0 k [] l0 (l0.length : Int) 0 s) else some false) = some r := H
  have A2 := Aside0.mk A20
  clear A20
  by_cases c3 : t = true
  · subst c3
    replace H : (if (l0.length : Int) > 200 then some true else (net_New.f).bind fun s => ropewaylaw19_NetRuns.l0 k [] l0 (l0.length : Int) 0 s) = some r := by rw [if_pos rfl] at H; exact H
    by_cases c4 : (l0.length : Int) > 200
    · rw [if_pos c4] at H
      have c4b0 : decide (200 < (l0.length : Int)) = true := decide_eq_true c4
      have c4b1 : decide (200 < l0.length) = true := decide_eq_true (by omega)
      clear c4
      obtain rfl := Option.some.inj H
      go_enter Try.func11, Try.ntmps11
      go_wp2_with (first | (go_at_call 26; (with_reducible refine (ropewaylaw19_netAlive.calls k  true _ A2.out).mono ?_); rintro e w5 ⟨rfl, hb⟩; have n0_ := Aside0.mk (below_step (by repeat (first | (with_reducible first | exact HB.out | apply below_alloc | apply pw_below_drewN | apply below_drew1) | exact HB.out)) hb); clear HB; have HB := n0_; clear n0_ hb))
      go_ret
      exact ⟨by first | rfl | (simp [errW_none, errW_some] <;> rfl) | (simp [*, errW_none, errW_some] <;> rfl), (by repeat (first | (with_reducible first | exact HB.out | apply below_alloc | apply pw_below_drewN | apply below_drew1) | exact HB.out))⟩
    · rw [if_neg c4] at H
      have c4b0 : decide (200 < (l0.length : Int)) = false := decide_eq_false c4
      have c4b1 : decide (200 < l0.length) = false := decide_eq_false (by omega)
      clear c4
      replace H := Option.bind_eq_some_iff.mp H
      obtain ⟨t224, A60, H⟩ := H
      have A6 := Aside0.mk A60
      clear A60
      have H' : Aside0 (ropewaylaw19_NetRuns.l0 k [] l0 (l0.length : Int) 0 t224 = some r) := ⟨H⟩
      clear H
      go_enter Try.func11, Try.ntmps11
      go_wp2_with (first | (go_at_call 26; (with_reducible refine (ropewaylaw19_netAlive.calls k  true _ A2.out).mono ?_); rintro e w7 ⟨rfl, hb⟩; have n0_ := Aside0.mk (below_step (by repeat (first | (with_reducible first | exact HB.out | apply below_alloc | apply pw_below_drewN | apply below_drew1) | exact HB.out)) hb); clear HB; have HB := n0_; clear n0_ hb) | (go_at_call 24; (with_reducible refine (net_New.calls t224 w _ ?side1 A6.out).mono ?_); (case side1 => exact (by repeat (first | (with_reducible first | exact HB.out | apply below_alloc | apply pw_below_drewN | apply below_drew1) | exact HB.out))); rintro e w8 ⟨g, rfl, hi, hb, hb2⟩; clear HB; have HB := Aside0.mk hb; have HI := Aside0.mk hi; clear hi hb hb2) | ((with_reducible refine gate_dst (N := 26) rfl ?_); (try (refine gate_guard (by rfl) ?_; dsimp only)); refine Kd.R_lit k56 _ 56 ?hg (N := 26) ?hd (xs := ([] : List S56)) (inner := []) (ok := fun _ => True) (okp := fun _ => True) ?hr ?hp (fun _ hk => hk) trivial (Below.refl _ _) (Nat.le_refl _) (by simp) ?_; (case hd => rfl); (case hg => rfl); (case hr => first | (go_simp; done) | (go_simp; rfl)); (case hp => exact (Reps.none _ _)); intro v26 w9 ho hb hg_ hnew_; clear hg_ hnew_; obtain ⟨A26, c26, e26⟩ := Kd.R_slice ho; subst e26; have HS := Aside0.mk (show St (fun _ => False) w _ g (.slice A26 ([] : List S56).length c26) [] t224 from ⟨V_none, IsV.below (by repeat (first | (with_reducible first | exact HI.out | apply IsV.alloc | apply IsV.drewN | apply IsV.drew) | exact HI.out)) hb, below_step (by repeat (first | (with_reducible first | exact HB.out | apply below_alloc | apply pw_below_drewN | apply below_drew1) | exact HB.out)) hb⟩); clear HI HB hb ho))
      go_loopg [4, 29] k (fun kq v4 v29 w' => ∃ (x4_1 : List S56) (x29_1 : Int) (s_1 : List S72) (P_1 : Nat → Prop), v29 = .int .i64 x29_1 ∧ Aside0 (ropewaylaw19_NetRuns.l0 kq x4_1 l0 (l0.length : Int) x29_1 s_1 = some r) ∧ Aside0 (kq ≤ k) ∧ Aside0 (St P_1 w w' g v4 x4_1 s_1))
      case atStart => exact ⟨[], (0), t224, _, (by first | rfl | (simp; done) | (simp [*]; done)), H', ⟨Nat.le_refl _⟩, ⟨(by repeat (first | (with_reducible first | exact HS.out | apply St.alloc | apply St.drewN | apply St.drew | exact St.far5 HS.out HX.out) | exact HS.out | exact St.far2 HS.out HY.out))⟩⟩
      case round =>
        clear H'
        obtain ⟨x4_1, x29_1, s_1, P_1, rfl, HA, HK1, HS⟩ := hrel
        obtain ⟨A4, c4, e4⟩ := Kd.V_slice HS.out.hv
        subst e4
        cases gk with
        | zero => exact absurd HA.out (by simp [ropewaylaw19_NetRuns.l0])
        | succ k1 =>
          have H := HA.out
          clear HA
          simp only [ropewaylaw19_NetRuns.l0] at H
          by_cases c11 : x29_1 < (l0.length : Int)
          · rw [if_pos c11] at H
            have c11b0 : decide (x29_1 < (l0.length : Int)) = true := decide_eq_true c11
            by_cases c12 : 0 ≤ x29_1
            · rw [if_pos c12, if_pos c11] at H
              have c12b0 : decide (0 ≤ x29_1) = true := decide_eq_true c12
              clear c11 c12
              have HC25 := Aside0.mk H
              clear H
              have p229 : 0 ≤ (x29_1 : Int) := of_decide_eq_true c12b0
              have q229 : x29_1 < (l0.length : Int) := of_decide_eq_true c11b0
              obtain ⟨ad229, A229_4, c229_4, e229, hx229_0, hx229_1, hx229_2, hx229_3, hx229_4, hl229_4, hi229_4⟩ := at_T52 HR0.out x29_1 p229 q229
              cases e229
              replace hx229_0 := (HS.out.hb.cell (World.block_lt_of_cell? w _ hx229_0)).trans hx229_0
              replace hx229_1 := (HS.out.hb.cell (World.block_lt_of_cell? w _ hx229_1)).trans hx229_1
              replace hx229_2 := (HS.out.hb.cell (World.block_lt_of_cell? w _ hx229_2)).trans hx229_2
              replace hx229_3 := (HS.out.hb.cell (World.block_lt_of_cell? w _ hx229_3)).trans hx229_3
              replace hx229_4 := (HS.out.hb.cell (World.block_lt_of_cell? w _ hx229_4)).trans hx229_4
              have HR229_4 := Aside0.mk hi229_4
              have HC229_4 := Aside0.mk hl229_4
              clear hi229_4 hl229_4
              replace p229 := eq_true p229
              replace q229 := eq_true q229
              go_upto_block 2 with (first | ((with_reducible refine gate_dst (N := 6) rfl ?_); (try (refine gate_guard (by rfl) ?_; dsimp only)); refine box_event ?hg (N := 6) ?hd (cs := #[.int .i64 0, .int .i64 0, .int .i64 0, .int .u32 0, .slice none 0 0]) (t := 52) ?hr ?_; (case hd => rfl); (case hg => rfl); (case hr => first | (go_simp; done) | (go_simp; rfl)); intro gb hg w6 hbox hb; have n0_ := Aside0.mk (St.below (by repeat (first | (with_reducible first | exact HS.out | apply St.alloc | apply St.drewN | apply St.drew | exact St.far5 HS.out HX.out) | exact HS.out | exact St.far2 HS.out HY.out)) hb); have n1_ := Aside0.mk (Bx.new (t := 52) (by repeat (first | (with_reducible first | exact HS.out | apply St.alloc | apply St.drewN | apply St.drew | exact St.far5 HS.out HX.out) | exact HS.out | exact St.far2 HS.out HY.out)) hg hbox (by decide) (by decide)); have n2_ : Aside0 (gb ≠ g) := ⟨fun e => n1_.out.2.2.1 e.symm⟩; have BK := Aside0.mk hbox; clear HS hb hbox hg; have HS := n0_; have HX := n1_; have HNx := n2_; clear n0_ n1_ n2_; have hnb6 := HNx.out; have hnc6 := HX.out.2.2.1; have hcz6_0 : w6.cell? ⟨gb, 0, none⟩ = some (.int .i64 0) := (blk_cell BK.out 0).trans rfl; have hcz6_1 : w6.cell? ⟨gb, 1, none⟩ = some (.int .i64 0) := (blk_cell BK.out 1).trans rfl; have hcz6_2 : w6.cell? ⟨gb, 2, none⟩ = some (.int .i64 0) := (blk_cell BK.out 2).trans rfl; have hcz6_3 : w6.cell? ⟨gb, 3, none⟩ = some (.int .u32 0) := (blk_cell BK.out 3).trans rfl; have hcz6_4 : w6.cell? ⟨gb, 4, none⟩ = some (.slice none 0 0) := (blk_cell BK.out 4).trans rfl; have hcz6f_0 := blk_frozen BK.out 0; have hcz6f_1 := blk_frozen BK.out 1; have hcz6f_2 := blk_frozen BK.out 2; have hcz6f_3 := blk_frozen BK.out 3; have hcz6f_4 := blk_frozen BK.out 4) | ((with_reducible refine gate_dst (N := 33) rfl ?_); (try (refine gate_guard (by rfl) ?_; dsimp only)); refine Kd.R_lit (Kd.int .u8) _ 5 ?hg (N := 33) ?hd (xs := ([] : List Int)) (inner := []) (ok := fun _ => True) (okp := fun _ => True) ?hr ?hp (fun _ hk => hk) trivial (Below.refl _ _) (Nat.le_refl _) (by simp) ?_; (case hd => rfl); (case hg => rfl); (case hr => first | (go_simp; done) | (go_simp; rfl)); (case hp => exact (Reps.none _ _)); intro v33 w7 ho hb hg_ hnew_; clear hg_ hnew_; obtain ⟨A33, c33, e33⟩ := Kd.R_slice ho; subst e33; have n0_ := Aside0.mk (St.below (by repeat (first | (with_reducible first | exact HS.out | apply St.alloc | apply St.drewN | apply St.drew | exact St.far5 HS.out HX.out) | exact HS.out | exact St.far2 HS.out HY.out)) hb); have n1_ := Aside0.mk (blk_below (g := gb) (o := .cells #[.int .i64 ((rd_T52 l0 x29_1).f0), .int .i64 ((rd_T52 l0 x29_1).f1), .int .i64 ((rd_T52 l0 x29_1).f2), .int .u32 ((rd_T52 l0 x29_1).f3), .slice A229_4 ((rd_T52 l0 x29_1).f4).length c229_4] 52 (0, 0)) (by (with_reducible repeat (first | refine blk_drewN ?_ _ | refine blk_drew ?_ | refine blk_alloc ?_ _)); refine blk_put (cs := #[.int .i64 ((rd_T52 l0 x29_1).f0), .int .i64 ((rd_T52 l0 x29_1).f1), .int .i64 ((rd_T52 l0 x29_1).f2), .int .u32 ((rd_T52 l0 x29_1).f3), .slice none 0 0]) ?_ 4 _ rfl; (with_reducible repeat (first | refine blk_drewN ?_ _ | refine blk_drew ?_ | refine blk_alloc ?_ _)); refine blk_put (cs := #[.int .i64 ((rd_T52 l0 x29_1).f0), .int .i64 ((rd_T52 l0 x29_1).f1), .int .i64 ((rd_T52 l0 x29_1).f2), .int .u32 0, .slice none 0 0]) ?_ 3 _ rfl; (with_reducible repeat (first | refine blk_drewN ?_ _ | refine blk_drew ?_ | refine blk_alloc ?_ _)); refine blk_put (cs := #[.int .i64 ((rd_T52 l0 x29_1).f0), .int .i64 ((rd_T52 l0 x29_1).f1), .int .i64 0, .int .u32 0, .slice none 0 0]) ?_ 2 _ rfl; (with_reducible repeat (first | refine blk_drewN ?_ _ | refine blk_drew ?_ | refine blk_alloc ?_ _)); refine blk_put (cs := #[.int .i64 ((rd_T52 l0 x29_1).f0), .int .i64 0, .int .i64 0, .int .u32 0, .slice none 0 0]) ?_ 1 _ rfl; (with_reducible repeat (first | refine blk_drewN ?_ _ | refine blk_drew ?_ | refine blk_alloc ?_ _)); refine blk_put (cs := #[.int .i64 0, .int .i64 0, .int .i64 0, .int .u32 0, .slice none 0 0]) ?_ 0 _ rfl; (with_reducible repeat (first | refine blk_drewN ?_ _ | refine blk_drew ?_ | refine blk_alloc ?_ _)); exact BK.out) hb); clear HS HX BK hb ho; have HS := n0_; have BK := n1_; clear n0_ n1_) | ((with_reducible refine gate_dst (N := 34) rfl ?_); (try (refine gate_guard (by rfl) ?_; dsimp only)); refine Kd.R_lit (Kd.int .u8) _ 5 ?hg (N := 34) ?hd (xs := ([] : List Int)) (inner := []) (ok := fun _ => True) (okp := fun _ => True) ?hr ?hp (fun _ hk => hk) trivial (Below.refl _ _) (Nat.le_refl _) (by simp) ?_; (case hd => rfl); (case hg => rfl); (case hr => first | (go_simp; done) | (go_simp; rfl)); (case hp => exact (Reps.none _ _)); intro v34 w8 ho hb hg_ hnew_; clear hg_ hnew_; obtain ⟨A34, c34, e34⟩ := Kd.R_slice ho; subst e34; have n0_ := Aside0.mk (St.below (by repeat (first | (with_reducible first | exact HS.out | apply St.alloc | apply St.drewN | apply St.drew | exact St.far5 HS.out HX.out) | exact HS.out | exact St.far2 HS.out HY.out)) hb); have n1_ := Aside0.mk (blk_below (g := gb) (o := .cells #[.int .i64 ((rd_T52 l0 x29_1).f0), .int .i64 ((rd_T52 l0 x29_1).f1), .int .i64 ((rd_T52 l0 x29_1).f2), .int .u32 ((rd_T52 l0 x29_1).f3), .slice A229_4 ((rd_T52 l0 x29_1).f4).length c229_4] 52 (0, 0)) (by (with_reducible repeat (first | refine blk_drewN ?_ _ | refine blk_drew ?_ | refine blk_alloc ?_ _)); exact BK.out) hb); clear HS BK hb ho; have HS := n0_; have BK := n1_; clear n0_ n1_; have hcz8_0 : w8.cell? ⟨gb, 0, none⟩ = some (.int .i64 ((rd_T52 l0 x29_1).f0)) := (blk_cell BK.out 0).trans rfl; have hcz8_1 : w8.cell? ⟨gb, 1, none⟩ = some (.int .i64 ((rd_T52 l0 x29_1).f1)) := (blk_cell BK.out 1).trans rfl; have hcz8_2 : w8.cell? ⟨gb, 2, none⟩ = some (.int .i64 ((rd_T52 l0 x29_1).f2)) := (blk_cell BK.out 2).trans rfl; have hcz8_3 : w8.cell? ⟨gb, 3, none⟩ = some (.int .u32 ((rd_T52 l0 x29_1).f3)) := (blk_cell BK.out 3).trans rfl; have hcz8_4 : w8.cell? ⟨gb, 4, none⟩ = some (.slice A229_4 ((rd_T52 l0 x29_1).f4).length c229_4) := (blk_cell BK.out 4).trans rfl; have hcz8f_0 := blk_frozen BK.out 0; have hcz8f_1 := blk_frozen BK.out 1; have hcz8f_2 := blk_frozen BK.out 2; have hcz8f_3 := blk_frozen BK.out 3; have hcz8f_4 := blk_frozen BK.out 4))
              (try simp only [Act.put, List.setIfInBounds_toArray, List.set_cons_zero, List.set_cons_succ])
              go_cut [4, 7, 8, 9, 10] (fun v4 v7 v8 v9 v10 wc => ∃ (kq : Nat) (x4_2 : List S56) (x7 x8 : List Int) (x9 x10 : Bool) (s_2 : List S72) (P_2 : Nat → Prop) (A7 A8 : Option Addr) (c7 c8 : Nat), v7 = .slice A7 x7.length c7 ∧ v8 = .slice A8 x8.length c8 ∧ v9 = .bool x9 ∧ v10 = .bool x10 ∧ Aside0 (ropewaylaw19_NetRuns.j2 kq x4_2 x7 x8 x9 x10 l0 (l0.length : Int) x29_1 s_2 = some r) ∧ Aside0 (kq ≤ k1) ∧ Aside0 (Kd.C (Kd.int .u8) wc A7 x7.length x7) ∧ Aside0 (Kd.C (Kd.int .u8) wc A8 x8.length x8) ∧ Aside0 (St P_2 w wc g v4 x4_2 s_2))
              case first =>
                have H := HC25.out
                clear HC25
                by_cases c0_ : ((rd_T52 l0 x29_1).f0) = 0
                · rw [if_pos c0_] at H
                  have k0b0 : (((rd_T52 l0 x29_1).f0) == 0) = true := beq_iff_eq.mpr c0_
                  clear c0_
                  (first | rw [k0b0] | (simp only [i64_w, i32_w]; rw [k0b0]) | skip)
                  by_cases c15 : ((rd_T52 l0 x29_1).f4).length < 140737488355328
                  · rw [if_pos c15] at H
                    have LMc15 := Aside0.mk c15
                    clear c15
                    replace H := Option.bind_eq_some_iff.mp H
                    obtain ⟨⟨t243, t244⟩, A160, H⟩ := H
                    have A16 := Aside0.mk A160
                    clear A160
                    replace H := Option.bind_eq_some_iff.mp H
                    obtain ⟨⟨t245, t248⟩, A170, H⟩ := H
                    have A17 := Aside0.mk A170
                    clear A170
                    have H' : Aside0 (ropewaylaw19_NetRuns.l1 k1 t245 t243 t248 (rd_T52 l0 x29_1).f4 l0 (l0.length : Int) x29_1 (((rd_T52 l0 x29_1).f4).length : Int) 0 t244 = some r) := ⟨H⟩
                    clear H
                    go_wp2_with (first | ((with_reducible refine gate_dst (N := 39) rfl ?_); (try (refine gate_guard (by rfl) ?_; dsimp only)); refine Kd.R_lit (Kd.int .u8) _ 5 ?hg (N := 39) ?hd (xs := ([] : List Int)) (inner := []) (ok := fun _ => True) (okp := fun _ => True) ?hr ?hp (fun _ hk => hk) trivial (Below.refl _ _) (Nat.le_refl _) (by simp) ?_; (case hd => rfl); (case hg => rfl); (case hr => first | (go_simp; done) | (go_simp; rfl)); (case hp => exact (Reps.none _ _)); intro v39 w11 ho hb hg_ hnew_; clear hg_ hnew_; have HP := Aside0.mk (show PendS P_1 w _ g (.slice A4 x4_1.length c4) x4_1 s_1 v39 [] from ⟨_, (by repeat (first | (with_reducible first | exact HS.out | apply St.alloc | apply St.drewN | apply St.drew | exact St.far5 HS.out HX.out) | exact HS.out | exact St.far2 HS.out HY.out)), hb, ho⟩); have n1_ := Aside0.mk (blk_below (g := gb) (o := .cells #[.int .i64 ((rd_T52 l0 x29_1).f0), .int .i64 ((rd_T52 l0 x29_1).f1), .int .i64 ((rd_T52 l0 x29_1).f2), .int .u32 ((rd_T52 l0 x29_1).f3), .slice A229_4 ((rd_T52 l0 x29_1).f4).length c229_4] 52 (0, 0)) (by (with_reducible repeat (first | refine blk_drewN ?_ _ | refine blk_drew ?_ | refine blk_alloc ?_ _)); exact BK.out) hb); clear HS BK hb ho; have BK := n1_; clear n1_; have hcz11_0 : w11.cell? ⟨gb, 0, none⟩ = some (.int .i64 ((rd_T52 l0 x29_1).f0)) := (blk_cell BK.out 0).trans rfl; have hcz11_1 : w11.cell? ⟨gb, 1, none⟩ = some (.int .i64 ((rd_T52 l0 x29_1).f1)) := (blk_cell BK.out 1).trans rfl; have hcz11_2 : w11.cell? ⟨gb, 2, none⟩ = some (.int .i64 ((rd_T52 l0 x29_1).f2)) := (blk_cell BK.out 2).trans rfl; have hcz11_3 : w11.cell? ⟨gb, 3, none⟩ = some (.int .u32 ((rd_T52 l0 x29_1).f3)) := (blk_cell BK.out 3).trans rfl; have hcz11_4 : w11.cell? ⟨gb, 4, none⟩ = some (.slice A229_4 ((rd_T52 l0 x29_1).f4).length c229_4) := (blk_cell BK.out 4).trans rfl; have hcz11f_0 := blk_frozen BK.out 0; have hcz11f_1 := blk_frozen BK.out 1; have hcz11f_2 := blk_frozen BK.out 2; have hcz11f_3 := blk_frozen BK.out 3; have hcz11f_4 := blk_frozen BK.out 4) | ((with_reducible refine gate_builtin (b := .append) (xs := #[.tmp 39, .tmp 41]) rfl ?_); (try (refine gate_guard (by rfl) ?_; dsimp only)); at_builtin; obtain ⟨W0_, p1, p3, p4⟩ := HP.out; refine Kd.R_append_rows (Kd.int .u8) (w0 := W0_) W0_.heap.size rfl (.tmp 39) (.tmp 41) 22 5 (.int .u8 0) 1 rfl Try.underlying22 info5 rfl (by decide) (by omega) v39 ([] : List Int) ((rd_T52 l0 x29_1).f4) _ _ _ (fun _ => True) (fun _ => False) rfl rfl ?aO ?aR (fun _ _ h => h) (fun _ h => h.elim) ?aF ?aB ?aS ?aL ?_; (case aR => exact Kd.C_below HR229_4.out (below_step p1.hb (by repeat (first | (with_reducible first | exact p3 | apply below_alloc | apply pw_below_drewN | apply below_drew1) | exact p3)))); (case aB => exact (by repeat (first | (with_reducible first | exact p3 | apply below_alloc | apply pw_below_drewN | apply below_drew1) | exact p3))); (case aF => exact (fun _ _ => trivial)); (case aO => exact (by (with_reducible repeat (first | apply Kd.R_alloc | apply Kd.R_drewN | apply Kd.R_drew)); exact p4)); (case aS => exact (below_size (by repeat (first | (with_reducible first | exact p3 | apply below_alloc | apply pw_below_drewN | apply below_drew1) | exact p3)))); (case aL => have := LMc15.out; simp only [List.length_nil]; omega); intro v42 w12 ho hb hg hat; rw [List.nil_append] at ho; have n1_ := Aside0.mk (blk_grown (g := gb) (o := .cells #[.int .i64 ((rd_T52 l0 x29_1).f0), .int .i64 ((rd_T52 l0 x29_1).f1), .int .i64 ((rd_T52 l0 x29_1).f2), .int .u32 ((rd_T52 l0 x29_1).f3), .slice A229_4 ((rd_T52 l0 x29_1).f4).length c229_4] 52 (0, 0)) (by (with_reducible repeat (first | refine blk_drewN ?_ _ | refine blk_drew ?_ | refine blk_alloc ?_ _)); exact BK.out) hg (Kd.R_ne p4 BK.out (by decide))); have HU := Aside0.mk (Su.of p1 hb ho); clear HP p1 p3 p4 BK; have BK := n1_; clear n1_ hb hg hat; obtain ⟨A42, c42, e42⟩ := Kd.R_slice ho; subst e42; clear ho; have hcz12_0 : w12.cell? ⟨gb, 0, none⟩ = some (.int .i64 ((rd_T52 l0 x29_1).f0)) := (blk_cell BK.out 0).trans rfl; have hcz12_1 : w12.cell? ⟨gb, 1, none⟩ = some (.int .i64 ((rd_T52 l0 x29_1).f1)) := (blk_cell BK.out 1).trans rfl; have hcz12_2 : w12.cell? ⟨gb, 2, none⟩ = some (.int .i64 ((rd_T52 l0 x29_1).f2)) := (blk_cell BK.out 2).trans rfl; have hcz12_3 : w12.cell? ⟨gb, 3, none⟩ = some (.int .u32 ((rd_T52 l0 x29_1).f3)) := (blk_cell BK.out 3).trans rfl; have hcz12_4 : w12.cell? ⟨gb, 4, none⟩ = some (.slice A229_4 ((rd_T52 l0 x29_1).f4).length c229_4) := (blk_cell BK.out 4).trans rfl; have hcz12f_0 := blk_frozen BK.out 0; have hcz12f_1 := blk_frozen BK.out 1; have hcz12f_2 := blk_frozen BK.out 2; have hcz12f_3 := blk_frozen BK.out 3; have hcz12f_4 := blk_frozen BK.out 4) | (go_at_call 30; (with_reducible refine (net_Net_Put.calls (fun k_ => P_1 k_ ∨ some k_ = ((.slice A42 ((rd_T52 l0 x29_1).f4).length c42) : Value).ownBlock) g s_1 _ _ ((rd_T52 l0 x29_1).f4) t243 t244 w _ ?side1 ?side2 ?side3 ?side4 ?side5 A16.out).mono ?_); (case side1 => exact Su.hi (by repeat (first | (with_reducible first | exact HU.out | apply Su.alloc | apply Su.drewN | apply Su.drew) | exact HU.out))); (case side2 => exact Su.hb (by repeat (first | (with_reducible first | exact HU.out | apply Su.alloc | apply Su.drewN | apply Su.drew) | exact HU.out))); (case side3 => exact (Kd.R_reads' (Su.ho (by repeat (first | (with_reducible first | exact HU.out | apply Su.alloc | apply Su.drewN | apply Su.drew) | exact HU.out)))).2.2); (case side4 => exact (Kd.R_reads' (Su.ho HU.out)).2.1); (case side5 => exact far_slice (Su.own_ne HU.out)); rintro e w13 ⟨rfl, hi, hb, hk⟩; have n0_ := Aside0.mk (Su.net (by repeat (first | (with_reducible first | exact HU.out | apply Su.alloc | apply Su.drewN | apply Su.drew) | exact HU.out)) hi hb hk); have n1_ := Aside0.mk (KeepT.blk hk.1 (g' := gb) (o := .cells #[.int .i64 ((rd_T52 l0 x29_1).f0), .int .i64 ((rd_T52 l0 x29_1).f1), .int .i64 ((rd_T52 l0 x29_1).f2), .int .u32 ((rd_T52 l0 x29_1).f3), .slice A229_4 ((rd_T52 l0 x29_1).f4).length c229_4] 52 (0, 0)) (by (with_reducible repeat (first | refine blk_drewN ?_ _ | refine blk_drew ?_ | refine blk_alloc ?_ _)); exact BK.out) HNx.out (by simp)); clear HU BK hi hb hk; have HU := n0_; have BK := n1_; clear n0_ n1_; have hcz13_0 : w13.cell? ⟨gb, 0, none⟩ = some (.int .i64 ((rd_T52 l0 x29_1).f0)) := (blk_cell BK.out 0).trans rfl; have hcz13_1 : w13.cell? ⟨gb, 1, none⟩ = some (.int .i64 ((rd_T52 l0 x29_1).f1)) := (blk_cell BK.out 1).trans rfl; have hcz13_2 : w13.cell? ⟨gb, 2, none⟩ = some (.int .i64 ((rd_T52 l0 x29_1).f2)) := (blk_cell BK.out 2).trans rfl; have hcz13_3 : w13.cell? ⟨gb, 3, none⟩ = some (.int .u32 ((rd_T52 l0 x29_1).f3)) := (blk_cell BK.out 3).trans rfl; have hcz13_4 : w13.cell? ⟨gb, 4, none⟩ = some (.slice A229_4 ((rd_T52 l0 x29_1).f4).length c229_4) := (blk_cell BK.out 4).trans rfl; have hcz13f_0 := blk_frozen BK.out 0; have hcz13f_1 := blk_frozen BK.out 1; have hcz13f_2 := blk_frozen BK.out 2; have hcz13f_3 := blk_frozen BK.out 3; have hcz13f_4 := blk_frozen BK.out 4) | (go_at_call 31; (with_reducible refine (ropewayref19_Put.calls P_1 A4 c4 x4_1 _ _ ((rd_T52 l0 x29_1).f4) false t245 t248 _ ?side1 ?side2 ?side3 A17.out).mono ?_); (case side1 => exact Su.hv (by repeat (first | (with_reducible first | exact HU.out | apply Su.alloc | apply Su.drewN | apply Su.drew) | exact HU.out))); (case side2 => exact Kd.C_below HR229_4.out (Su.hb (by repeat (first | (with_reducible first | exact HU.out | apply Su.alloc | apply Su.drewN | apply Su.drew) | exact HU.out)))); (case side3 => exact HC229_4.out); rintro e w14 ⟨v246, rfl, ho0, hb⟩; have n0_ := Aside0.mk (Su.ref (by repeat (first | (with_reducible first | exact HU.out | apply Su.alloc | apply Su.drewN | apply Su.drew) | exact HU.out)) hb ho0); clear HU BK ho0 hb; have HU := n0_; clear n0_))
                    go_loopg [56] k1 (fun kq v56 w' => ∃ (x11 : List Int) (x56 : Int) (P_2 : Nat → Prop), v56 = .int .i64 x56 ∧ Aside0 (ropewaylaw19_NetRuns.l1 kq t245 t243 t248 x11 l0 (l0.length : Int) x29_1 (((rd_T52 l0 x29_1).f4).length : Int) x56 t244 = some r) ∧ Aside0 (kq ≤ k1) ∧ Aside0 (Su P_2 w w' g v246 t245 t244 (.slice A42 ((rd_T52 l0 x29_1).f4).length c42) x11))
                    case atStart => exact ⟨((rd_T52 l0 x29_1).f4), (0), _, (by first | rfl | (simp; done) | (simp [*]; done)), H', ⟨Nat.le_refl _⟩, ⟨(by repeat (first | (with_reducible first | exact HU.out | apply Su.alloc | apply Su.drewN | apply Su.drew) | exact HU.out))⟩⟩
                    case round =>
                      clear H'
                      try clear hcz6_0
                      try clear hcz6_1
                      try clear hcz6_2
                      try clear hcz6_3
                      try clear hcz6_4
                      try clear hcz6f_0
                      try clear hcz6f_1
                      try clear hcz6f_2
                      try clear hcz6f_3
                      try clear hcz6f_4
                      try clear hcz8_0
                      try clear hcz8_1
                      try clear hcz8_2
                      try clear hcz8_3
                      try clear hcz8_4
                      try clear hcz8f_0
                      try clear hcz8f_1
                      try clear hcz8f_2
                      try clear hcz8f_3
                      try clear hcz8f_4
                      try clear hcz11_0
                      try clear hcz11_1
                      try clear hcz11_2
                      try clear hcz11_3
                      try clear hcz11_4
                      try clear hcz11f_0
                      try clear hcz11f_1
                      try clear hcz11f_2
                      try clear hcz11f_3
                      try clear hcz11f_4
                      try clear hcz12_0
                      try clear hcz12_1
                      try clear hcz12_2
                      try clear hcz12_3
                      try clear hcz12_4
                      try clear hcz12f_0
                      try clear hcz12f_1
                      try clear hcz12f_2
                      try clear hcz12f_3
                      try clear hcz12f_4
                      try clear hcz13_0
                      try clear hcz13_1
                      try clear hcz13_2
                      try clear hcz13_3
                      try clear hcz13_4
                      try clear hcz13f_0
                      try clear hcz13f_1
                      try clear hcz13f_2
                      try clear hcz13f_3
                      try clear hcz13f_4
                      try clear hx229_0
                      try clear hx229_1
                      try clear hx229_2
                      try clear hx229_3
                      try clear hx229_4
                      try clear k0b0
                      obtain ⟨x11, x56, P_2, rfl, HA, HK2, HU⟩ := hrel
                      have HO_11 := Aside0.mk HU.out.ho
                      have hl11 := (Kd.R_reads' HO_11.out).1
                      rw [hl11] at HO_11
                      (try simp only [hl11])
                      cases gk with
                      | zero => exact absurd HA.out (by simp [ropewaylaw19_NetRuns.l1])
                      | succ k2 =>
                        have H := HA.out
                        clear HA
                        simp only [ropewaylaw19_NetRuns.l1] at H
                        by_cases c35 : x56 < (((rd_T52 l0 x29_1).f4).length : Int)
                        · rw [if_pos c35] at H
                          have c35b0 : decide (x56 < (((rd_T52 l0 x29_1).f4).length : Int)) = true := decide_eq_true c35
                          clear c35
                          by_cases c36 : 0 ≤ x56
                          · rw [if_pos c36] at H
                            have c36b0 : decide (0 ≤ x56) = true := decide_eq_true c36
                            clear c36
                            by_cases c37 : x56 < (x11.length : Int)
                            · rw [if_pos c37] at H
                              have c37b0 : decide (x56 < (x11.length : Int)) = true := decide_eq_true c37
                              clear c37
                              obtain ⟨y241, hy241⟩ : ∃ y_ : List Int, y_ = (x11.set (x56 : Int).toNat (((rd x11 x56) + 1) % 256)) := ⟨_, rfl⟩
                              rw [← hy241] at H
                              have Ny241 := Aside0.mk hy241
                              clear hy241
                              have H' := Aside0.mk H
                              clear H
                              have p240 : 0 ≤ (x56 : Int) := of_decide_eq_true c36b0
                              have q240 : x56 < (x11.length : Int) := of_decide_eq_true c37b0
                              obtain ⟨ad240, e240, hx240_0⟩ := Kd.at_int (Kd.R_reads' HO_11.out).2.2 x56 p240 q240
                              cases e240
                              replace p240 := eq_true p240
                              replace q240 := eq_true q240
                              have p52 : 0 ≤ (x56 : Int) := of_decide_eq_true c36b0
                              have q52 : (x56 : Int) < ((x11.length : Int) : Int) := of_decide_eq_true c37b0
                              obtain ⟨go52, co52, eo52, gb52, gl52, cl52, HG52⟩ := Kd.R_form HO_11.out (by omega)
                              (first | cases eo52 | (injection eo52 with ea_ en_ ec_; (first | subst ea_ | (injection ea_ with ea_; subst ea_)); subst ec_; clear en_))
                              have GB52 := Aside0.mk gb52
                              have GG52 := Aside0.mk HG52
                              clear gb52 gl52 HG52
                              (first | simp only [add_plain] at hx240_0 | skip)
                              obtain ⟨hx52_0, hf52_0⟩ := Kd.R_celln 0 HO_11.out (x56 : Int) p52 q52
                              replace p52 := eq_true p52
                              replace q52 := eq_true q52
                              have HP53 := Kd.R_putg HO_11.out (x56 : Int) (((rd x11 x56) + 1) % 256)
                              go_wp2_with (first | ((with_reducible refine gate_store (t := 5) (p := 64) rfl ?_); refine store_event (t := 5) (p := 64) (v := ?vo_w54) (w1 := (wr.setCell ⟨go52, (x56 : Int).toNat, none⟩ (.int .u8 (((rd x11 x56) + 1) % 256)))) ?hg ?ho ?hn ?hr ?_; (case ho => rfl); (case hg => rfl); (case hn => rfl); (case hr => first | (go_simp; done) | (go_simp; rfl)); intro w54 hw; have hg : wr.grownBy w54 (some go52) := (by rw [hw]; exact HP53.2); have hp_ : Kd.R (Kd.int .u8) 5 w54 w.heap.size (fun _ => True) (.slice (some ⟨go52, 0, none⟩) x11.length c42) y241 := (by rw [hw, Ny241.out]; exact HP53.1); clear HP53; rw [← hl11] at hp_; have n0_ := Aside0.mk (Su.put HU.out hg hp_ rfl (by rw [hw]; exact below_set (Su.hb HU.out) GB52.out)); clear HU; have HU := n0_; clear n0_ hg hw hp_))
                              (try simp only [← hl11])
                              go_roundg k2
                              case measure => have := HK1.out; have := HK2.out; omega
                              case rel => exact ⟨y241, (wrap64 (x56 + 1)), _, (by first | rfl | (simp; done) | (simp [*]; done)), H', ⟨by have := HK1.out; have := HK2.out; omega⟩, ⟨(by repeat (first | (with_reducible first | exact HU.out | apply Su.alloc | apply Su.drewN | apply Su.drew) | exact HU.out))⟩⟩
                            · rw [if_neg c37] at H
                              cases H
                          · rw [if_neg c36] at H
                            cases H
                        · rw [if_neg c35] at H
                          have c35b0 : decide (x56 < (((rd_T52 l0 x29_1).f4).length : Int)) = false := decide_eq_false c35
                          have c35b1 : decide (x56 < (x11.length : Int)) = false := by rw [← hl11]; exact c35b0
                          clear c35
                          have H' := Aside0.mk H
                          clear H
                          go_wp2
                          (try simp only [← hl11])
                          go_meet
                          case rel => exact ⟨_, t245, [], [], t243, t248, t244, _, A33, A34, c33, c34, (by first | rfl | (simp; done) | (simp [*]; done)), (by first | rfl | (simp; done) | (simp [*]; done)), (by first | rfl | (simp; done) | (simp [*]; done)), (by first | rfl | (simp; done) | (simp [*]; done)), H', ⟨by have := HK1.out; have := HK2.out; omega⟩, ⟨C_none⟩, ⟨C_none⟩, ⟨Su.less (by repeat (first | (with_reducible first | exact HU.out | apply Su.alloc | apply Su.drewN | apply Su.drew) | exact HU.out))⟩⟩
                  · rw [if_neg c15] at H
                    cases H
                · rw [if_neg c0_] at H
                  have k0b0 : (((rd_T52 l0 x29_1).f0) == 0) = false := beq_eq_false_iff_ne.mpr c0_
                  clear c0_
                  (first | rw [k0b0] | (simp only [i64_w, i32_w]; rw [k0b0]) | skip)
                  by_cases c1_ : ((rd_T52 l0 x29_1).f0) = 1
                  · rw [if_pos c1_] at H
                    have k1b0 : (((rd_T52 l0 x29_1).f0) == 1) = true := beq_iff_eq.mpr c1_
                    clear c1_
                    (first | rw [k1b0] | (simp only [i64_w, i32_w]; rw [k1b0]) | skip)
                    replace H := Option.bind_eq_some_iff.mp H
                    obtain ⟨⟨t253, t256, t257⟩, A580, H⟩ := H
                    have A58 := Aside0.mk A580
                    clear A580
                    replace H := Option.bind_eq_some_iff.mp H
                    obtain ⟨⟨t258, t261, t264⟩, A590, H⟩ := H
                    have A59 := Aside0.mk A590
                    clear A590
                    have H' : Aside0 (ropewaylaw19_NetRuns.j2 k1 t258 t253 t261 t256 t264 l0 (l0.length : Int) x29_1 t257 = some r) := ⟨H⟩
                    clear H
                    go_wp2_with (first | (go_at_call 32; (with_reducible refine (net_Net_Take.calls P_1 g s_1 ((rd_T52 l0 x29_1).f1) t253 t256 t257 w _ ?side1 ?side2 A58.out).mono ?_); (case side1 => exact St.hi (by repeat (first | (with_reducible first | exact HS.out | apply St.alloc | apply St.drewN | apply St.drew | exact St.far5 HS.out HX.out) | exact HS.out | exact St.far2 HS.out HY.out))); (case side2 => exact St.hb (by repeat (first | (with_reducible first | exact HS.out | apply St.alloc | apply St.drewN | apply St.drew | exact St.far5 HS.out HX.out) | exact HS.out | exact St.far2 HS.out HY.out))); rintro e w15 ⟨v254, rfl, ho0, hi, hb, hk⟩; have n0_ := Aside0.mk (St.net (by repeat (first | (with_reducible first | exact HS.out | apply St.alloc | apply St.drewN | apply St.drew | exact St.far5 HS.out HX.out) | exact HS.out | exact St.far2 HS.out HY.out)) hi hb hk); have n1_ := Aside0.mk (KeepT.blk hk.1 (g' := gb) (o := .cells #[.int .i64 ((rd_T52 l0 x29_1).f0), .int .i64 ((rd_T52 l0 x29_1).f1), .int .i64 ((rd_T52 l0 x29_1).f2), .int .u32 ((rd_T52 l0 x29_1).f3), .slice A229_4 ((rd_T52 l0 x29_1).f4).length c229_4] 52 (0, 0)) (by (with_reducible repeat (first | refine blk_drewN ?_ _ | refine blk_drew ?_ | refine blk_alloc ?_ _)); exact BK.out) HNx.out (by simp)); have HF := Aside0.mk ho0; obtain ⟨A7, c7, e7⟩ := Kd.R_slice ho0; subst e7; clear ho0; clear HS BK hi hb hk; have HS := n0_; have BK := n1_; clear n0_ n1_; have hcw15_0 : w15.cell? ⟨gb, 0, none⟩ = some (.int .i64 ((rd_T52 l0 x29_1).f0)) := (blk_cell BK.out 0).trans rfl; have hcw15_1 : w15.cell? ⟨gb, 1, none⟩ = some (.int .i64 ((rd_T52 l0 x29_1).f1)) := (blk_cell BK.out 1).trans rfl; have hcw15_2 : w15.cell? ⟨gb, 2, none⟩ = some (.int .i64 ((rd_T52 l0 x29_1).f2)) := (blk_cell BK.out 2).trans rfl; have hcw15_3 : w15.cell? ⟨gb, 3, none⟩ = some (.int .u32 ((rd_T52 l0 x29_1).f3)) := (blk_cell BK.out 3).trans rfl; have hcw15_4 : w15.cell? ⟨gb, 4, none⟩ = some (.slice A229_4 ((rd_T52 l0 x29_1).f4).length c229_4) := (blk_cell BK.out 4).trans rfl; have hcw15f_0 := blk_frozen BK.out 0; have hcw15f_1 := blk_frozen BK.out 1; have hcw15f_2 := blk_frozen BK.out 2; have hcw15f_3 := blk_frozen BK.out 3; have hcw15f_4 := blk_frozen BK.out 4) | (go_at_call 33; (with_reducible refine (ropewayref19_Take.calls P_1 A4 c4 x4_1 ((rd_T52 l0 x29_1).f1) t258 t261 t264 _ ?side1 A59.out).mono ?_); (case side1 => exact St.hv (by repeat (first | (with_reducible first | exact HS.out | apply St.alloc | apply St.drewN | apply St.drew | exact St.far5 HS.out HX.out) | exact HS.out | exact St.far2 HS.out HY.out))); rintro e w16 ⟨v259, v262, rfl, ho0, ho1, hb⟩; have n0_ := Aside0.mk (St.ref (by repeat (first | (with_reducible first | exact HS.out | apply St.alloc | apply St.drewN | apply St.drew | exact St.far5 HS.out HX.out) | exact HS.out | exact St.far2 HS.out HY.out)) hb ho0); have n1_ := Aside0.mk (Kd.R_below (by (with_reducible repeat (first | apply Kd.R_alloc | apply Kd.R_drewN | apply Kd.R_drew)); exact HF.out) hb); obtain ⟨A8, c8, e8⟩ := Kd.V_slice ho1; subst e8; have HC8 := Aside0.mk (Kd.V_reads' ho1).2.2; clear HS HF BK ho0 ho1 hb; have HS := n0_; have HF := n1_; clear n0_ n1_))
                    go_meet
                    case rel => exact ⟨_, t258, t253, t261, t256, t264, t257, _, A7, A8, c7, c8, (by first | rfl | (simp; done) | (simp [*]; done)), (by first | rfl | (simp; done) | (simp [*]; done)), (by first | rfl | (simp; done) | (simp [*]; done)), (by first | rfl | (simp; done) | (simp [*]; done)), H', ⟨by have := HK1.out; first | omega | exact Nat.le_refl _⟩, ⟨(by repeat (first | exact (Kd.R_reads' HF.out).2.2 | (with_reducible refine Kd.C_alloc ?_ _) | (with_reducible refine Kd.C_drewN ?_ _) | (with_reducible refine Kd.C_drew ?_)))⟩, ⟨(by repeat (first | exact HC8.out | (with_reducible refine Kd.C_alloc ?_ _) | (with_reducible refine Kd.C_drewN ?_ _) | (with_reducible refine Kd.C_drew ?_)))⟩, ⟨(by repeat (first | (with_reducible first | exact HS.out | apply St.alloc | apply St.drewN | apply St.drew | exact St.far5 HS.out HX.out) | exact HS.out | exact St.far2 HS.out HY.out))⟩⟩
                  · rw [if_neg c1_] at H
                    have k1b0 : (((rd_T52 l0 x29_1).f0) == 1) = false := beq_eq_false_iff_ne.mpr c1_
                    clear c1_
                    (first | rw [k1b0] | (simp only [i64_w, i32_w]; rw [k1b0]) | skip)
                    by_cases c2_ : ((rd_T52 l0 x29_1).f0) = 2
                    · rw [if_pos c2_] at H
                      have k2b0 : (((rd_T52 l0 x29_1).f0) == 2) = true := beq_iff_eq.mpr c2_
                      clear c2_
                      (first | rw [k2b0] | (simp only [i64_w, i32_w]; rw [k2b0]) | skip)
                      replace H := Option.bind_eq_some_iff.mp H
                      obtain ⟨⟨t267, t268⟩, A1250, H⟩ := H
                      have A125 := Aside0.mk A1250
                      clear A1250
                      replace H := Option.bind_eq_some_iff.mp H
                      obtain ⟨⟨t269, t272, t273⟩, A1260, H⟩ := H
                      have A126 := Aside0.mk A1260
                      clear A1260
                      replace H : (if t273 = true then ((ropewayref19_Put.f x4_1 t269 t272).bind fun d => ropewaylaw19_NetRuns.j2 k1 d.1 [] [] t267 d.2 l0 (l0.length : Int) x29_1 t268) else ropewaylaw19_NetRuns.j2 k1 x4_1 [] [] t267 false l0 (l0.length : Int) x29_1 t268) = some r := H
                      by_cases c127 : t273 = true
                      · subst c127
                        replace H : ((ropewayref19_Put.f x4_1 t269 t272).bind fun d => ropewaylaw19_NetRuns.j2 k1 d.1 [] [] t267 d.2 l0 (l0.length : Int) x29_1 t268) = some r := by rw [if_pos rfl] at H; exact H
                        replace H := Option.bind_eq_some_iff.mp H
                        obtain ⟨⟨t275, t278⟩, A1280, H⟩ := H
                        have A128 := Aside0.mk A1280
                        clear A1280
                        have H' : Aside0 (ropewaylaw19_NetRuns.j2 k1 t275 [] [] t267 t278 l0 (l0.length : Int) x29_1 t268 = some r) := ⟨H⟩
                        clear H
                        go_wp2_with (first | (go_at_call 28; (with_reducible refine (net_Net_Double.calls P_1 g s_1 ((rd_T52 l0 x29_1).f1) t267 t268 w _ ?side1 ?side2 A125.out).mono ?_); (case side1 => exact St.hi (by repeat (first | (with_reducible first | exact HS.out | apply St.alloc | apply St.drewN | apply St.drew | exact St.far5 HS.out HX.out) | exact HS.out | exact St.far2 HS.out HY.out))); (case side2 => exact St.hb (by repeat (first | (with_reducible first | exact HS.out | apply St.alloc | apply St.drewN | apply St.drew | exact St.far5 HS.out HX.out) | exact HS.out | exact St.far2 HS.out HY.out))); rintro e w17 ⟨rfl, hi, hb, hk⟩; have n0_ := Aside0.mk (St.net (by repeat (first | (with_reducible first | exact HS.out | apply St.alloc | apply St.drewN | apply St.drew | exact St.far5 HS.out HX.out) | exact HS.out | exact St.far2 HS.out HY.out)) hi hb hk); have n1_ := Aside0.mk (KeepT.blk hk.1 (g' := gb) (o := .cells #[.int .i64 ((rd_T52 l0 x29_1).f0), .int .i64 ((rd_T52 l0 x29_1).f1), .int .i64 ((rd_T52 l0 x29_1).f2), .int .u32 ((rd_T52 l0 x29_1).f3), .slice A229_4 ((rd_T52 l0 x29_1).f4).length c229_4] 52 (0, 0)) (by (with_reducible repeat (first | refine blk_drewN ?_ _ | refine blk_drew ?_ | refine blk_alloc ?_ _)); exact BK.out) HNx.out (by simp)); clear HS BK hi hb hk; have HS := n0_; have BK := n1_; clear n0_ n1_; have hcw17_0 : w17.cell? ⟨gb, 0, none⟩ = some (.int .i64 ((rd_T52 l0 x29_1).f0)) := (blk_cell BK.out 0).trans rfl; have hcw17_1 : w17.cell? ⟨gb, 1, none⟩ = some (.int .i64 ((rd_T52 l0 x29_1).f1)) := (blk_cell BK.out 1).trans rfl; have hcw17_2 : w17.cell? ⟨gb, 2, none⟩ = some (.int .i64 ((rd_T52 l0 x29_1).f2)) := (blk_cell BK.out 2).trans rfl; have hcw17_3 : w17.cell? ⟨gb, 3, none⟩ = some (.int .u32 ((rd_T52 l0 x29_1).f3)) := (blk_cell BK.out 3).trans rfl; have hcw17_4 : w17.cell? ⟨gb, 4, none⟩ = some (.slice A229_4 ((rd_T52 l0 x29_1).f4).length c229_4) := (blk_cell BK.out 4).trans rfl; have hcw17f_0 := blk_frozen BK.out 0; have hcw17f_1 := blk_frozen BK.out 1; have hcw17f_2 := blk_frozen BK.out 2; have hcw17f_3 := blk_frozen BK.out 3; have hcw17f_4 := blk_frozen BK.out 4) | (go_at_call 34; (with_reducible refine (ropewayref19_At.calls P_1 A4 c4 x4_1 ((rd_T52 l0 x29_1).f1) t269 t272 true _ ?side1 A126.out).mono ?_); (case side1 => exact St.hv (by repeat (first | (with_reducible first | exact HS.out | apply St.alloc | apply St.drewN | apply St.drew | exact St.far5 HS.out HX.out) | exact HS.out | exact St.far2 HS.out HY.out))); rintro e w18 ⟨v270, rfl, ho0, hb⟩; have n0_ := Aside0.mk (St.below (by repeat (first | (with_reducible first | exact HS.out | apply St.alloc | apply St.drewN | apply St.drew | exact St.far5 HS.out HX.out) | exact HS.out | exact St.far2 HS.out HY.out)) hb); obtain ⟨A13, c13, e13⟩ := Kd.V_slice ho0; subst e13; have HE := Aside0.mk (Kd.V_reads' ho0); have HBe := Aside0.mk (Below.refl w18.heap.size w18); clear HS BK ho0 hb; have HS := n0_; clear n0_) | ((with_reducible refine gate_dst (N := 13) rfl ?_); (try (refine gate_guard (by rfl) ?_; dsimp only)); refine box_event ?hg (N := 13) ?hd (cs := #[.slice none 0 0, .bool false]) (t := 56) ?hr ?_; (case hd => rfl); (case hg => rfl); (case hr => first | (go_simp; done) | (go_simp; rfl)); intro gb13 hg w19 hbox hb; have n0_ := Aside0.mk (St.below (by repeat (first | (with_reducible first | exact HS.out | apply St.alloc | apply St.drewN | apply St.drew | exact St.far5 HS.out HX.out) | exact HS.out | exact St.far2 HS.out HY.out)) hb); have n1_ := Aside0.mk (Bx.new (t := 56) (by repeat (first | (with_reducible first | exact HS.out | apply St.alloc | apply St.drewN | apply St.drew | exact St.far5 HS.out HX.out) | exact HS.out | exact St.far2 HS.out HY.out)) hg hbox (by decide) (by decide)); have n2_ := Aside0.mk (below_step (by repeat (first | (with_reducible first | exact HBe.out | apply below_alloc | apply pw_below_drewN | apply below_drew1) | exact HBe.out | exact below_set (below_set HBe.out HGe.out) HGe.out)) hb); have n3_ : Aside0 (w18.heap.size ≤ gb13) := ⟨by rw [hg]; exact (below_size (by repeat (first | (with_reducible first | exact HBe.out | apply below_alloc | apply pw_below_drewN | apply below_drew1) | exact HBe.out | exact below_set (below_set HBe.out HGe.out) HGe.out)))⟩; have BY := Aside0.mk hbox; clear HS HBe hb hbox hg; have HS := n0_; have HY := n1_; have HBe := n2_; have HGe := n3_; clear n0_ n1_ n2_ n3_; have hcz19_0 : w19.cell? ⟨gb13, 0, none⟩ = some (.slice none 0 0) := (blk_cell BY.out 0).trans rfl; have hcz19_1 : w19.cell? ⟨gb13, 1, none⟩ = some (.bool false) := (blk_cell BY.out 1).trans rfl; have hcz19f_0 := blk_frozen BY.out 0; have hcz19f_1 := blk_frozen BY.out 1) | ((with_reducible refine gate_store (t := 56) (p := 13) rfl ?_); (try (rw [drewN_self w19]; generalize hq_ : World.drewN w19 _ = w19; have n0_ := Aside0.mk (St.at_ hq_ HS.out); have n1_ := Aside0.mk (blk_at hq_ BY.out); have n2_ := Aside0.mk (below_at hq_ HBe.out); have n3_ : Aside0 (Bx P_1 w _ g gb13 56) := ⟨⟨⟨_, n1_.out⟩, HY.out.2⟩⟩; clear hq_ HS BY HBe HY; have HS := n0_; have BY := n1_; have HBe := n2_; have HY := n3_; clear n0_ n1_ n2_ n3_)); refine store_event (t := 56) (p := 13) (v := ?vo_w20) (w1 := ((w19.setCell ⟨gb13, 0, none⟩ (.slice A13 t269.length c13)).setCell ⟨gb13, 1, none⟩ (.bool t272))) ?hg ?ho ?hn ?hr ?_; (case ho => rfl); (case hg => rfl); (case hn => rfl); (case hr => first | (go_simp; done) | (go_simp; rfl)); intro w20 hw; have n0_ : Aside0 (St P_1 w w20 g (.slice A4 x4_1.length c4) x4_1 _) := ⟨by rw [hw]; exact St.far2 HS.out HY.out⟩; have n1_ : Aside0 (w20.heap[gb13]? = some (.cells #[.slice A13 t269.length c13, .bool t272] 56 (0, 0))) := ⟨by rw [hw]; refine blk_put (cs := #[.slice A13 t269.length c13, .bool false]) ?_ 1 _ rfl; refine blk_put (cs := #[.slice none 0 0, .bool false]) ?_ 0 _ rfl; exact BY.out⟩; have n2_ : Aside0 (Below w18.heap.size w18 w20) := ⟨by rw [hw]; exact below_set (below_set HBe.out HGe.out) HGe.out⟩; clear hw HS BY HBe HY; have HS := n0_; have BY := n1_; have HBe := n2_; clear n0_ n1_ n2_; have hcz20_0 : w20.cell? ⟨gb13, 0, none⟩ = some (.slice A13 t269.length c13) := (blk_cell BY.out 0).trans rfl; have hcz20_1 : w20.cell? ⟨gb13, 1, none⟩ = some (.bool t272) := (blk_cell BY.out 1).trans rfl; have hcz20f_0 := blk_frozen BY.out 0; have hcz20f_1 := blk_frozen BY.out 1) | (go_at_call 31; (with_reducible refine (ropewayref19_Put.calls P_1 A4 c4 x4_1 _ _ t269 t272 t275 t278 _ ?side1 ?side2 ?side3 A128.out).mono ?_); (case side1 => exact St.hv (by repeat (first | (with_reducible first | exact HS.out | apply St.alloc | apply St.drewN | apply St.drew | exact St.far5 HS.out HX.out) | exact HS.out | exact St.far2 HS.out HY.out))); (case side2 => exact Kd.C_below HE.out.2.2 (by repeat (first | (with_reducible first | exact HBe.out | apply below_alloc | apply pw_below_drewN | apply below_drew1) | exact HBe.out | exact below_set (below_set HBe.out HGe.out) HGe.out))); (case side3 => exact HE.out.2.1); rintro e w21 ⟨v276, rfl, ho0, hb⟩; have n0_ := Aside0.mk (St.ref (by repeat (first | (with_reducible first | exact HS.out | apply St.alloc | apply St.drewN | apply St.drew | exact St.far5 HS.out HX.out) | exact HS.out | exact St.far2 HS.out HY.out)) hb ho0); clear HS ho0 hb; have HS := n0_; clear n0_))
                        go_meet
                        case rel => exact ⟨_, t275, [], [], t267, t278, t268, _, A33, A34, c33, c34, (by first | rfl | (simp; done) | (simp [*]; done)), (by first | rfl | (simp; done) | (simp [*]; done)), (by first | rfl | (simp; done) | (simp [*]; done)), (by first | rfl | (simp; done) | (simp [*]; done)), H', ⟨by have := HK1.out; first | omega | exact Nat.le_refl _⟩, ⟨C_none⟩, ⟨C_none⟩, ⟨(by repeat (first | (with_reducible first | exact HS.out | apply St.alloc | apply St.drewN | apply St.drew | exact St.far5 HS.out HX.out) | exact HS.out | exact St.far2 HS.out HY.out))⟩⟩
                      · replace c127 := Bool.eq_false_iff.mpr c127
                        subst c127
                        replace H : ropewaylaw19_NetRuns.j2 k1 x4_1 [] [] t267 false l0 (l0.length : Int) x29_1 t268 = some r := by rw [if_neg (show ¬ (false = true) by decide)] at H; exact H
                        have H' : Aside0 (ropewaylaw19_NetRuns.j2 k1 x4_1 [] [] t267 false l0 (l0.length : Int) x29_1 t268 = some r) := ⟨H⟩
                        clear H
                        go_wp2_with (first | (go_at_call 28; (with_reducible refine (net_Net_Double.calls P_1 g s_1 ((rd_T52 l0 x29_1).f1) t267 t268 w _ ?side1 ?side2 A125.out).mono ?_); (case side1 => exact St.hi (by repeat (first | (with_reducible first | exact HS.out | apply St.alloc | apply St.drewN | apply St.drew | exact St.far5 HS.out HX.out) | exact HS.out | exact St.far2 HS.out HY.out))); (case side2 => exact St.hb (by repeat (first | (with_reducible first | exact HS.out | apply St.alloc | apply St.drewN | apply St.drew | exact St.far5 HS.out HX.out) | exact HS.out | exact St.far2 HS.out HY.out))); rintro e w17 ⟨rfl, hi, hb, hk⟩; have n0_ := Aside0.mk (St.net (by repeat (first | (with_reducible first | exact HS.out | apply St.alloc | apply St.drewN | apply St.drew | exact St.far5 HS.out HX.out) | exact HS.out | exact St.far2 HS.out HY.out)) hi hb hk); have n1_ := Aside0.mk (KeepT.blk hk.1 (g' := gb) (o := .cells #[.int .i64 ((rd_T52 l0 x29_1).f0), .int .i64 ((rd_T52 l0 x29_1).f1), .int .i64 ((rd_T52 l0 x29_1).f2), .int .u32 ((rd_T52 l0 x29_1).f3), .slice A229_4 ((rd_T52 l0 x29_1).f4).length c229_4] 52 (0, 0)) (by (with_reducible repeat (first | refine blk_drewN ?_ _ | refine blk_drew ?_ | refine blk_alloc ?_ _)); exact BK.out) HNx.out (by simp)); clear HS BK hi hb hk; have HS := n0_; have BK := n1_; clear n0_ n1_; have hcw17_0 : w17.cell? ⟨gb, 0, none⟩ = some (.int .i64 ((rd_T52 l0 x29_1).f0)) := (blk_cell BK.out 0).trans rfl; have hcw17_1 : w17.cell? ⟨gb, 1, none⟩ = some (.int .i64 ((rd_T52 l0 x29_1).f1)) := (blk_cell BK.out 1).trans rfl; have hcw17_2 : w17.cell? ⟨gb, 2, none⟩ = some (.int .i64 ((rd_T52 l0 x29_1).f2)) := (blk_cell BK.out 2).trans rfl; have hcw17_3 : w17.cell? ⟨gb, 3, none⟩ = some (.int .u32 ((rd_T52 l0 x29_1).f3)) := (blk_cell BK.out 3).trans rfl; have hcw17_4 : w17.cell? ⟨gb, 4, none⟩ = some (.slice A229_4 ((rd_T52 l0 x29_1).f4).length c229_4) := (blk_cell BK.out 4).trans rfl; have hcw17f_0 := blk_frozen BK.out 0; have hcw17f_1 := blk_frozen BK.out 1; have hcw17f_2 := blk_frozen BK.out 2; have hcw17f_3 := blk_frozen BK.out 3; have hcw17f_4 := blk_frozen BK.out 4) | (go_at_call 34; (with_reducible refine (ropewayref19_At.calls P_1 A4 c4 x4_1 ((rd_T52 l0 x29_1).f1) t269 t272 false _ ?side1 A126.out).mono ?_); (case side1 => exact St.hv (by repeat (first | (with_reducible first | exact HS.out | apply St.alloc | apply St.drewN | apply St.drew | exact St.far5 HS.out HX.out) | exact HS.out | exact St.far2 HS.out HY.out))); rintro e w18 ⟨v270, rfl, ho0, hb⟩; have n0_ := Aside0.mk (St.below (by repeat (first | (with_reducible first | exact HS.out | apply St.alloc | apply St.drewN | apply St.drew | exact St.far5 HS.out HX.out) | exact HS.out | exact St.far2 HS.out HY.out)) hb); obtain ⟨A13, c13, e13⟩ := Kd.V_slice ho0; subst e13; have HE := Aside0.mk (Kd.V_reads' ho0); have HBe := Aside0.mk (Below.refl w18.heap.size w18); clear HS BK ho0 hb; have HS := n0_; clear n0_) | ((with_reducible refine gate_dst (N := 13) rfl ?_); (try (refine gate_guard (by rfl) ?_; dsimp only)); refine box_event ?hg (N := 13) ?hd (cs := #[.slice none 0 0, .bool false]) (t := 56) ?hr ?_; (case hd => rfl); (case hg => rfl); (case hr => first | (go_simp; done) | (go_simp; rfl)); intro gb13 hg w19 hbox hb; have n0_ := Aside0.mk (St.below (by repeat (first | (with_reducible first | exact HS.out | apply St.alloc | apply St.drewN | apply St.drew | exact St.far5 HS.out HX.out) | exact HS.out | exact St.far2 HS.out HY.out)) hb); have n1_ := Aside0.mk (Bx.new (t := 56) (by repeat (first | (with_reducible first | exact HS.out | apply St.alloc | apply St.drewN | apply St.drew | exact St.far5 HS.out HX.out) | exact HS.out | exact St.far2 HS.out HY.out)) hg hbox (by decide) (by decide)); have n2_ := Aside0.mk (below_step (by repeat (first | (with_reducible first | exact HBe.out | apply below_alloc | apply pw_below_drewN | apply below_drew1) | exact HBe.out | exact below_set (below_set HBe.out HGe.out) HGe.out)) hb); have n3_ : Aside0 (w18.heap.size ≤ gb13) := ⟨by rw [hg]; exact (below_size (by repeat (first | (with_reducible first | exact HBe.out | apply below_alloc | apply pw_below_drewN | apply below_drew1) | exact HBe.out | exact below_set (below_set HBe.out HGe.out) HGe.out)))⟩; have BY := Aside0.mk hbox; clear HS HBe hb hbox hg; have HS := n0_; have HY := n1_; have HBe := n2_; have HGe := n3_; clear n0_ n1_ n2_ n3_; have hcz19_0 : w19.cell? ⟨gb13, 0, none⟩ = some (.slice none 0 0) := (blk_cell BY.out 0).trans rfl; have hcz19_1 : w19.cell? ⟨gb13, 1, none⟩ = some (.bool false) := (blk_cell BY.out 1).trans rfl; have hcz19f_0 := blk_frozen BY.out 0; have hcz19f_1 := blk_frozen BY.out 1) | ((with_reducible refine gate_store (t := 56) (p := 13) rfl ?_); (try (rw [drewN_self w19]; generalize hq_ : World.drewN w19 _ = w19; have n0_ := Aside0.mk (St.at_ hq_ HS.out); have n1_ := Aside0.mk (blk_at hq_ BY.out); have n2_ := Aside0.mk (below_at hq_ HBe.out); have n3_ : Aside0 (Bx P_1 w _ g gb13 56) := ⟨⟨⟨_, n1_.out⟩, HY.out.2⟩⟩; clear hq_ HS BY HBe HY; have HS := n0_; have BY := n1_; have HBe := n2_; have HY := n3_; clear n0_ n1_ n2_ n3_)); refine store_event (t := 56) (p := 13) (v := ?vo_w20) (w1 := ((w19.setCell ⟨gb13, 0, none⟩ (.slice A13 t269.length c13)).setCell ⟨gb13, 1, none⟩ (.bool t272))) ?hg ?ho ?hn ?hr ?_; (case ho => rfl); (case hg => rfl); (case hn => rfl); (case hr => first | (go_simp; done) | (go_simp; rfl)); intro w20 hw; have n0_ : Aside0 (St P_1 w w20 g (.slice A4 x4_1.length c4) x4_1 _) := ⟨by rw [hw]; exact St.far2 HS.out HY.out⟩; have n1_ : Aside0 (w20.heap[gb13]? = some (.cells #[.slice A13 t269.length c13, .bool t272] 56 (0, 0))) := ⟨by rw [hw]; refine blk_put (cs := #[.slice A13 t269.length c13, .bool false]) ?_ 1 _ rfl; refine blk_put (cs := #[.slice none 0 0, .bool false]) ?_ 0 _ rfl; exact BY.out⟩; have n2_ : Aside0 (Below w18.heap.size w18 w20) := ⟨by rw [hw]; exact below_set (below_set HBe.out HGe.out) HGe.out⟩; clear hw HS BY HBe HY; have HS := n0_; have BY := n1_; have HBe := n2_; clear n0_ n1_ n2_; have hcz20_0 : w20.cell? ⟨gb13, 0, none⟩ = some (.slice A13 t269.length c13) := (blk_cell BY.out 0).trans rfl; have hcz20_1 : w20.cell? ⟨gb13, 1, none⟩ = some (.bool t272) := (blk_cell BY.out 1).trans rfl; have hcz20f_0 := blk_frozen BY.out 0; have hcz20f_1 := blk_frozen BY.out 1))
                        go_meet
                        case rel => exact ⟨_, x4_1, [], [], t267, false, t268, _, A33, A34, c33, c34, (by first | rfl | (simp; done) | (simp [*]; done)), (by first | rfl | (simp; done) | (simp [*]; done)), (by first | rfl | (simp; done) | (simp [*]; done)), (by first | rfl | (simp; done) | (simp [*]; done)), H', ⟨by have := HK1.out; first | omega | exact Nat.le_refl _⟩, ⟨C_none⟩, ⟨C_none⟩, ⟨(by repeat (first | (with_reducible first | exact HS.out | apply St.alloc | apply St.drewN | apply St.drew | exact St.far5 HS.out HX.out) | exact HS.out | exact St.far2 HS.out HY.out))⟩⟩
                    · rw [if_neg c2_] at H
                      have k2b0 : (((rd_T52 l0 x29_1).f0) == 2) = false := beq_eq_false_iff_ne.mpr c2_
                      clear c2_
                      (first | rw [k2b0] | (simp only [i64_w, i32_w]; rw [k2b0]) | skip)
                      by_cases c3_ : ((rd_T52 l0 x29_1).f0) = 3
                      · rw [if_pos c3_] at H
                        have k3b0 : (((rd_T52 l0 x29_1).f0) == 3) = true := beq_iff_eq.mpr c3_
                        clear c3_
                        (first | rw [k3b0] | (simp only [i64_w, i32_w]; rw [k3b0]) | skip)
                        replace H := Option.bind_eq_some_iff.mp H
                        obtain ⟨⟨t283, t284⟩, A3080, H⟩ := H
                        have A308 := Aside0.mk A3080
                        clear A3080
                        replace H := Option.bind_eq_some_iff.mp H
                        obtain ⟨⟨t285, t288⟩, A3090, H⟩ := H
                        have A309 := Aside0.mk A3090
                        clear A3090
                        have H' : Aside0 (ropewaylaw19_NetRuns.j2 k1 t285 [] [] t283 t288 l0 (l0.length : Int) x29_1 t284 = some r) := ⟨H⟩
                        clear H
                        go_wp2_with (first | (go_at_call 29; (with_reducible refine (net_Net_Spoil.calls P_1 g s_1 ((rd_T52 l0 x29_1).f1) ((rd_T52 l0 x29_1).f2) ((rd_T52 l0 x29_1).f3) t283 t284 w _ ?side1 ?side2 A308.out).mono ?_); (case side1 => exact St.hi (by repeat (first | (with_reducible first | exact HS.out | apply St.alloc | apply St.drewN | apply St.drew | exact St.far5 HS.out HX.out) | exact HS.out | exact St.far2 HS.out HY.out))); (case side2 => exact St.hb (by repeat (first | (with_reducible first | exact HS.out | apply St.alloc | apply St.drewN | apply St.drew | exact St.far5 HS.out HX.out) | exact HS.out | exact St.far2 HS.out HY.out))); rintro e w22 ⟨rfl, hi, hb, hk⟩; have n0_ := Aside0.mk (St.net (by repeat (first | (with_reducible first | exact HS.out | apply St.alloc | apply St.drewN | apply St.drew | exact St.far5 HS.out HX.out) | exact HS.out | exact St.far2 HS.out HY.out)) hi hb hk); have n1_ := Aside0.mk (KeepT.blk hk.1 (g' := gb) (o := .cells #[.int .i64 ((rd_T52 l0 x29_1).f0), .int .i64 ((rd_T52 l0 x29_1).f1), .int .i64 ((rd_T52 l0 x29_1).f2), .int .u32 ((rd_T52 l0 x29_1).f3), .slice A229_4 ((rd_T52 l0 x29_1).f4).length c229_4] 52 (0, 0)) (by (with_reducible repeat (first | refine blk_drewN ?_ _ | refine blk_drew ?_ | refine blk_alloc ?_ _)); exact BK.out) HNx.out (by simp)); clear HS BK hi hb hk; have HS := n0_; have BK := n1_; clear n0_ n1_; have hcw22_0 : w22.cell? ⟨gb, 0, none⟩ = some (.int .i64 ((rd_T52 l0 x29_1).f0)) := (blk_cell BK.out 0).trans rfl; have hcw22_1 : w22.cell? ⟨gb, 1, none⟩ = some (.int .i64 ((rd_T52 l0 x29_1).f1)) := (blk_cell BK.out 1).trans rfl; have hcw22_2 : w22.cell? ⟨gb, 2, none⟩ = some (.int .i64 ((rd_T52 l0 x29_1).f2)) := (blk_cell BK.out 2).trans rfl; have hcw22_3 : w22.cell? ⟨gb, 3, none⟩ = some (.int .u32 ((rd_T52 l0 x29_1).f3)) := (blk_cell BK.out 3).trans rfl; have hcw22_4 : w22.cell? ⟨gb, 4, none⟩ = some (.slice A229_4 ((rd_T52 l0 x29_1).f4).length c229_4) := (blk_cell BK.out 4).trans rfl; have hcw22f_0 := blk_frozen BK.out 0; have hcw22f_1 := blk_frozen BK.out 1; have hcw22f_2 := blk_frozen BK.out 2; have hcw22f_3 := blk_frozen BK.out 3; have hcw22f_4 := blk_frozen BK.out 4) | (go_at_call 35; (with_reducible refine (ropewayref19_Spoil.calls k1 P_1 A4 c4 x4_1 ((rd_T52 l0 x29_1).f1) ((rd_T52 l0 x29_1).f2) ((rd_T52 l0 x29_1).f3) t285 t288 _ ?side1 A309.out).mono ?_); (case side1 => exact St.hv (by repeat (first | (with_reducible first | exact HS.out | apply St.alloc | apply St.drewN | apply St.drew | exact St.far5 HS.out HX.out) | exact HS.out | exact St.far2 HS.out HY.out))); rintro e w23 ⟨v286, rfl, ho0, hb⟩; have n0_ := Aside0.mk (St.ref (by repeat (first | (with_reducible first | exact HS.out | apply St.alloc | apply St.drewN | apply St.drew | exact St.far5 HS.out HX.out) | exact HS.out | exact St.far2 HS.out HY.out)) hb ho0); clear HS BK ho0 hb; have HS := n0_; clear n0_))
                        go_meet
                        case rel => exact ⟨_, t285, [], [], t283, t288, t284, _, A33, A34, c33, c34, (by first | rfl | (simp; done) | (simp [*]; done)), (by first | rfl | (simp; done) | (simp [*]; done)), (by first | rfl | (simp; done) | (simp [*]; done)), (by first | rfl | (simp; done) | (simp [*]; done)), H', ⟨by have := HK1.out; first | omega | exact Nat.le_refl _⟩, ⟨C_none⟩, ⟨C_none⟩, ⟨(by repeat (first | (with_reducible first | exact HS.out | apply St.alloc | apply St.drewN | apply St.drew | exact St.far5 HS.out HX.out) | exact HS.out | exact St.far2 HS.out HY.out))⟩⟩
                      · rw [if_neg c3_] at H
                        have k3b0 : (((rd_T52 l0 x29_1).f0) == 3) = false := beq_eq_false_iff_ne.mpr c3_
                        clear c3_
                        (first | rw [k3b0] | (simp only [i64_w, i32_w]; rw [k3b0]) | skip)
                        by_cases c4_ : ((rd_T52 l0 x29_1).f0) = 4
                        · rw [if_pos c4_] at H
                          have k4b0 : (((rd_T52 l0 x29_1).f0) == 4) = true := beq_iff_eq.mpr c4_
                          clear c4_
                          (first | rw [k4b0] | (simp only [i64_w, i32_w]; rw [k4b0]) | skip)
                          replace H := Option.bind_eq_some_iff.mp H
                          obtain ⟨⟨t291, t294, t295⟩, A3750, H⟩ := H
                          have A375 := Aside0.mk A3750
                          clear A3750
                          replace H := Option.bind_eq_some_iff.mp H
                          obtain ⟨⟨t296, t299, t300⟩, A3760, H⟩ := H
                          have A376 := Aside0.mk A3760
                          clear A3760
                          have H' : Aside0 (ropewaylaw19_NetRuns.j2 k1 x4_1 t291 t296 t294 t300 l0 (l0.length : Int) x29_1 t295 = some r) := ⟨H⟩
                          clear H
                          go_wp2_with (first | (go_at_call 25; (with_reducible refine (net_Net_At.calls P_1 g s_1 ((rd_T52 l0 x29_1).f1) t291 t294 t295 w _ ?side1 ?side2 A375.out).mono ?_); (case side1 => exact St.hi (by repeat (first | (with_reducible first | exact HS.out | apply St.alloc | apply St.drewN | apply St.drew | exact St.far5 HS.out HX.out) | exact HS.out | exact St.far2 HS.out HY.out))); (case side2 => exact St.hb (by repeat (first | (with_reducible first | exact HS.out | apply St.alloc | apply St.drewN | apply St.drew | exact St.far5 HS.out HX.out) | exact HS.out | exact St.far2 HS.out HY.out))); rintro e w24 ⟨v292, rfl, ho0, hi, hb, hk⟩; have n0_ := Aside0.mk (show St P_1 w _ g (.slice A4 x4_1.length c4) x4_1 t295 from ⟨Kd.V_step (St.hv (by repeat (first | (with_reducible first | exact HS.out | apply St.alloc | apply St.drewN | apply St.drew | exact St.far5 HS.out HX.out) | exact HS.out | exact St.far2 HS.out HY.out))) (fun k_ hp_ _ => hk.2 k_ (St.plt (by repeat (first | (with_reducible first | exact HS.out | apply St.alloc | apply St.drewN | apply St.drew | exact St.far5 HS.out HX.out) | exact HS.out | exact St.far2 HS.out HY.out)) k_ hp_) ((St.hi (by repeat (first | (with_reducible first | exact HS.out | apply St.alloc | apply St.drewN | apply St.drew | exact St.far5 HS.out HX.out) | exact HS.out | exact St.far2 HS.out HY.out))).2 k_ hp_).2 (by simp)), hi, hb⟩); have n1_ := Aside0.mk (KeepBut.blk hk (g' := gb) (o := .cells #[.int .i64 ((rd_T52 l0 x29_1).f0), .int .i64 ((rd_T52 l0 x29_1).f1), .int .i64 ((rd_T52 l0 x29_1).f2), .int .u32 ((rd_T52 l0 x29_1).f3), .slice A229_4 ((rd_T52 l0 x29_1).f4).length c229_4] 52 (0, 0)) (by (with_reducible repeat (first | refine blk_drewN ?_ _ | refine blk_drew ?_ | refine blk_alloc ?_ _)); exact BK.out) HNx.out (by simp)); have HF := Aside0.mk ho0; obtain ⟨A7, c7, e7⟩ := Kd.R_slice ho0; subst e7; clear HS BK hi hb hk ho0; have HS := n0_; have BK := n1_; clear n0_ n1_; have hcz24_0 : w24.cell? ⟨gb, 0, none⟩ = some (.int .i64 ((rd_T52 l0 x29_1).f0)) := (blk_cell BK.out 0).trans rfl; have hcz24_1 : w24.cell? ⟨gb, 1, none⟩ = some (.int .i64 ((rd_T52 l0 x29_1).f1)) := (blk_cell BK.out 1).trans rfl; have hcz24_2 : w24.cell? ⟨gb, 2, none⟩ = some (.int .i64 ((rd_T52 l0 x29_1).f2)) := (blk_cell BK.out 2).trans rfl; have hcz24_3 : w24.cell? ⟨gb, 3, none⟩ = some (.int .u32 ((rd_T52 l0 x29_1).f3)) := (blk_cell BK.out 3).trans rfl; have hcz24_4 : w24.cell? ⟨gb, 4, none⟩ = some (.slice A229_4 ((rd_T52 l0 x29_1).f4).length c229_4) := (blk_cell BK.out 4).trans rfl; have hcz24f_0 := blk_frozen BK.out 0; have hcz24f_1 := blk_frozen BK.out 1; have hcz24f_2 := blk_frozen BK.out 2; have hcz24f_3 := blk_frozen BK.out 3; have hcz24f_4 := blk_frozen BK.out 4) | (go_at_call 34; (with_reducible refine (ropewayref19_At.calls P_1 A4 c4 x4_1 ((rd_T52 l0 x29_1).f1) t296 t299 t300 _ ?side1 A376.out).mono ?_); (case side1 => exact St.hv (by repeat (first | (with_reducible first | exact HS.out | apply St.alloc | apply St.drewN | apply St.drew | exact St.far5 HS.out HX.out) | exact HS.out | exact St.far2 HS.out HY.out))); rintro e w18 ⟨v270, rfl, ho0, hb⟩; have n0_ := Aside0.mk (St.below (by repeat (first | (with_reducible first | exact HS.out | apply St.alloc | apply St.drewN | apply St.drew | exact St.far5 HS.out HX.out) | exact HS.out | exact St.far2 HS.out HY.out)) hb); obtain ⟨A13, c13, e13⟩ := Kd.V_slice ho0; subst e13; have HE := Aside0.mk (Kd.V_reads' ho0); have HBe := Aside0.mk (Below.refl w18.heap.size w18); have n5_ := Aside0.mk (Kd.R_below (by (with_reducible repeat (first | apply Kd.R_alloc | apply Kd.R_drewN | apply Kd.R_drew)); exact HF.out) hb); clear HF; have HF := Aside0.mk (Kd.R_reads' n5_.out).2.2; clear n5_; clear HS BK ho0 hb; have HS := n0_; clear n0_) | ((with_reducible refine gate_dst (N := 15) rfl ?_); (try (refine gate_guard (by rfl) ?_; dsimp only)); refine box_event ?hg (N := 15) ?hd (cs := #[.slice none 0 0, .bool false]) (t := 56) ?hr ?_; (case hd => rfl); (case hg => rfl); (case hr => first | (go_simp; done) | (go_simp; rfl)); intro gb13 hg w19 hbox hb; have n0_ := Aside0.mk (St.below (by repeat (first | (with_reducible first | exact HS.out | apply St.alloc | apply St.drewN | apply St.drew | exact St.far5 HS.out HX.out) | exact HS.out | exact St.far2 HS.out HY.out)) hb); have n1_ := Aside0.mk (Bx.new (t := 56) (by repeat (first | (with_reducible first | exact HS.out | apply St.alloc | apply St.drewN | apply St.drew | exact St.far5 HS.out HX.out) | exact HS.out | exact St.far2 HS.out HY.out)) hg hbox (by decide) (by decide)); have n2_ := Aside0.mk (below_step (by repeat (first | (with_reducible first | exact HBe.out | apply below_alloc | apply pw_below_drewN | apply below_drew1) | exact HBe.out | exact below_set (below_set HBe.out HGe.out) HGe.out)) hb); have n3_ : Aside0 (w18.heap.size ≤ gb13) := ⟨by rw [hg]; exact (below_size (by repeat (first | (with_reducible first | exact HBe.out | apply below_alloc | apply pw_below_drewN | apply below_drew1) | exact HBe.out | exact below_set (below_set HBe.out HGe.out) HGe.out)))⟩; have BY := Aside0.mk hbox; clear HS HBe hb hbox hg; have HS := n0_; have HY := n1_; have HBe := n2_; have HGe := n3_; clear n0_ n1_ n2_ n3_; have hcz19_0 : w19.cell? ⟨gb13, 0, none⟩ = some (.slice none 0 0) := (blk_cell BY.out 0).trans rfl; have hcz19_1 : w19.cell? ⟨gb13, 1, none⟩ = some (.bool false) := (blk_cell BY.out 1).trans rfl; have hcz19f_0 := blk_frozen BY.out 0; have hcz19f_1 := blk_frozen BY.out 1) | ((with_reducible refine gate_store (t := 56) (p := 15) rfl ?_); (try (rw [drewN_self w19]; generalize hq_ : World.drewN w19 _ = w19; have n0_ := Aside0.mk (St.at_ hq_ HS.out); have n1_ := Aside0.mk (blk_at hq_ BY.out); have n2_ := Aside0.mk (below_at hq_ HBe.out); have n3_ : Aside0 (Bx P_1 w _ g gb13 56) := ⟨⟨⟨_, n1_.out⟩, HY.out.2⟩⟩; clear hq_ HS BY HBe HY; have HS := n0_; have BY := n1_; have HBe := n2_; have HY := n3_; clear n0_ n1_ n2_ n3_)); refine store_event (t := 56) (p := 15) (v := ?vo_w20) (w1 := ((w19.setCell ⟨gb13, 0, none⟩ (.slice A13 t296.length c13)).setCell ⟨gb13, 1, none⟩ (.bool t299))) ?hg ?ho ?hn ?hr ?_; (case ho => rfl); (case hg => rfl); (case hn => rfl); (case hr => first | (go_simp; done) | (go_simp; rfl)); intro w20 hw; have n0_ : Aside0 (St P_1 w w20 g (.slice A4 x4_1.length c4) x4_1 _) := ⟨by rw [hw]; exact St.far2 HS.out HY.out⟩; have n1_ : Aside0 (w20.heap[gb13]? = some (.cells #[.slice A13 t296.length c13, .bool t299] 56 (0, 0))) := ⟨by rw [hw]; refine blk_put (cs := #[.slice A13 t296.length c13, .bool false]) ?_ 1 _ rfl; refine blk_put (cs := #[.slice none 0 0, .bool false]) ?_ 0 _ rfl; exact BY.out⟩; have n2_ : Aside0 (Below w18.heap.size w18 w20) := ⟨by rw [hw]; exact below_set (below_set HBe.out HGe.out) HGe.out⟩; clear hw HS BY HBe HY; have HS := n0_; have BY := n1_; have HBe := n2_; clear n0_ n1_ n2_; have hcz20_0 : w20.cell? ⟨gb13, 0, none⟩ = some (.slice A13 t296.length c13) := (blk_cell BY.out 0).trans rfl; have hcz20_1 : w20.cell? ⟨gb13, 1, none⟩ = some (.bool t299) := (blk_cell BY.out 1).trans rfl; have hcz20f_0 := blk_frozen BY.out 0; have hcz20f_1 := blk_frozen BY.out 1))
                          go_meet
                          case rel => exact ⟨_, x4_1, t291, t296, t294, t300, t295, _, A7, A13, c7, c13, (by first | rfl | (simp; done) | (simp [*]; done)), (by first | rfl | (simp; done) | (simp [*]; done)), (by first | rfl | (simp; done) | (simp [*]; done)), (by first | rfl | (simp; done) | (simp [*]; done)), H', ⟨by have := HK1.out; first | omega | exact Nat.le_refl _⟩, ⟨Kd.C_below HF.out (by repeat (first | (with_reducible first | exact HBe.out | apply below_alloc | apply pw_below_drewN | apply below_drew1) | exact HBe.out | exact below_set (below_set HBe.out HGe.out) HGe.out))⟩, ⟨Kd.C_below HE.out.2.2 (by repeat (first | (with_reducible first | exact HBe.out | apply below_alloc | apply pw_below_drewN | apply below_drew1) | exact HBe.out | exact below_set (below_set HBe.out HGe.out) HGe.out))⟩, ⟨(by repeat (first | (with_reducible first | exact HS.out | apply St.alloc | apply St.drewN | apply St.drew | exact St.far5 HS.out HX.out) | exact HS.out | exact St.far2 HS.out HY.out))⟩⟩
                        · rw [if_neg c4_] at H
                          have k4b0 : (((rd_T52 l0 x29_1).f0) == 4) = false := beq_eq_false_iff_ne.mpr c4_
                          clear c4_
                          (first | rw [k4b0] | (simp only [i64_w, i32_w]; rw [k4b0]) | skip)
                          have H' : Aside0 (ropewaylaw19_NetRuns.j2 k1 x4_1 [] [] false false l0 (l0.length : Int) x29_1 s_1 = some r) := ⟨H⟩
                          clear H
                          go_wp2
                          go_meet
                          case rel => exact ⟨_, x4_1, [], [], false, false, s_1, _, A33, A34, c33, c34, (by first | rfl | (simp; done) | (simp [*]; done)), (by first | rfl | (simp; done) | (simp [*]; done)), (by first | rfl | (simp; done) | (simp [*]; done)), (by first | rfl | (simp; done) | (simp [*]; done)), H', ⟨by have := HK1.out; first | omega | exact Nat.le_refl _⟩, ⟨C_none⟩, ⟨C_none⟩, ⟨(by repeat (first | (with_reducible first | exact HS.out | apply St.alloc | apply St.drewN | apply St.drew | exact St.far5 HS.out HX.out) | exact HS.out | exact St.far2 HS.out HY.out))⟩⟩
              case rest =>
                clear HC25 HS BK HNx
                try clear hcz6_0
                try clear hcz6_1
                try clear hcz6_2
                try clear hcz6_3
                try clear hcz6_4
                try clear hcz6f_0
                try clear hcz6f_1
                try clear hcz6f_2
                try clear hcz6f_3
                try clear hcz6f_4
                try clear hcz8_0
                try clear hcz8_1
                try clear hcz8_2
                try clear hcz8_3
                try clear hcz8_4
                try clear hcz8f_0
                try clear hcz8f_1
                try clear hcz8f_2
                try clear hcz8f_3
                try clear hcz8f_4
                try clear hx229_0
                try clear hx229_1
                try clear hx229_2
                try clear hx229_3
                try clear hx229_4
                try clear hnb6
                try clear hnc6
                try clear p229
                try clear q229
                try clear HX
                obtain ⟨kq, x4_2, x7, x8, x9, x10, s_2, P_2, A7, A8, c7, c8, rfl, rfl, rfl, rfl, HA, HJ2, HC7, HC8, HS⟩ := hcut
                obtain ⟨A4b, c4b, e4b⟩ := Kd.V_slice HS.out.hv
                subst e4b
                cases kq with
                | zero => exact absurd HA.out (by simp [ropewaylaw19_NetRuns.j2])
                | succ kj =>
                  have H := HA.out
                  clear HA
                  simp only [ropewaylaw19_NetRuns.j2] at H
                  have hcv7 := Kd.C_string (P := Try.prog) (A := A7) (c := c7) Try.underlying22 Try.underlying5 Try.underlying9 HC7.out
                  have hcv8 := Kd.C_string (P := Try.prog) (A := A8) (c := c8) Try.underlying22 Try.underlying5 Try.underlying9 HC8.out
                  by_cases c41 : (strOfNums x7).toList = (strOfNums x8).toList
                  · rw [if_pos c41] at H
                    have c41b0 : ((strOfNums x7).toList == (strOfNums x8).toList) = true := beq_iff_eq.mpr c41
                    have c41b1 : ((strOfNums x7).toList != (strOfNums x8).toList) = false := bne_eq_false_iff_eq.mpr c41
                    clear c41
                    by_cases c42 : (x9 != x10) = true
                    · rw [if_pos c42] at H
                      have c42b0 : (x9 != x10) = true := c42
                      (try (have c42b1 : decide (x9 = x10) = false := by simpa using c42))
                      (try (have c42b2 : (x9 == x10) = false := by simpa using c42))
                      (try (have c42b3 : ¬ (x9 = x10) := by simpa using c42))
                      clear c42
                      obtain rfl := Option.some.inj H
                      go_wp2
                      go_ret
                      exact ⟨by first | rfl | (simp [errW_none, errW_some] <;> rfl) | (simp [*, errW_none, errW_some] <;> rfl), (St.hb (by repeat (first | (with_reducible first | exact HS.out | apply St.alloc | apply St.drewN | apply St.drew | exact St.far5 HS.out HX.out) | exact HS.out | exact St.far2 HS.out HY.out)))⟩
                    · rw [if_neg c42] at H
                      have c42b0 : (x9 != x10) = false := by simpa using c42
                      (try (have c42b1 : decide (x9 = x10) = true := by simpa using c42))
                      (try (have c42b2 : (x9 == x10) = true := by simpa using c42))
                      (try (have c42b3 : x9 = x10 := by simpa using c42))
                      clear c42
                      replace H := Option.bind_eq_some_iff.mp H
                      obtain ⟨⟨t251, t252⟩, A440, H⟩ := H
                      have A44 := Aside0.mk A440
                      clear A440
                      replace H : (if t251 = (x4_2.length : Int) then ropewaylaw19_NetRuns.l0 kj x4_2 l0 (l0.length : Int) (wrap64 (x29_1 + 1)) t252 else some false) = some r := H
                      by_cases c46 : t251 = (x4_2.length : Int)
                      · rw [if_pos c46] at H
                        have c46b0 : (t251 == (x4_2.length : Int)) = true := beq_iff_eq.mpr c46
                        have c46b1 : (t251 != (x4_2.length : Int)) = false := bne_eq_false_iff_eq.mpr c46
                        clear c46
                        have H' := Aside0.mk H
                        clear H
                        go_wp2_with (first | (go_at_call 27; (with_reducible refine (net_Net_Len.calls P_2 g s_2 t251 t252 w _ ?side1 ?side2 A44.out).mono ?_); (case side1 => exact St.hi (by repeat (first | (with_reducible first | exact HS.out | apply St.alloc | apply St.drewN | apply St.drew | exact St.far5 HS.out HX.out) | exact HS.out | exact St.far2 HS.out HY.out))); (case side2 => exact St.hb (by repeat (first | (with_reducible first | exact HS.out | apply St.alloc | apply St.drewN | apply St.drew | exact St.far5 HS.out HX.out) | exact HS.out | exact St.far2 HS.out HY.out))); rintro e w25 ⟨rfl, hi, hb, hk⟩; have n0_ := Aside0.mk (show St P_2 w _ g (.slice A4b x4_2.length c4b) x4_2 t252 from ⟨Kd.V_step (St.hv (by repeat (first | (with_reducible first | exact HS.out | apply St.alloc | apply St.drewN | apply St.drew | exact St.far5 HS.out HX.out) | exact HS.out | exact St.far2 HS.out HY.out))) (fun k_ hp_ _ => hk.2 k_ (St.plt (by repeat (first | (with_reducible first | exact HS.out | apply St.alloc | apply St.drewN | apply St.drew | exact St.far5 HS.out HX.out) | exact HS.out | exact St.far2 HS.out HY.out)) k_ hp_) ((St.hi (by repeat (first | (with_reducible first | exact HS.out | apply St.alloc | apply St.drewN | apply St.drew | exact St.far5 HS.out HX.out) | exact HS.out | exact St.far2 HS.out HY.out))).2 k_ hp_).2 (by simp)), hi, hb⟩); clear HS hi hb hk; have HS := n0_; clear n0_))
                        go_roundg kj
                        case measure => have := HK1.out; have := HJ2.out; omega
                        case rel => exact ⟨x4_2, (wrap64 (x29_1 + 1)), t252, _, (by first | rfl | (simp; done) | (simp [*]; done)), H', ⟨by have := HK1.out; have := HJ2.out; omega⟩, ⟨(by repeat (first | (with_reducible first | exact HS.out | apply St.alloc | apply St.drewN | apply St.drew | exact St.far5 HS.out HX.out) | exact HS.out | exact St.far2 HS.out HY.out))⟩⟩
                      · rw [if_neg c46] at H
                        have c46b0 : (t251 == (x4_2.length : Int)) = false := beq_eq_false_iff_ne.mpr c46
                        have c46b1 : (t251 != (x4_2.length : Int)) = true := bne_iff_ne.mpr c46
                        clear c46
                        obtain rfl := Option.some.inj H
                        go_wp2_with (first | (go_at_call 27; (with_reducible refine (net_Net_Len.calls P_2 g s_2 t251 t252 w _ ?side1 ?side2 A44.out).mono ?_); (case side1 => exact St.hi (by repeat (first | (with_reducible first | exact HS.out | apply St.alloc | apply St.drewN | apply St.drew | exact St.far5 HS.out HX.out) | exact HS.out | exact St.far2 HS.out HY.out))); (case side2 => exact St.hb (by repeat (first | (with_reducible first | exact HS.out | apply St.alloc | apply St.drewN | apply St.drew | exact St.far5 HS.out HX.out) | exact HS.out | exact St.far2 HS.out HY.out))); rintro e w25 ⟨rfl, hi, hb, hk⟩; have n0_ := Aside0.mk (show St P_2 w _ g (.slice A4b x4_2.length c4b) x4_2 t252 from ⟨Kd.V_step (St.hv (by repeat (first | (with_reducible first | exact HS.out | apply St.alloc | apply St.drewN | apply St.drew | exact St.far5 HS.out HX.out) | exact HS.out | exact St.far2 HS.out HY.out))) (fun k_ hp_ _ => hk.2 k_ (St.plt (by repeat (first | (with_reducible first | exact HS.out | apply St.alloc | apply St.drewN | apply St.drew | exact St.far5 HS.out HX.out) | exact HS.out | exact St.far2 HS.out HY.out)) k_ hp_) ((St.hi (by repeat (first | (with_reducible first | exact HS.out | apply St.alloc | apply St.drewN | apply St.drew | exact St.far5 HS.out HX.out) | exact HS.out | exact St.far2 HS.out HY.out))).2 k_ hp_).2 (by simp)), hi, hb⟩); clear HS hi hb hk; have HS := n0_; clear n0_))
                        go_ret
                        exact ⟨by first | rfl | (simp [errW_none, errW_some] <;> rfl) | (simp [*, errW_none, errW_some] <;> rfl), (St.hb (by repeat (first | (with_reducible first | exact HS.out | apply St.alloc | apply St.drewN | apply St.drew | exact St.far5 HS.out HX.out) | exact HS.out | exact St.far2 HS.out HY.out)))⟩
                  · rw [if_neg c41] at H
                    have c41b0 : ((strOfNums x7).toList == (strOfNums x8).toList) = false := beq_eq_false_iff_ne.mpr c41
                    have c41b1 : ((strOfNums x7).toList != (strOfNums x8).toList) = true := bne_iff_ne.mpr c41
                    clear c41
                    obtain rfl := Option.some.inj H
                    go_wp2
                    go_ret
                    exact ⟨by first | rfl | (simp [errW_none, errW_some] <;> rfl) | (simp [*, errW_none, errW_some] <;> rfl), (St.hb (by repeat (first | (with_reducible first | exact HS.out | apply St.alloc | apply St.drewN | apply St.drew | exact St.far5 HS.out HX.out) | exact HS.out | exact St.far2 HS.out HY.out)))⟩
            · rw [if_neg c12] at H
              cases H
          · rw [if_neg c11] at H
            have c11b0 : decide (x29_1 < (l0.length : Int)) = false := decide_eq_false c11
            clear c11
            have H' := Aside0.mk H
            clear H
            go_wp2
            go_loopg [163] k1 (fun kq v163 w' => ∃ (x163 : Int) (s_2 : List S72) (P_2 : Nat → Prop), v163 = .int .i64 x163 ∧ Aside0 (ropewaylaw19_NetRuns.l2 kq x4_1 (x4_1.length : Int) x163 s_2 = some r) ∧ Aside0 (kq ≤ k1) ∧ Aside0 (St P_2 w w' g (.slice A4 x4_1.length c4) x4_1 s_2))
            case atStart => exact ⟨(0), s_1, _, (by first | rfl | (simp; done) | (simp [*]; done)), H', ⟨Nat.le_refl _⟩, ⟨(by repeat (first | (with_reducible first | exact HS.out | apply St.alloc | apply St.drewN | apply St.drew | exact St.far5 HS.out HX.out) | exact HS.out | exact St.far2 HS.out HY.out))⟩⟩
            case round =>
              clear H' HS
              obtain ⟨x163, s_2, P_2, rfl, HA, HK2, HS⟩ := hrel
              cases gk with
              | zero => exact absurd HA.out (by simp [ropewaylaw19_NetRuns.l2])
              | succ k2 =>
                have H := HA.out
                clear HA
                simp only [ropewaylaw19_NetRuns.l2] at H
                by_cases c508 : x163 < (x4_1.length : Int)
                · rw [if_pos c508] at H
                  have c508b0 : decide (x163 < (x4_1.length : Int)) = true := decide_eq_true c508
                  replace H := Option.bind_eq_some_iff.mp H
                  obtain ⟨⟨t306, t309, t310⟩, A5090, H⟩ := H
                  have A509 := Aside0.mk A5090
                  clear A5090
                  replace H : (if t309 = true then (if 0 ≤ x163 then (if x163 < (x4_1.length : Int) then (if (strOfNums t306).toList = (strOfNums ((rd_T56 x4_1 x163).f0)).toList then ropewaylaw19_NetRuns.l2 k2 x4_1 (x4_1.length : Int) (wrap64 (x163 + 1)) t310 else some false) else none) else none) else some false) = some r := H
                  by_cases c510 : t309 = true
                  · subst c510
                    rw [if_pos rfl] at H
                    by_cases c511 : 0 ≤ x163
                    · rw [if_pos c511, if_pos c508] at H
                      have c511b0 : decide (0 ≤ x163) = true := decide_eq_true c511
                      have p311 : 0 ≤ (x163 : Int) := c511
                      have q311 : x163 < (x4_1.length : Int) := c508
                      clear c511 c508
                      by_cases c513 : (strOfNums t306).toList = (strOfNums ((rd_T56 x4_1 x163).f0)).toList
                      · rw [if_pos c513] at H
                        have c513b0 : ((strOfNums t306).toList == (strOfNums ((rd_T56 x4_1 x163).f0)).toList) = true := beq_iff_eq.mpr c513
                        have c513b1 : ((strOfNums t306).toList != (strOfNums ((rd_T56 x4_1 x163).f0)).toList) = false := bne_eq_false_iff_eq.mpr c513
                        clear c513
                        have H' := Aside0.mk H
                        clear H
                        go_wp2_with (first | (go_at_call 25; (with_reducible refine (net_Net_At.calls P_2 g s_2 x163 t306 true t310 w _ ?side1 ?side2 A509.out).mono ?_); (case side1 => exact St.hi (by repeat (first | (with_reducible first | exact HS.out | apply St.alloc | apply St.drewN | apply St.drew | exact St.far5 HS.out HX.out) | exact HS.out | exact St.far2 HS.out HY.out))); (case side2 => exact St.hb (by repeat (first | (with_reducible first | exact HS.out | apply St.alloc | apply St.drewN | apply St.drew | exact St.far5 HS.out HX.out) | exact HS.out | exact St.far2 HS.out HY.out))); rintro e w26 ⟨v307, rfl, ho0, hi, hb, hk⟩; have n0_ := Aside0.mk (show St P_2 w _ g (.slice A4 x4_1.length c4) x4_1 t310 from ⟨Kd.V_step (St.hv (by repeat (first | (with_reducible first | exact HS.out | apply St.alloc | apply St.drewN | apply St.drew | exact St.far5 HS.out HX.out) | exact HS.out | exact St.far2 HS.out HY.out))) (fun k_ hp_ _ => hk.2 k_ (St.plt (by repeat (first | (with_reducible first | exact HS.out | apply St.alloc | apply St.drewN | apply St.drew | exact St.far5 HS.out HX.out) | exact HS.out | exact St.far2 HS.out HY.out)) k_ hp_) ((St.hi (by repeat (first | (with_reducible first | exact HS.out | apply St.alloc | apply St.drewN | apply St.drew | exact St.far5 HS.out HX.out) | exact HS.out | exact St.far2 HS.out HY.out))).2 k_ hp_).2 (by simp)), hi, hb⟩); have HO308 := Aside0.mk ho0; clear HS hi hb hk ho0; have HS := n0_; clear n0_; have hcv515 := own_string (P := Try.prog) Try.underlying22 Try.underlying5 Try.underlying9 (Kd.own_of_R HO308.out); have hcv515q := fun n_ => own_string (P := Try.prog) Try.underlying22 Try.underlying5 Try.underlying9 (Kd.own_of_R (Kd.R_drewN HO308.out n_)); obtain ⟨ad311, A311_0, c311_0, e311, hx311_0, hx311_1, hl311_0, hi311_0⟩ := at_T56 (Kd.V_reads' HS.out.hv).2.2 x163 p311 q311; cases e311; have HR311_0 := Aside0.mk hi311_0; have hcv516 := Kd.C_string (P := Try.prog) (A := A311_0) (c := c311_0) Try.underlying22 Try.underlying5 Try.underlying9 (by repeat (first | (with_reducible exact HR311_0.out) | (with_reducible refine Kd.C_alloc ?_ _) | (with_reducible refine Kd.C_drewN ?_ _) | (with_reducible refine Kd.C_drew ?_) | exact HR311_0.out)); have hcv516q := fun n_ => Kd.C_string (P := Try.prog) (A := A311_0) (c := c311_0) Try.underlying22 Try.underlying5 Try.underlying9 (Kd.C_drewN HR311_0.out n_); clear hi311_0 hl311_0; have pz311 := eq_true p311; have qz311 := eq_true q311))
                        repeat (go_quiet (first | (go_at_call 25; (with_reducible refine (net_Net_At.calls P_2 g s_2 x163 t306 true t310 w _ ?side1 ?side2 A509.out).mono ?_); (case side1 => exact St.hi (by repeat (first | (with_reducible first | exact HS.out | apply St.alloc | apply St.drewN | apply St.drew | exact St.far5 HS.out HX.out) | exact HS.out | exact St.far2 HS.out HY.out))); (case side2 => exact St.hb (by repeat (first | (with_reducible first | exact HS.out | apply St.alloc | apply St.drewN | apply St.drew | exact St.far5 HS.out HX.out) | exact HS.out | exact St.far2 HS.out HY.out))); rintro e w26 ⟨v307, rfl, ho0, hi, hb, hk⟩; have n0_ := Aside0.mk (show St P_2 w _ g (.slice A4 x4_1.length c4) x4_1 t310 from ⟨Kd.V_step (St.hv (by repeat (first | (with_reducible first | exact HS.out | apply St.alloc | apply St.drewN | apply St.drew | exact St.far5 HS.out HX.out) | exact HS.out | exact St.far2 HS.out HY.out))) (fun k_ hp_ _ => hk.2 k_ (St.plt (by repeat (first | (with_reducible first | exact HS.out | apply St.alloc | apply St.drewN | apply St.drew | exact St.far5 HS.out HX.out) | exact HS.out | exact St.far2 HS.out HY.out)) k_ hp_) ((St.hi (by repeat (first | (with_reducible first | exact HS.out | apply St.alloc | apply St.drewN | apply St.drew | exact St.far5 HS.out HX.out) | exact HS.out | exact St.far2 HS.out HY.out))).2 k_ hp_).2 (by simp)), hi, hb⟩); have HO308 := Aside0.mk ho0; clear HS hi hb hk ho0; have HS := n0_; clear n0_; have hcv515 := own_string (P := Try.prog) Try.underlying22 Try.underlying5 Try.underlying9 (Kd.own_of_R HO308.out); have hcv515q := fun n_ => own_string (P := Try.prog) Try.underlying22 Try.underlying5 Try.underlying9 (Kd.own_of_R (Kd.R_drewN HO308.out n_)); obtain ⟨ad311, A311_0, c311_0, e311, hx311_0, hx311_1, hl311_0, hi311_0⟩ := at_T56 (Kd.V_reads' HS.out.hv).2.2 x163 p311 q311; cases e311; have HR311_0 := Aside0.mk hi311_0; have hcv516 := Kd.C_string (P := Try.prog) (A := A311_0) (c := c311_0) Try.underlying22 Try.underlying5 Try.underlying9 (by repeat (first | (with_reducible exact HR311_0.out) | (with_reducible refine Kd.C_alloc ?_ _) | (with_reducible refine Kd.C_drewN ?_ _) | (with_reducible refine Kd.C_drew ?_) | exact HR311_0.out)); have hcv516q := fun n_ => Kd.C_string (P := Try.prog) (A := A311_0) (c := c311_0) Try.underlying22 Try.underlying5 Try.underlying9 (Kd.C_drewN HR311_0.out n_); clear hi311_0 hl311_0; have pz311 := eq_true p311; have qz311 := eq_true q311)); try go_wp2_with (first | (go_at_call 25; (with_reducible refine (net_Net_At.calls P_2 g s_2 x163 t306 true t310 w _ ?side1 ?side2 A509.out).mono ?_); (case side1 => exact St.hi (by repeat (first | (with_reducible first | exact HS.out | apply St.alloc | apply St.drewN | apply St.drew | exact St.far5 HS.out HX.out) | exact HS.out | exact St.far2 HS.out HY.out))); (case side2 => exact St.hb (by repeat (first | (with_reducible first | exact HS.out | apply St.alloc | apply St.drewN | apply St.drew | exact St.far5 HS.out HX.out) | exact HS.out | exact St.far2 HS.out HY.out))); rintro e w26 ⟨v307, rfl, ho0, hi, hb, hk⟩; have n0_ := Aside0.mk (show St P_2 w _ g (.slice A4 x4_1.length c4) x4_1 t310 from ⟨Kd.V_step (St.hv (by repeat (first | (with_reducible first | exact HS.out | apply St.alloc | apply St.drewN | apply St.drew | exact St.far5 HS.out HX.out) | exact HS.out | exact St.far2 HS.out HY.out))) (fun k_ hp_ _ => hk.2 k_ (St.plt (by repeat (first | (with_reducible first | exact HS.out | apply St.alloc | apply St.drewN | apply St.drew | exact St.far5 HS.out HX.out) | exact HS.out | exact St.far2 HS.out HY.out)) k_ hp_) ((St.hi (by repeat (first | (with_reducible first | exact HS.out | apply St.alloc | apply St.drewN | apply St.drew | exact St.far5 HS.out HX.out) | exact HS.out | exact St.far2 HS.out HY.out))).2 k_ hp_).2 (by simp)), hi, hb⟩); have HO308 := Aside0.mk ho0; clear HS hi hb hk ho0; have HS := n0_; clear n0_; have hcv515 := own_string (P := Try.prog) Try.underlying22 Try.underlying5 Try.underlying9 (Kd.own_of_R HO308.out); have hcv515q := fun n_ => own_string (P := Try.prog) Try.underlying22 Try.underlying5 Try.underlying9 (Kd.own_of_R (Kd.R_drewN HO308.out n_)); obtain ⟨ad311, A311_0, c311_0, e311, hx311_0, hx311_1, hl311_0, hi311_0⟩ := at_T56 (Kd.V_reads' HS.out.hv).2.2 x163 p311 q311; cases e311; have HR311_0 := Aside0.mk hi311_0; have hcv516 := Kd.C_string (P := Try.prog) (A := A311_0) (c := c311_0) Try.underlying22 Try.underlying5 Try.underlying9 (by repeat (first | (with_reducible exact HR311_0.out) | (with_reducible refine Kd.C_alloc ?_ _) | (with_reducible refine Kd.C_drewN ?_ _) | (with_reducible refine Kd.C_drew ?_) | exact HR311_0.out)); have hcv516q := fun n_ => Kd.C_string (P := Try.prog) (A := A311_0) (c := c311_0) Try.underlying22 Try.underlying5 Try.underlying9 (Kd.C_drewN HR311_0.out n_); clear hi311_0 hl311_0; have pz311 := eq_true p311; have qz311 := eq_true q311)))
                        go_roundg k2
                        case measure => have := HK1.out; have := HK2.out; omega
                        case rel => exact ⟨(wrap64 (x163 + 1)), t310, _, (by first | rfl | (simp; done) | (simp [*]; done)), H', ⟨by have := HK1.out; have := HK2.out; omega⟩, ⟨(by repeat (first | (with_reducible first | exact HS.out | apply St.alloc | apply St.drewN | apply St.drew | exact St.far5 HS.out HX.out) | exact HS.out | exact St.far2 HS.out HY.out))⟩⟩
                      · rw [if_neg c513] at H
                        have c513b0 : ((strOfNums t306).toList == (strOfNums ((rd_T56 x4_1 x163).f0)).toList) = false := beq_eq_false_iff_ne.mpr c513
                        have c513b1 : ((strOfNums t306).toList != (strOfNums ((rd_T56 x4_1 x163).f0)).toList) = true := bne_iff_ne.mpr c513
                        clear c513
                        obtain rfl := Option.some.inj H
                        go_wp2_with (first | (go_at_call 25; (with_reducible refine (net_Net_At.calls P_2 g s_2 x163 t306 true t310 w _ ?side1 ?side2 A509.out).mono ?_); (case side1 => exact St.hi (by repeat (first | (with_reducible first | exact HS.out | apply St.alloc | apply St.drewN | apply St.drew | exact St.far5 HS.out HX.out) | exact HS.out | exact St.far2 HS.out HY.out))); (case side2 => exact St.hb (by repeat (first | (with_reducible first | exact HS.out | apply St.alloc | apply St.drewN | apply St.drew | exact St.far5 HS.out HX.out) | exact HS.out | exact St.far2 HS.out HY.out))); rintro e w26 ⟨v307, rfl, ho0, hi, hb, hk⟩; have n0_ := Aside0.mk (show St P_2 w _ g (.slice A4 x4_1.length c4) x4_1 t310 from ⟨Kd.V_step (St.hv (by repeat (first | (with_reducible first | exact HS.out | apply St.alloc | apply St.drewN | apply St.drew | exact St.far5 HS.out HX.out) | exact HS.out | exact St.far2 HS.out HY.out))) (fun k_ hp_ _ => hk.2 k_ (St.plt (by repeat (first | (with_reducible first | exact HS.out | apply St.alloc | apply St.drewN | apply St.drew | exact St.far5 HS.out HX.out) | exact HS.out | exact St.far2 HS.out HY.out)) k_ hp_) ((St.hi (by repeat (first | (with_reducible first | exact HS.out | apply St.alloc | apply St.drewN | apply St.drew | exact St.far5 HS.out HX.out) | exact HS.out | exact St.far2 HS.out HY.out))).2 k_ hp_).2 (by simp)), hi, hb⟩); have HO308 := Aside0.mk ho0; clear HS hi hb hk ho0; have HS := n0_; clear n0_; have hcv515 := own_string (P := Try.prog) Try.underlying22 Try.underlying5 Try.underlying9 (Kd.own_of_R HO308.out); have hcv515q := fun n_ => own_string (P := Try.prog) Try.underlying22 Try.underlying5 Try.underlying9 (Kd.own_of_R (Kd.R_drewN HO308.out n_)); obtain ⟨ad311, A311_0, c311_0, e311, hx311_0, hx311_1, hl311_0, hi311_0⟩ := at_T56 (Kd.V_reads' HS.out.hv).2.2 x163 p311 q311; cases e311; have HR311_0 := Aside0.mk hi311_0; have hcv516 := Kd.C_string (P := Try.prog) (A := A311_0) (c := c311_0) Try.underlying22 Try.underlying5 Try.underlying9 (by repeat (first | (with_reducible exact HR311_0.out) | (with_reducible refine Kd.C_alloc ?_ _) | (with_reducible refine Kd.C_drewN ?_ _) | (with_reducible refine Kd.C_drew ?_) | exact HR311_0.out)); have hcv516q := fun n_ => Kd.C_string (P := Try.prog) (A := A311_0) (c := c311_0) Try.underlying22 Try.underlying5 Try.underlying9 (Kd.C_drewN HR311_0.out n_); clear hi311_0 hl311_0; have pz311 := eq_true p311; have qz311 := eq_true q311))
                        repeat (go_quiet (first | (go_at_call 25; (with_reducible refine (net_Net_At.calls P_2 g s_2 x163 t306 true t310 w _ ?side1 ?side2 A509.out).mono ?_); (case side1 => exact St.hi (by repeat (first | (with_reducible first | exact HS.out | apply St.alloc | apply St.drewN | apply St.drew | exact St.far5 HS.out HX.out) | exact HS.out | exact St.far2 HS.out HY.out))); (case side2 => exact St.hb (by repeat (first | (with_reducible first | exact HS.out | apply St.alloc | apply St.drewN | apply St.drew | exact St.far5 HS.out HX.out) | exact HS.out | exact St.far2 HS.out HY.out))); rintro e w26 ⟨v307, rfl, ho0, hi, hb, hk⟩; have n0_ := Aside0.mk (show St P_2 w _ g (.slice A4 x4_1.length c4) x4_1 t310 from ⟨Kd.V_step (St.hv (by repeat (first | (with_reducible first | exact HS.out | apply St.alloc | apply St.drewN | apply St.drew | exact St.far5 HS.out HX.out) | exact HS.out | exact St.far2 HS.out HY.out))) (fun k_ hp_ _ => hk.2 k_ (St.plt (by repeat (first | (with_reducible first | exact HS.out | apply St.alloc | apply St.drewN | apply St.drew | exact St.far5 HS.out HX.out) | exact HS.out | exact St.far2 HS.out HY.out)) k_ hp_) ((St.hi (by repeat (first | (with_reducible first | exact HS.out | apply St.alloc | apply St.drewN | apply St.drew | exact St.far5 HS.out HX.out) | exact HS.out | exact St.far2 HS.out HY.out))).2 k_ hp_).2 (by simp)), hi, hb⟩); have HO308 := Aside0.mk ho0; clear HS hi hb hk ho0; have HS := n0_; clear n0_; have hcv515 := own_string (P := Try.prog) Try.underlying22 Try.underlying5 Try.underlying9 (Kd.own_of_R HO308.out); have hcv515q := fun n_ => own_string (P := Try.prog) Try.underlying22 Try.underlying5 Try.underlying9 (Kd.own_of_R (Kd.R_drewN HO308.out n_)); obtain ⟨ad311, A311_0, c311_0, e311, hx311_0, hx311_1, hl311_0, hi311_0⟩ := at_T56 (Kd.V_reads' HS.out.hv).2.2 x163 p311 q311; cases e311; have HR311_0 := Aside0.mk hi311_0; have hcv516 := Kd.C_string (P := Try.prog) (A := A311_0) (c := c311_0) Try.underlying22 Try.underlying5 Try.underlying9 (by repeat (first | (with_reducible exact HR311_0.out) | (with_reducible refine Kd.C_alloc ?_ _) | (with_reducible refine Kd.C_drewN ?_ _) | (with_reducible refine Kd.C_drew ?_) | exact HR311_0.out)); have hcv516q := fun n_ => Kd.C_string (P := Try.prog) (A := A311_0) (c := c311_0) Try.underlying22 Try.underlying5 Try.underlying9 (Kd.C_drewN HR311_0.out n_); clear hi311_0 hl311_0; have pz311 := eq_true p311; have qz311 := eq_true q311)); try go_wp2_with (first | (go_at_call 25; (with_reducible refine (net_Net_At.calls P_2 g s_2 x163 t306 true t310 w _ ?side1 ?side2 A509.out).mono ?_); (case side1 => exact St.hi (by repeat (first | (with_reducible first | exact HS.out | apply St.alloc | apply St.drewN | apply St.drew | exact St.far5 HS.out HX.out) | exact HS.out | exact St.far2 HS.out HY.out))); (case side2 => exact St.hb (by repeat (first | (with_reducible first | exact HS.out | apply St.alloc | apply St.drewN | apply St.drew | exact St.far5 HS.out HX.out) | exact HS.out | exact St.far2 HS.out HY.out))); rintro e w26 ⟨v307, rfl, ho0, hi, hb, hk⟩; have n0_ := Aside0.mk (show St P_2 w _ g (.slice A4 x4_1.length c4) x4_1 t310 from ⟨Kd.V_step (St.hv (by repeat (first | (with_reducible first | exact HS.out | apply St.alloc | apply St.drewN | apply St.drew | exact St.far5 HS.out HX.out) | exact HS.out | exact St.far2 HS.out HY.out))) (fun k_ hp_ _ => hk.2 k_ (St.plt (by repeat (first | (with_reducible first | exact HS.out | apply St.alloc | apply St.drewN | apply St.drew | exact St.far5 HS.out HX.out) | exact HS.out | exact St.far2 HS.out HY.out)) k_ hp_) ((St.hi (by repeat (first | (with_reducible first | exact HS.out | apply St.alloc | apply St.drewN | apply St.drew | exact St.far5 HS.out HX.out) | exact HS.out | exact St.far2 HS.out HY.out))).2 k_ hp_).2 (by simp)), hi, hb⟩); have HO308 := Aside0.mk ho0; clear HS hi hb hk ho0; have HS := n0_; clear n0_; have hcv515 := own_string (P := Try.prog) Try.underlying22 Try.underlying5 Try.underlying9 (Kd.own_of_R HO308.out); have hcv515q := fun n_ => own_string (P := Try.prog) Try.underlying22 Try.underlying5 Try.underlying9 (Kd.own_of_R (Kd.R_drewN HO308.out n_)); obtain ⟨ad311, A311_0, c311_0, e311, hx311_0, hx311_1, hl311_0, hi311_0⟩ := at_T56 (Kd.V_reads' HS.out.hv).2.2 x163 p311 q311; cases e311; have HR311_0 := Aside0.mk hi311_0; have hcv516 := Kd.C_string (P := Try.prog) (A := A311_0) (c := c311_0) Try.underlying22 Try.underlying5 Try.underlying9 (by repeat (first | (with_reducible exact HR311_0.out) | (with_reducible refine Kd.C_alloc ?_ _) | (with_reducible refine Kd.C_drewN ?_ _) | (with_reducible refine Kd.C_drew ?_) | exact HR311_0.out)); have hcv516q := fun n_ => Kd.C_string (P := Try.prog) (A := A311_0) (c := c311_0) Try.underlying22 Try.underlying5 Try.underlying9 (Kd.C_drewN HR311_0.out n_); clear hi311_0 hl311_0; have pz311 := eq_true p311; have qz311 := eq_true q311)))
                        go_ret
                        exact ⟨by first | rfl | (simp [errW_none, errW_some] <;> rfl) | (simp [*, errW_none, errW_some] <;> rfl), (St.hb (by repeat (first | (with_reducible first | exact HS.out | apply St.alloc | apply St.drewN | apply St.drew | exact St.far5 HS.out HX.out) | exact HS.out | exact St.far2 HS.out HY.out)))⟩
                    · rw [if_neg c511] at H
                      cases H
                  · replace c510 := Bool.eq_false_iff.mpr c510
                    subst c510
                    rw [if_neg (show ¬ (false = true) by decide)] at H
                    clear c508
                    obtain rfl := Option.some.inj H
                    go_wp2_with (first | (go_at_call 25; (with_reducible refine (net_Net_At.calls P_2 g s_2 x163 t306 false t310 w _ ?side1 ?side2 A509.out).mono ?_); (case side1 => exact St.hi (by repeat (first | (with_reducible first | exact HS.out | apply St.alloc | apply St.drewN | apply St.drew | exact St.far5 HS.out HX.out) | exact HS.out | exact St.far2 HS.out HY.out))); (case side2 => exact St.hb (by repeat (first | (with_reducible first | exact HS.out | apply St.alloc | apply St.drewN | apply St.drew | exact St.far5 HS.out HX.out) | exact HS.out | exact St.far2 HS.out HY.out))); rintro e w26 ⟨v307, rfl, ho0, hi, hb, hk⟩; have n0_ := Aside0.mk (show St P_2 w _ g (.slice A4 x4_1.length c4) x4_1 t310 from ⟨Kd.V_step (St.hv (by repeat (first | (with_reducible first | exact HS.out | apply St.alloc | apply St.drewN | apply St.drew | exact St.far5 HS.out HX.out) | exact HS.out | exact St.far2 HS.out HY.out))) (fun k_ hp_ _ => hk.2 k_ (St.plt (by repeat (first | (with_reducible first | exact HS.out | apply St.alloc | apply St.drewN | apply St.drew | exact St.far5 HS.out HX.out) | exact HS.out | exact St.far2 HS.out HY.out)) k_ hp_) ((St.hi (by repeat (first | (with_reducible first | exact HS.out | apply St.alloc | apply St.drewN | apply St.drew | exact St.far5 HS.out HX.out) | exact HS.out | exact St.far2 HS.out HY.out))).2 k_ hp_).2 (by simp)), hi, hb⟩); have HO308 := Aside0.mk ho0; clear HS hi hb hk ho0; have HS := n0_; clear n0_; have hcv515 := own_string (P := Try.prog) Try.underlying22 Try.underlying5 Try.underlying9 (Kd.own_of_R HO308.out); have hcv515q := fun n_ => own_string (P := Try.prog) Try.underlying22 Try.underlying5 Try.underlying9 (Kd.own_of_R (Kd.R_drewN HO308.out n_))))
                    repeat (go_quiet (first | (go_at_call 25; (with_reducible refine (net_Net_At.calls P_2 g s_2 x163 t306 false t310 w _ ?side1 ?side2 A509.out).mono ?_); (case side1 => exact St.hi (by repeat (first | (with_reducible first | exact HS.out | apply St.alloc | apply St.drewN | apply St.drew | exact St.far5 HS.out HX.out) | exact HS.out | exact St.far2 HS.out HY.out))); (case side2 => exact St.hb (by repeat (first | (with_reducible first | exact HS.out | apply St.alloc | apply St.drewN | apply St.drew | exact St.far5 HS.out HX.out) | exact HS.out | exact St.far2 HS.out HY.out))); rintro e w26 ⟨v307, rfl, ho0, hi, hb, hk⟩; have n0_ := Aside0.mk (show St P_2 w _ g (.slice A4 x4_1.length c4) x4_1 t310 from ⟨Kd.V_step (St.hv (by repeat (first | (with_reducible first | exact HS.out | apply St.alloc | apply St.drewN | apply St.drew | exact St.far5 HS.out HX.out) | exact HS.out | exact St.far2 HS.out HY.out))) (fun k_ hp_ _ => hk.2 k_ (St.plt (by repeat (first | (with_reducible first | exact HS.out | apply St.alloc | apply St.drewN | apply St.drew | exact St.far5 HS.out HX.out) | exact HS.out | exact St.far2 HS.out HY.out)) k_ hp_) ((St.hi (by repeat (first | (with_reducible first | exact HS.out | apply St.alloc | apply St.drewN | apply St.drew | exact St.far5 HS.out HX.out) | exact HS.out | exact St.far2 HS.out HY.out))).2 k_ hp_).2 (by simp)), hi, hb⟩); have HO308 := Aside0.mk ho0; clear HS hi hb hk ho0; have HS := n0_; clear n0_; have hcv515 := own_string (P := Try.prog) Try.underlying22 Try.underlying5 Try.underlying9 (Kd.own_of_R HO308.out); have hcv515q := fun n_ => own_string (P := Try.prog) Try.underlying22 Try.underlying5 Try.underlying9 (Kd.own_of_R (Kd.R_drewN HO308.out n_)))); try go_wp2_with (first | (go_at_call 25; (with_reducible refine (net_Net_At.calls P_2 g s_2 x163 t306 false t310 w _ ?side1 ?side2 A509.out).mono ?_); (case side1 => exact St.hi (by repeat (first | (with_reducible first | exact HS.out | apply St.alloc | apply St.drewN | apply St.drew | exact St.far5 HS.out HX.out) | exact HS.out | exact St.far2 HS.out HY.out))); (case side2 => exact St.hb (by repeat (first | (with_reducible first | exact HS.out | apply St.alloc | apply St.drewN | apply St.drew | exact St.far5 HS.out HX.out) | exact HS.out | exact St.far2 HS.out HY.out))); rintro e w26 ⟨v307, rfl, ho0, hi, hb, hk⟩; have n0_ := Aside0.mk (show St P_2 w _ g (.slice A4 x4_1.length c4) x4_1 t310 from ⟨Kd.V_step (St.hv (by repeat (first | (with_reducible first | exact HS.out | apply St.alloc | apply St.drewN | apply St.drew | exact St.far5 HS.out HX.out) | exact HS.out | exact St.far2 HS.out HY.out))) (fun k_ hp_ _ => hk.2 k_ (St.plt (by repeat (first | (with_reducible first | exact HS.out | apply St.alloc | apply St.drewN | apply St.drew | exact St.far5 HS.out HX.out) | exact HS.out | exact St.far2 HS.out HY.out)) k_ hp_) ((St.hi (by repeat (first | (with_reducible first | exact HS.out | apply St.alloc | apply St.drewN | apply St.drew | exact St.far5 HS.out HX.out) | exact HS.out | exact St.far2 HS.out HY.out))).2 k_ hp_).2 (by simp)), hi, hb⟩); have HO308 := Aside0.mk ho0; clear HS hi hb hk ho0; have HS := n0_; clear n0_; have hcv515 := own_string (P := Try.prog) Try.underlying22 Try.underlying5 Try.underlying9 (Kd.own_of_R HO308.out); have hcv515q := fun n_ => own_string (P := Try.prog) Try.underlying22 Try.underlying5 Try.underlying9 (Kd.own_of_R (Kd.R_drewN HO308.out n_)))))
                    go_ret
                    exact ⟨by first | rfl | (simp [errW_none, errW_some] <;> rfl) | (simp [*, errW_none, errW_some] <;> rfl), (St.hb (by repeat (first | (with_reducible first | exact HS.out | apply St.alloc | apply St.drewN | apply St.drew | exact St.far5 HS.out HX.out) | exact HS.out | exact St.far2 HS.out HY.out)))⟩
                · rw [if_neg c508] at H
                  have c508b0 : decide (x163 < (x4_1.length : Int)) = false := decide_eq_false c508
                  clear c508
                  obtain rfl := Option.some.inj H
                  go_wp2
                  go_ret
                  exact ⟨by first | rfl | (simp [errW_none, errW_some] <;> rfl) | (simp [*, errW_none, errW_some] <;> rfl), (St.hb (by repeat (first | (with_reducible first | exact HS.out | apply St.alloc | apply St.drewN | apply St.drew | exact St.far5 HS.out HX.out) | exact HS.out | exact St.far2 HS.out HY.out)))⟩
  · replace c3 := Bool.eq_false_iff.mpr c3
    subst c3
    rw [if_neg (show ¬ (false = true) by decide)] at H
    obtain rfl := Option.some.inj H
    go_enter Try.func11, Try.ntmps11
    go_wp2_with (first | (go_at_call 26; (with_reducible refine (ropewaylaw19_netAlive.calls k  false _ A2.out).mono ?_); rintro e w27 ⟨rfl, hb⟩; have n0_ := Aside0.mk (below_step (by repeat (first | (with_reducible first | exact HB.out | apply below_alloc | apply pw_below_drewN | apply below_drew1) | exact HB.out)) hb); clear HB; have HB := n0_; clear n0_ hb))
    go_ret
    exact ⟨by first | rfl | (simp [errW_none, errW_some] <;> rfl) | (simp [*, errW_none, errW_some] <;> rfl), (by repeat (first | (with_reducible first | exact HB.out | apply below_alloc | apply pw_below_drewN | apply below_drew1) | exact HB.out))⟩
end Go.Proofs.Ytjcpamclggbbdaa.PNru
