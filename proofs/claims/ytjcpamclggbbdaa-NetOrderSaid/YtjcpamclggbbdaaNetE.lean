/- Printed by a program of ours (wip/tool/ppn.py, over the kit's printer, and wip/tool/netfix.py): walks of functions that use a net, or that a net's functions use. -/
import Derived.Test.YtjcpamclggbbdaaNetFz
namespace Go.Proofs.Ytjcpamclggbbdaa.PNgt
open Go.RowKit Go.Proofs.YtjcpamclggbbdaaW.PrintWords Go.Proofs.YtjcpamclggbbdaaW.PrintLast Go.Proofs.YtjcpamclggbbdaaW.PrintMore
attribute [local go_sem] max2_int min2_int max_two min_two max_three min_three max_four min_four   -- for this text's walks alone
set_option linter.unusedVariables false
set_option linter.unusedSimpArgs false

/-! ### ropewaylaw19_NetOrder: function 13 -/
mutual
def ropewaylaw19_NetOrder.l0 : Nat → List (List Int) → Int → List (List Int) → Int → Int → List S72 → Option (Bool)
  | 0, _, _, _, _, _, _ => none
  | k + 1, x0, x1, x20, x21, x22, x147000 => if x22 < x21 then (if 0 ≤ x22 then (if x22 < (x20.length : Int) then ((some (([] : List Int) : List Int)).bind fun y148 => (if y148.length + (rd_L1 x20 x22).length < 140737488355328 then ((net_Net_Put.f x147000 (y148 ++ (rd_L1 x20 x22))).bind fun bt154 => (ropewaylaw19_NetOrder.l0 k x0 x1 x20 x21 (wrap64 (x22 + 1)) bt154.2)) else (none))) else (none)) else (none)) else ((net_Net_Double.f x147000 x1).bind fun bt156 => (if x1 ≥ 0 then (ropewaylaw19_NetOrder.j1 k x0 x1 bt156.1 (bt156.1 != (decide (x1 < (x0.length : Int)))) bt156.2) else (ropewaylaw19_NetOrder.j1 k x0 x1 bt156.1 (bt156.1 != false) bt156.2)))
def ropewaylaw19_NetOrder.j1 : Nat → List (List Int) → Int → Bool → Bool → List S72 → Option (Bool)
  | 0, _, _, _, _, _ => none
  | k + 1, x0, x1, x8, x44, x147000 => if x44 = true then (some false) else (if x8 = true then (if 0 ≤ x1 then (if x1 < (x0.length : Int) then (ropewaylaw19_NetOrder.j2 k (x0 ++ [rd_L1 x0 x1]) x147000) else (none)) else (none)) else (ropewaylaw19_NetOrder.j2 k x0 x147000))
def ropewaylaw19_NetOrder.j2 : Nat → List (List Int) → List S72 → Option (Bool)
  | 0, _, _ => none
  | k + 1, x9, x147000 => ropewaylaw19_NetOrder.l1 k x9 (x9.length : Int) 0 x147000
def ropewaylaw19_NetOrder.l1 : Nat → List (List Int) → Int → Int → List S72 → Option (Bool)
  | 0, _, _, _, _ => none
  | k + 1, x56, x57, x58, x147000 => if x58 < x57 then (if 0 ≤ x58 then (if x58 < (x56.length : Int) then ((net_Net_Take.f x147000 0).bind fun bt163 => (if bt163.2.1 = true then (if (strOfNums bt163.1).toList = (strOfNums (rd_L1 x56 x58)).toList then (ropewaylaw19_NetOrder.l1 k x56 x57 (wrap64 (x58 + 1)) bt163.2.2) else (some false)) else (some false))) else (none)) else (none)) else ((net_Net_Len.f x147000).bind fun bt168 => (some (bt168.1 == 0)))
end
def ropewaylaw19_NetOrder.f (k : Nat) (l0 : List (List Int)) (a1 : Int) : Option (Bool) := (ropewaylaw19_netAlive.f k).bind fun t144 => (if t144 = true then (if (l0.length : Int) > 200 then (some true) else ((net_New.f).bind fun t145 => (ropewaylaw19_NetOrder.l0 k l0 a1 l0 (l0.length : Int) 0 t145))) else (some false))
theorem ropewaylaw19_NetOrder.mono_l : ∀ k, (∀ y0 y1 y2 y3 y4 y5, LeO (ropewaylaw19_NetOrder.l0 k y0 y1 y2 y3 y4 y5) (ropewaylaw19_NetOrder.l0 (k + 1) y0 y1 y2 y3 y4 y5)) ∧ (∀ y0 y1 y2 y3 y4, LeO (ropewaylaw19_NetOrder.j1 k y0 y1 y2 y3 y4) (ropewaylaw19_NetOrder.j1 (k + 1) y0 y1 y2 y3 y4)) ∧ (∀ y0 y1, LeO (ropewaylaw19_NetOrder.j2 k y0 y1) (ropewaylaw19_NetOrder.j2 (k + 1) y0 y1)) ∧ (∀ y0 y1 y2 y3, LeO (ropewaylaw19_NetOrder.l1 k y0 y1 y2 y3) (ropewaylaw19_NetOrder.l1 (k + 1) y0 y1 y2 y3))
  | 0 => ⟨fun _ _ _ _ _ _ r h => by simp [ropewaylaw19_NetOrder.l0] at h, fun _ _ _ _ _ r h => by simp [ropewaylaw19_NetOrder.j1] at h, fun _ _ r h => by simp [ropewaylaw19_NetOrder.j2] at h, fun _ _ _ _ r h => by simp [ropewaylaw19_NetOrder.l1] at h⟩
  | k + 1 => by
    obtain ⟨ih0, ih1, ih2, ih3⟩ := ropewaylaw19_NetOrder.mono_l k
    refine ⟨?_, ?_, ?_, ?_⟩
    · intro y0 y1 y2 y3 y4 y5
      unfold ropewaylaw19_NetOrder.l0
      repeat' first
      | (with_reducible exact ih0 _ _ _ _ _ _)
      | (with_reducible exact ih1 _ _ _ _ _)
      | (with_reducible exact ih2 _ _)
      | (with_reducible exact ih3 _ _ _ _)
      | (with_reducible exact ropewaylaw19_netAlive.mono _)
      | (with_reducible exact LeO.refl _)
      | (with_reducible exact LeO.none _)
      | (with_reducible refine LeO.ite ?_ ?_)
      | (with_reducible refine LeO.bind ?_ (fun _ => ?_))
      | exact ih0 _ _ _ _ _ _
      | exact ih1 _ _ _ _ _
      | exact ih2 _ _
      | exact ih3 _ _ _ _
      | exact ropewaylaw19_netAlive.mono _
      | exact LeO.none _
      | refine LeO.ite ?_ ?_
      | refine LeO.bind ?_ (fun _ => ?_)
    · intro y0 y1 y2 y3 y4
      unfold ropewaylaw19_NetOrder.j1
      repeat' first
      | (with_reducible exact ih0 _ _ _ _ _ _)
      | (with_reducible exact ih1 _ _ _ _ _)
      | (with_reducible exact ih2 _ _)
      | (with_reducible exact ih3 _ _ _ _)
      | (with_reducible exact ropewaylaw19_netAlive.mono _)
      | (with_reducible exact LeO.refl _)
      | (with_reducible exact LeO.none _)
      | (with_reducible refine LeO.ite ?_ ?_)
      | (with_reducible refine LeO.bind ?_ (fun _ => ?_))
      | exact ih0 _ _ _ _ _ _
      | exact ih1 _ _ _ _ _
      | exact ih2 _ _
      | exact ih3 _ _ _ _
      | exact ropewaylaw19_netAlive.mono _
      | exact LeO.none _
      | refine LeO.ite ?_ ?_
      | refine LeO.bind ?_ (fun _ => ?_)
    · intro y0 y1
      unfold ropewaylaw19_NetOrder.j2
      repeat' first
      | (with_reducible exact ih0 _ _ _ _ _ _)
      | (with_reducible exact ih1 _ _ _ _ _)
      | (with_reducible exact ih2 _ _)
      | (with_reducible exact ih3 _ _ _ _)
      | (with_reducible exact ropewaylaw19_netAlive.mono _)
      | (with_reducible exact LeO.refl _)
      | (with_reducible exact LeO.none _)
      | (with_reducible refine LeO.ite ?_ ?_)
      | (with_reducible refine LeO.bind ?_ (fun _ => ?_))
      | exact ih0 _ _ _ _ _ _
      | exact ih1 _ _ _ _ _
      | exact ih2 _ _
      | exact ih3 _ _ _ _
      | exact ropewaylaw19_netAlive.mono _
      | exact LeO.none _
      | refine LeO.ite ?_ ?_
      | refine LeO.bind ?_ (fun _ => ?_)
    · intro y0 y1 y2 y3
      unfold ropewaylaw19_NetOrder.l1
      repeat' first
      | (with_reducible exact ih0 _ _ _ _ _ _)
      | (with_reducible exact ih1 _ _ _ _ _)
      | (with_reducible exact ih2 _ _)
      | (with_reducible exact ih3 _ _ _ _)
      | (with_reducible exact ropewaylaw19_netAlive.mono _)
      | (with_reducible exact LeO.refl _)
      | (with_reducible exact LeO.none _)
      | (with_reducible refine LeO.ite ?_ ?_)
      | (with_reducible refine LeO.bind ?_ (fun _ => ?_))
      | exact ih0 _ _ _ _ _ _
      | exact ih1 _ _ _ _ _
      | exact ih2 _ _
      | exact ih3 _ _ _ _
      | exact ropewaylaw19_netAlive.mono _
      | exact LeO.none _
      | refine LeO.ite ?_ ?_
      | refine LeO.bind ?_ (fun _ => ?_)
theorem ropewaylaw19_NetOrder.mono : ∀ a0 a1 k, LeO (ropewaylaw19_NetOrder.f k a0 a1) (ropewaylaw19_NetOrder.f (k + 1) a0 a1) := by
  intro a0 a1 k
  obtain ⟨ih0, ih1, ih2, ih3⟩ := ropewaylaw19_NetOrder.mono_l k
  unfold ropewaylaw19_NetOrder.f
  repeat' first
      | (with_reducible exact ih0 _ _ _ _ _ _)
      | (with_reducible exact ih1 _ _ _ _ _)
      | (with_reducible exact ih2 _ _)
      | (with_reducible exact ih3 _ _ _ _)
      | (with_reducible exact ropewaylaw19_netAlive.mono _)
      | (with_reducible exact LeO.refl _)
      | (with_reducible exact LeO.none _)
      | (with_reducible refine LeO.ite ?_ ?_)
      | (with_reducible refine LeO.bind ?_ (fun _ => ?_))
      | exact ih0 _ _ _ _ _ _
      | exact ih1 _ _ _ _ _
      | exact ih2 _ _
      | exact ih3 _ _ _ _
      | exact ropewaylaw19_netAlive.mono _
      | exact LeO.none _
      | refine LeO.ite ?_ ?_
      | refine LeO.bind ?_ (fun _ => ?_)
set_option maxHeartbeats 8000000 in
set_option maxRecDepth 100000 in
theorem ropewaylaw19_NetOrder.calls (k : Nat) (A0 : Option Addr) (c0 : Nat) (l0 : List (List Int)) (a1 : Int) (r : Bool) (w : World) (hr0 : Kd.C (Kd.slice 5 (Kd.int .u8)) w A0 l0.length l0) (hc0 : l0.length ≤ c0) (h : ropewaylaw19_NetOrder.f k l0 a1 = some r) :
    Calls Try.prog 13 #[.slice A0 l0.length c0, .int .i64 a1] w fun e w' => e = .returned (.bool r) ∧ Below w.heap.size w w' := by
  have HR0 := Aside0.mk hr0
  have HC0 := Aside0.mk hc0
  clear hr0 hc0
  have HB := Aside0.mk (Below.refl w.heap.size w)
  have H : ((ropewaylaw19_netAlive.f k).bind fun t144 => (if t144 = true then (if (l0.length : Int) > 200 then (some true) else ((net_New.f).bind fun t145 => (ropewaylaw19_NetOrder.l0 k l0 a1 l0 (l0.length : Int) 0 t145))) else (some false))) = some r := h
  clear h
  replace H := Option.bind_eq_some_iff.mp H
  obtain ⟨t144, A30, H⟩ := H
  replace H : (if t144 = true then (if (l0.length : Int) > 200 then (some true) else ((net_New.f).bind fun t145 => (ropewaylaw19_NetOrder.l0 k l0 a1 l0 (l0.length : Int) 0 t145))) else (some false)) = some r := H
  have A3 := Aside0.mk A30
  clear A30
  by_cases c4 : t144 = true
  · subst c4
    have H1 : (if (l0.length : Int) > 200 then (some true) else ((net_New.f).bind fun t145 => (ropewaylaw19_NetOrder.l0 k l0 a1 l0 (l0.length : Int) 0 t145))) = some r := by rw [if_pos rfl] at H; exact H
    clear H
    have H := H1
    clear H1
    by_cases c5 : (l0.length : Int) > 200
    · rw [if_pos c5] at H
      have c5b0 : decide (200 < (l0.length : Int)) = true := decide_eq_true c5
      have c5b1 : decide (200 < l0.length) = true := decide_eq_true (by omega)
      clear c5
      obtain rfl := Option.some.inj H
      go_enter Try.func13, Try.ntmps13
      go_wp2_with (first | ((with_reducible refine gate_callee (f := 26) rfl ?_); refine goesL_ (some 14) rfl rfl Try.func26 (by kernel_rfl) rfl #[] rfl (by (try simp only [List.map_toArray, List.map_cons, List.map_nil]); first | done | rfl | (simp only [List.length_drop, List.length_take]; rfl)) ?_; (with_reducible refine (ropewaylaw19_netAlive.calls k  true _ A3.out).mono ?_); rintro e w6 ⟨rfl, hb⟩; refine ⟨_, rfl, ?_⟩; have n0_ := Aside0.mk (below_step (by repeat (first | (with_reducible first | exact HB.out | apply below_alloc | apply pw_below_drewN | apply below_drew1) | exact HB.out)) hb); clear HB; have HB := n0_; clear n0_; (try clear hb); (try clear hb2); (try clear hk); (try clear hi)))
      go_ret
      exact ⟨by first | rfl | (simp [errW_none, errW_some] <;> rfl) | (simp [*, errW_none, errW_some] <;> rfl), by repeat (first | (with_reducible first | exact HB.out | apply below_alloc | apply pw_below_drewN | apply below_drew1) | exact HB.out)⟩
    · rw [if_neg c5] at H
      have H200 : Aside0 (l0.length ≤ 200) := ⟨by omega⟩
      have c5b0 : decide (200 < (l0.length : Int)) = false := decide_eq_false c5
      have c5b1 : decide (200 < l0.length) = false := decide_eq_false (by omega)
      clear c5
      replace H := Option.bind_eq_some_iff.mp H
      obtain ⟨t145, A70, H⟩ := H
      replace H : (ropewaylaw19_NetOrder.l0 k l0 a1 l0 (l0.length : Int) 0 t145) = some r := H
      have A7 := Aside0.mk A70
      clear A70
      have H' := Aside0.mk H
      clear H
      go_enter Try.func13, Try.ntmps13
      go_wp2_with (first | ((with_reducible refine gate_callee (f := 26) rfl ?_); refine goesL_ (some 14) rfl rfl Try.func26 (by kernel_rfl) rfl #[] rfl (by (try simp only [List.map_toArray, List.map_cons, List.map_nil]); first | done | rfl | (simp only [List.length_drop, List.length_take]; rfl)) ?_; (with_reducible refine (ropewaylaw19_netAlive.calls k  true _ A3.out).mono ?_); rintro e w8 ⟨rfl, hb⟩; refine ⟨_, rfl, ?_⟩; have n0_ := Aside0.mk (below_step (by repeat (first | (with_reducible first | exact HB.out | apply below_alloc | apply pw_below_drewN | apply below_drew1) | exact HB.out)) hb); clear HB; have HB := n0_; clear n0_; (try clear hb); (try clear hb2); (try clear hk); (try clear hi)) | ((with_reducible refine gate_callee (f := 24) rfl ?_); refine goesL_ (some 19) rfl rfl Try.func24 (by kernel_rfl) rfl #[] rfl (by (try simp only [List.map_toArray, List.map_cons, List.map_nil]); first | done | rfl | (simp only [List.length_drop, List.length_take]; rfl)) ?_; (with_reducible refine (net_New.calls  t145 w _ ?side1 A7.out).mono ?_); (case side1 => repeat (first | (with_reducible first | exact HB.out | apply below_alloc | apply pw_below_drewN | apply below_drew1) | exact HB.out)); rintro e w9 ⟨g146, rfl, hi, hb, hb2⟩; refine ⟨_, rfl, ?_⟩; have n0_ := Aside0.mk (hb); have n1_ := Aside0.mk (hi); clear HB; have HB := n0_; have HI146 := n1_; clear n0_ n1_; (try clear hb); (try clear hb2); (try clear hk); (try clear hi)))
      go_loopg [22] k (fun kq v22 w' => ∃ (x22_1 : Int) (x147000_1 : List S72), v22 = .int .i64 x22_1 ∧ Aside0 (ropewaylaw19_NetOrder.l0 kq l0 a1 l0 (l0.length : Int) x22_1 x147000_1 = some r) ∧ Aside0 (kq ≤ k) ∧ Aside0 (IsS70 w w' g146 x147000_1) ∧ Aside0 (Below w.heap.size w w'))
      case atStart => exact ⟨(0), (t145), (by first | rfl | (simp; done) | (simp [*]; done)), H', ⟨Nat.le_refl _⟩, ⟨by repeat (first | (with_reducible first | exact HI146.out | apply IsS70.alloc | apply IsS70.drewN | apply IsS70.drew) | exact HI146.out)⟩, ⟨by repeat (first | (with_reducible first | exact HB.out | apply below_alloc | apply pw_below_drewN | apply below_drew1 | refine below_set ?_ (IsS70.ge HI146.out)) | exact HB.out)⟩⟩
      case round =>
        clear H'
        try clear c1
        try clear c2
        try clear p2
        try clear c4
        try clear c5
        try clear c5b0
        try clear c5b1
        obtain ⟨x22_1, x147000_1, rfl, HA, HK1, HI146, HB⟩ := hrel
        cases gk with
        | zero => exact absurd HA.out (by simp [ropewaylaw19_NetOrder.l0])
        | succ k1 =>
          have H := HA.out
          clear HA
          simp only [ropewaylaw19_NetOrder.l0] at H
          by_cases c10 : x22_1 < (l0.length : Int)
          · rw [if_pos c10] at H
            have c10b0 : decide (x22_1 < (l0.length : Int)) = true := decide_eq_true c10
            clear c10
            by_cases c11 : 0 ≤ x22_1
            · rw [if_pos c11] at H
              have c11b0 : decide (0 ≤ x22_1) = true := decide_eq_true c11
              clear c11
              by_cases c12 : x22_1 < (l0.length : Int)
              · rw [if_pos c12] at H
                have c12b0 : decide (x22_1 < (l0.length : Int)) = true := decide_eq_true c12
                clear c12
                obtain ⟨y148, hy148⟩ : ∃ y_ : List Int, y_ = (([] : List Int)) := ⟨_, rfl⟩
                replace H : (if y148.length + (rd_L1 l0 x22_1).length < 140737488355328 then ((net_Net_Put.f x147000_1 (y148 ++ (rd_L1 l0 x22_1))).bind fun bt154 => (ropewaylaw19_NetOrder.l0 k1 l0 a1 l0 (l0.length : Int) (wrap64 (x22_1 + 1)) bt154.2)) else (none)) = some r := by first | (rw [hy148]; with_reducible exact H) | (have H2_ := (Option.bind_some _ _).symm.trans H; rw [hy148]; with_reducible exact H2_) | (have H2_ := (Option.bind_some _ _).symm.trans H; with_reducible exact H2_) | with_reducible exact H | (rw [hy148]; exact H) | exact H
                have Ny148 := Aside0.mk hy148
                clear hy148
                by_cases c13 : y148.length + (rd_L1 l0 x22_1).length < 140737488355328
                · rw [if_pos c13] at H
                  have LMc13 := Aside0.mk c13
                  clear c13
                  obtain ⟨y151, hy151⟩ : ∃ y_ : List Int, y_ = (y148 ++ (rd_L1 l0 x22_1)) := ⟨_, rfl⟩
                  replace H : ((net_Net_Put.f x147000_1 y151).bind fun bt154 => (ropewaylaw19_NetOrder.l0 k1 l0 a1 l0 (l0.length : Int) (wrap64 (x22_1 + 1)) bt154.2)) = some r := by first | (rw [hy151]; with_reducible exact H) | (have H2_ := (Option.bind_some _ _).symm.trans H; rw [hy151]; with_reducible exact H2_) | (have H2_ := (Option.bind_some _ _).symm.trans H; with_reducible exact H2_) | with_reducible exact H | (rw [hy151]; exact H) | exact H
                  have Ny151 := Aside0.mk hy151
                  clear hy151
                  replace H := Option.bind_eq_some_iff.mp H
                  obtain ⟨⟨t154, t155⟩, A140, H⟩ := H
                  replace H : (ropewaylaw19_NetOrder.l0 k1 l0 a1 l0 (l0.length : Int) (wrap64 (x22_1 + 1)) t155) = some r := H
                  have A14 := Aside0.mk A140
                  clear A140
                  have H' := Aside0.mk H
                  clear H
                  have p147 : 0 ≤ (x22_1 : Int) := of_decide_eq_true (by first | (with_reducible assumption) | assumption)
                  have q147 : x22_1 < (l0.length : Int) := of_decide_eq_true (by first | (with_reducible assumption) | assumption)
                  obtain ⟨ad147, A147_0, c147_0, e147, hx147_0, hl147_0, hi147_0⟩ := at_L1 HR0.out x22_1 p147 q147
                  cases e147
                  replace hx147_0 := (HB.out.cell (World.block_lt_of_cell? w _ hx147_0)).trans hx147_0
                  have HR147_0 := Aside0.mk hi147_0
                  have HC147_0 := Aside0.mk hl147_0
                  clear hi147_0 hl147_0
                  replace p147 := eq_true p147
                  replace q147 := eq_true q147
                  go_wp2_with (first | ((with_reducible refine gate_dst (N := 27) rfl ?_); (try (refine gate_guard (by rfl) ?_; dsimp only)); refine Kd.R_lit (Kd.int .u8) _ 5 ?hg (N := 27) ?hd (xs := ([] : List Int)) (inner := []) (ok := fun _ => True) (okp := fun _ => True) ?hr ?hp (fun _ hk => hk) trivial (Below.refl _ _) (Nat.le_refl _) (by simp) ?_; (case hd => rfl); (case hg => rfl); (case hr => first | (go_simp; done) | (go_simp; rfl)); (case hp => exact (Reps.none _ _)); intro v149 w15 ho16 hb hg_ hnew_; clear hg_ hnew_; (first | rw [← Ny148.out] at ho16 | (simp only [Int.reduceToNat] at ho16; rw [← Ny148.out] at ho16)); have HP := Aside0.mk (show Pend w _ g146 x147000_1 v149 y148 from ⟨_, (by repeat (first | (with_reducible first | exact HI146.out | apply IsS70.alloc | apply IsS70.drewN | apply IsS70.drew) | exact HI146.out)), (by repeat (first | (with_reducible first | exact HB.out | apply below_alloc | apply pw_below_drewN | apply below_drew1 | refine below_set ?_ (IsS70.ge HI146.out)) | exact HB.out)), hb, ho16⟩); clear HI146 HB; clear hb ho16) | ((with_reducible refine gate_builtin (b := .append) (xs := #[.tmp 27, .tmp 28]) rfl ?_); (try (refine gate_guard (by rfl) ?_; dsimp only)); at_builtin; obtain ⟨W0_, hP1, hP2, hP3, hP4⟩ := HP.out; have hP5 := hP3.size; refine Kd.R_append_rows (Kd.int .u8) (w0 := W0_) W0_.heap.size rfl (.tmp 27) (.tmp 28) 22 5 (.int .u8 0) 1 rfl Try.underlying22 info5 rfl (by decide) (by omega) v149 y148 (rd_L1 l0 x22_1) _ _ _ (fun _ => True) (fun _ => False) rfl rfl ?aO ?aR (fun _ _ h => h) (fun _ h => h.elim) ?aF ?aB ?aS ?aL ?_; (case aR => exact Kd.C_below HR147_0.out (below_step hP2 (by repeat (first | (with_reducible first | exact hP3 | apply below_alloc | apply pw_below_drewN | apply below_drew1) | exact hP3)))); (case aB => exact (by repeat (first | (with_reducible first | exact hP3 | apply below_alloc | apply pw_below_drewN | apply below_drew1) | exact hP3))); (case aF => exact (fun _ _ => trivial)); (case aO => exact (by (with_reducible repeat (first | apply Kd.R_alloc | apply Kd.R_drewN | apply Kd.R_drew)); exact hP4)); (case aS => exact (below_size (by repeat (first | (with_reducible first | exact hP3 | apply below_alloc | apply pw_below_drewN | apply below_drew1) | exact hP3)))); (case aL => have := LMc13.out; omega); intro v152 w17 ho hb hg hat; rw [← Ny151.out] at ho; have HI146 := Aside0.mk (IsS70.below hP1 hb); have HB := Aside0.mk (below_step hP2 hb); have HO153 := Aside0.mk (Kd.R_lower ho (below_size hP2)); clear HP hP1 hP2 hP3 hP4 hP5 ho hb hg hat; obtain ⟨Ao18, co18, eo18⟩ := Kd.R_slice HO153.out; subst eo18) | ((with_reducible refine gate_callee (f := 30) rfl ?_); refine goesL_ (some 30) rfl rfl Try.func30 (by kernel_rfl) rfl #[.pointer (some ⟨g146, 0, none⟩), .slice Ao18 y151.length co18] rfl (by (try simp only [List.map_toArray, List.map_cons, List.map_nil]); first | done | rfl | (simp only [List.length_drop, List.length_take]; rfl)) ?_; (with_reducible refine (net_Net_Put.calls g146 x147000_1 _ _ y151 t154 t155 w _ ?side1 ?side2 ?side3 ?side4 ?side5 A14.out).mono ?_); (case side1 => repeat (first | (with_reducible first | exact HI146.out | apply IsS70.alloc | apply IsS70.drewN | apply IsS70.drew) | exact HI146.out)); (case side2 => repeat (first | (with_reducible first | exact HB.out | apply below_alloc | apply pw_below_drewN | apply below_drew1 | refine below_set ?_ (IsS70.ge HI146.out)) | exact HB.out)); (case side3 => repeat (first | exact (Kd.R_reads' HO153.out).2.2 | (with_reducible refine Kd.C_alloc ?_ _) | (with_reducible refine Kd.C_drewN ?_ _) | (with_reducible refine Kd.C_drew ?_))); (case side4 => exact (Kd.R_reads' HO153.out).2.1); (case side5 => exact far_slice (IsS70.own_ne HI146.out HO153.out (by decide))); rintro e w19 ⟨rfl, hi, hb, hk⟩; refine ⟨_, rfl, ?_⟩; have n0_ := Aside0.mk (Kd.R_mono (R_keepT (IsS70.apart (show IsS70 w _ g146 x147000_1 from by repeat (first | (with_reducible first | exact HI146.out | apply IsS70.alloc | apply IsS70.drewN | apply IsS70.drew) | exact HI146.out)) (by (with_reducible repeat (first | apply Kd.R_alloc | apply Kd.R_drewN | apply Kd.R_drew)); exact HO153.out) (by decide)) hk (fun _ h => h.2)) (fun _ h => h.1)); have n1_ := Aside0.mk (hb); have n2_ := Aside0.mk (hi); clear HO153; clear HB; clear HI146; have HO153 := n0_; have HB := n1_; have HI146 := n2_; clear n0_ n1_ n2_; (try clear hb); (try clear hb2); (try clear hk); (try clear hi)))
                  go_roundg k1
                  case measure => have := HK1.out; omega
                  case rel => exact ⟨(wrap64 (x22_1 + 1)), (t155), (by first | rfl | (simp; done) | (simp [*]; done)), H', ⟨by have := HK1.out; omega⟩, ⟨by repeat (first | (with_reducible first | exact HI146.out | apply IsS70.alloc | apply IsS70.drewN | apply IsS70.drew) | exact HI146.out)⟩, ⟨by repeat (first | (with_reducible first | exact HB.out | apply below_alloc | apply pw_below_drewN | apply below_drew1 | refine below_set ?_ (IsS70.ge HI146.out)) | exact HB.out)⟩⟩
                · rw [if_neg c13] at H
                  exact absurd H (by simp)
              · rw [if_neg c12] at H
                exact absurd H (by simp)
            · rw [if_neg c11] at H
              exact absurd H (by simp)
          · rw [if_neg c10] at H
            have c10b0 : decide (x22_1 < (l0.length : Int)) = false := decide_eq_false c10
            clear c10
            replace H := Option.bind_eq_some_iff.mp H
            obtain ⟨⟨t156, t157⟩, A200, H⟩ := H
            replace H : (if a1 ≥ 0 then (ropewaylaw19_NetOrder.j1 k1 l0 a1 t156 (t156 != (decide (a1 < (l0.length : Int)))) t157) else (ropewaylaw19_NetOrder.j1 k1 l0 a1 t156 (t156 != false) t157)) = some r := H
            have A20 := Aside0.mk A200
            clear A200
            have HC21 := Aside0.mk H
            clear H
            go_upto_region 12 with (first | ((with_reducible refine gate_callee (f := 28) rfl ?_); refine goesL_ (some 34) rfl rfl Try.func28 (by kernel_rfl) rfl #[.pointer (some ⟨g146, 0, none⟩), .int .i64 a1] rfl (by (try simp only [List.map_toArray, List.map_cons, List.map_nil]); first | done | rfl | (simp only [List.length_drop, List.length_take]; rfl)) ?_; (with_reducible refine (net_Net_Double.calls g146 x147000_1 a1 t156 t157 w _ ?side1 ?side2 A20.out).mono ?_); (case side1 => repeat (first | (with_reducible first | exact HI146.out | apply IsS70.alloc | apply IsS70.drewN | apply IsS70.drew) | exact HI146.out)); (case side2 => repeat (first | (with_reducible first | exact HB.out | apply below_alloc | apply pw_below_drewN | apply below_drew1 | refine below_set ?_ (IsS70.ge HI146.out)) | exact HB.out)); rintro e w22 ⟨rfl, hi, hb, hk⟩; refine ⟨_, rfl, ?_⟩; have n0_ := Aside0.mk (hb); have n1_ := Aside0.mk (hi); clear HB; clear HI146; have HB := n0_; have HI146 := n1_; clear n0_ n1_; (try clear hb); (try clear hb2); (try clear hk); (try clear hi)))
            (try simp only [Act.put, List.setIfInBounds_toArray, List.set_cons_zero, List.set_cons_succ])
            go_cut [44] (fun v44 wc => ∃ (kq : Nat) (x44_20 : Bool), v44 = .bool x44_20 ∧ Aside0 (ropewaylaw19_NetOrder.j1 kq l0 a1 t156 x44_20 t157 = some r) ∧ Aside0 (kq ≤ k1) ∧ Aside0 (IsS70 w wc g146 t157) ∧ Aside0 (Below w.heap.size w wc))
            case first =>
              have H := HC21.out
              clear HC21
              by_cases c23 : a1 ≥ 0
              · rw [if_pos c23] at H
                have c23b0 : decide (0 ≤ a1) = true := decide_eq_true c23
                clear c23
                (first | rw [c23b0] | (simp only [i64_w, i32_w]; rw [c23b0]) | skip)
                have H' := Aside0.mk H
                clear H
                go_wp2
                go_meet
                case rel => exact ⟨_, ((t156 != (decide (a1 < (l0.length : Int))))), (by first | rfl | (simp; done) | (simp [*]; done)), H', ⟨by have := HK1.out; first | omega | exact Nat.le_refl _⟩, ⟨by repeat (first | (with_reducible first | exact HI146.out | apply IsS70.alloc | apply IsS70.drewN | apply IsS70.drew) | exact HI146.out)⟩, ⟨by repeat (first | (with_reducible first | exact HB.out | apply below_alloc | apply pw_below_drewN | apply below_drew1 | refine below_set ?_ (IsS70.ge HI146.out)) | exact HB.out)⟩⟩
              · rw [if_neg c23] at H
                have c23b0 : decide (0 ≤ a1) = false := decide_eq_false c23
                clear c23
                (first | rw [c23b0] | (simp only [i64_w, i32_w]; rw [c23b0]) | skip)
                have H' := Aside0.mk H
                clear H
                go_wp2
                go_meet
                case rel => exact ⟨_, ((t156 != false)), (by first | rfl | (simp; done) | (simp [*]; done)), H', ⟨by have := HK1.out; first | omega | exact Nat.le_refl _⟩, ⟨by repeat (first | (with_reducible first | exact HI146.out | apply IsS70.alloc | apply IsS70.drewN | apply IsS70.drew) | exact HI146.out)⟩, ⟨by repeat (first | (with_reducible first | exact HB.out | apply below_alloc | apply pw_below_drewN | apply below_drew1 | refine below_set ?_ (IsS70.ge HI146.out)) | exact HB.out)⟩⟩
            case rest =>
              clear HC21
              try clear c1
              try clear p1
              try clear q1
              try clear hx1
              try clear c2
              try clear p2
              try clear c3
              try clear c4
              try clear c5
              try clear c5b0
              try clear c5b1
              try clear p6
              try clear c10
              try clear c10b0
              try clear c11
              try clear c11b0
              try clear c12
              try clear c12b0
              try clear c13
              try clear c14
              try clear p14
              try clear q14
              try clear hx14
              try clear c23
              try clear c23b0
              try clear hx147_0
              try clear p147
              try clear p2
              try clear q147
              obtain ⟨kq, x44_20, rfl, HA, HJ20, HI146, HB⟩ := hcut
              cases kq with
              | zero => exact absurd HA.out (by simp [ropewaylaw19_NetOrder.j1])
              | succ kj20 =>
                have H := HA.out
                clear HA
                simp only [ropewaylaw19_NetOrder.j1] at H
                by_cases c24 : x44_20 = true
                · subst c24
                  have H1 : (some false) = some r := by rw [if_pos rfl] at H; exact H
                  clear H
                  have H := H1
                  clear H1
                  obtain rfl := Option.some.inj H
                  go_wp2
                  go_ret
                  exact ⟨by first | rfl | (simp [errW_none, errW_some] <;> rfl) | (simp [*, errW_none, errW_some] <;> rfl), by repeat (first | (with_reducible first | exact HB.out | apply below_alloc | apply pw_below_drewN | apply below_drew1 | refine below_set ?_ (IsS70.ge HI146.out)) | exact HB.out)⟩
                · replace c24 := Bool.eq_false_iff.mpr c24
                  subst c24
                  have H1 : (if t156 = true then (if 0 ≤ a1 then (if a1 < (l0.length : Int) then (ropewaylaw19_NetOrder.j2 kj20 (l0 ++ [rd_L1 l0 a1]) t157) else (none)) else (none)) else (ropewaylaw19_NetOrder.j2 kj20 l0 t157)) = some r := by rw [if_neg (show ¬ (false = true) by decide)] at H; exact H
                  clear H
                  have H := H1
                  clear H1
                  obtain ⟨y158, hy158⟩ : ∃ y_ : List (List Int), y_ = (([] : List (List Int))) := ⟨_, rfl⟩
                  replace H : (if t156 = true then (if 0 ≤ a1 then (if a1 < (l0.length : Int) then (ropewaylaw19_NetOrder.j2 kj20 (l0 ++ [rd_L1 l0 a1]) t157) else (none)) else (none)) else (ropewaylaw19_NetOrder.j2 kj20 l0 t157)) = some r := by first | (rw [hy158]; with_reducible exact H) | (have H2_ := (Option.bind_some _ _).symm.trans H; rw [hy158]; with_reducible exact H2_) | (have H2_ := (Option.bind_some _ _).symm.trans H; with_reducible exact H2_) | with_reducible exact H | (rw [hy158]; exact H) | exact H
                  have Ny158 := Aside0.mk hy158
                  clear hy158
                  have HC25 := Aside0.mk H
                  clear H
                  go_upto_if 48 with (first | ((with_reducible refine gate_dst (N := 45) rfl ?_); (try (refine gate_guard (by rfl) ?_; dsimp only)); refine Kd.R_lit (frozen w) _ 22 ?hg (N := 45) ?hd (xs := ([] : List (List Int))) (inner := []) (ok := fun _ => True) (okp := fun _ => True) ?hr ?hp (fun _ hk => hk) trivial (Below.refl _ _) (Nat.le_refl _) (by simp) ?_; (case hd => rfl); (case hg => rfl); (case hr => first | (go_simp; done) | (go_simp; rfl)); (case hp => exact (Reps.none _ _)); intro v159 w26 ho27 hb hg_ hnew_; clear hg_ hnew_; (first | rw [← Ny158.out] at ho27 | (simp only [Int.reduceToNat] at ho27; rw [← Ny158.out] at ho27)); have n0_ := Aside0.mk (Kd.R_lower ho27 (below_size (by repeat (first | (with_reducible first | exact HB.out | apply below_alloc | apply pw_below_drewN | apply below_drew1 | refine below_set ?_ (IsS70.ge HI146.out)) | exact HB.out)))); have n1_ := Aside0.mk (IsS70.below (by repeat (first | (with_reducible first | exact HI146.out | apply IsS70.alloc | apply IsS70.drewN | apply IsS70.drew) | exact HI146.out)) hb); have n2_ := Aside0.mk (below_step (by repeat (first | (with_reducible first | exact HB.out | apply below_alloc | apply pw_below_drewN | apply below_drew1 | refine below_set ?_ (IsS70.ge HI146.out)) | exact HB.out)) hb); clear HI146; clear HB; have HO160 := n0_; have HI146 := n1_; have HB := n2_; clear n0_ n1_ n2_; clear hb ho27) | ((with_reducible refine gate_builtin (b := .append) (xs := #[.tmp 45, .tmp 46]) rfl ?_); (try (refine gate_guard (by rfl) ?_; dsimp only)); at_builtin; refine Kd.R_append_rows (frozen w) (w0 := w) w.heap.size rfl (.tmp 45) (.tmp 46) 34 22 (.slice none 0 0) 24 rfl Try.underlying34 info22 rfl Nat.one_pos (by omega) v159 y158 l0 _ _ _ (fun _ => True) (fun _ => False) rfl rfl ?aO ?aR (fun _ _ h => h) (fun _ h => h.elim) ?aF ?aB ?aS ?aL ?_; (case aR => exact C_frozen HR0.out (by repeat (first | (with_reducible first | exact HB.out | apply below_alloc | apply pw_below_drewN | apply below_drew1 | refine below_set ?_ (IsS70.ge HI146.out)) | exact HB.out))); (case aB => exact (by repeat (first | (with_reducible first | exact HB.out | apply below_alloc | apply pw_below_drewN | apply below_drew1 | refine below_set ?_ (IsS70.ge HI146.out)) | exact HB.out))); (case aF => exact (fun _ _ => trivial)); (case aO => exact (by (with_reducible repeat (first | apply Kd.R_alloc | apply Kd.R_drewN | apply Kd.R_drew)); exact HO160.out)); (case aS => exact (below_size (by repeat (first | (with_reducible first | exact HB.out | apply below_alloc | apply pw_below_drewN | apply below_drew1 | refine below_set ?_ (IsS70.ge HI146.out)) | exact HB.out)))); (case aL => have := Ny158.out; have := H200.out; rw [Ny158.out]; simp only [List.length_nil]; omega); intro v9_ w26b ho hb hg hat; rw [Ny158.out, List.nil_append] at ho; have n0_ := Aside0.mk (IsS70.over (by repeat (first | (with_reducible first | exact HI146.out | apply IsS70.alloc | apply IsS70.drewN | apply IsS70.drew) | exact HI146.out)) (by (with_reducible repeat (first | apply Kd.R_alloc | apply Kd.R_drewN | apply Kd.R_drew)); exact HO160.out) (by decide) (by decide) hg); clear HI146 HB HO160; have HI146 := n0_; have HB := Aside0.mk hb; have HO9 := Aside0.mk ho; clear n0_ ho hb hg hat))
                  (try simp only [Act.put, List.setIfInBounds_toArray, List.set_cons_zero, List.set_cons_succ])
                  go_cut [9] (fun v9 wc => ∃ (kq : Nat) (x9_24 : List (List Int)), Aside0 (Kd.R (frozen w) 22 wc w.heap.size (fun _ => True) v9 x9_24) ∧ Aside0 (ropewaylaw19_NetOrder.j2 kq x9_24 t157 = some r) ∧ Aside0 (kq ≤ kj20) ∧ Aside0 (IsS70 w wc g146 t157) ∧ Aside0 (Below w.heap.size w wc))
                  case first =>
                    have H := HC25.out
                    clear HC25
                    by_cases c28 : t156 = true
                    · subst c28
                      have H1 : (if 0 ≤ a1 then (if a1 < (l0.length : Int) then (ropewaylaw19_NetOrder.j2 kj20 (l0 ++ [rd_L1 l0 a1]) t157) else (none)) else (none)) = some r := by rw [if_pos rfl] at H; exact H
                      clear H
                      have H := H1
                      clear H1
                      by_cases c29 : 0 ≤ a1
                      · rw [if_pos c29] at H
                        have c29b0 : decide (0 ≤ a1) = true := decide_eq_true c29
                        clear c29
                        (first | rw [c29b0] | (simp only [i64_w, i32_w]; rw [c29b0]) | skip)
                        by_cases c30 : a1 < (l0.length : Int)
                        · rw [if_pos c30] at H
                          have c30b0 : decide (a1 < (l0.length : Int)) = true := decide_eq_true c30
                          clear c30
                          have H' := Aside0.mk H
                          clear H
                          have p161 : 0 ≤ (a1 : Int) := of_decide_eq_true (by first | (with_reducible assumption) | assumption)
                          have q161 : a1 < (l0.length : Int) := of_decide_eq_true (by first | (with_reducible assumption) | assumption)
                          obtain ⟨ad161, A161_0, c161_0, e161, hx161_0, hl161_0, hi161_0⟩ := at_L1 HR0.out a1 p161 q161
                          cases e161
                          replace hx161_0 := (HB.out.cell (World.block_lt_of_cell? w _ hx161_0)).trans hx161_0
                          have HR161_0 := Aside0.mk hi161_0
                          have HC161_0 := Aside0.mk hl161_0
                          clear hi161_0 hl161_0
                          replace p161 := eq_true p161
                          replace q161 := eq_true q161
                          go_wp2_with (first | ((with_reducible refine gate_dst (N := 54) rfl ?_); (try (refine gate_guard (by rfl) ?_; dsimp only)); refine Kd.R_lit (frozen w) _ 22 ?hg (N := 54) ?hd (xs := [rd_L1 l0 a1]) (inner := [.slice A161_0 (rd_L1 l0 a1).length c161_0]) (ok := fun _ => True) (okp := fun _ => True) ?hr ?hp (fun _ hk => hk) trivial (Below.refl _ _) (Nat.le_refl _) (by simp) ?_; (case hd => rfl); (case hg => rfl); (case hr => first | (go_simp; done) | (go_simp; rfl)); (case hp => exact (frozen_one HC161_0.out HR161_0.out _ _ _)); intro v54 w54 ho hb hg_ hnew_; clear hg_ hnew_; have n0_ := Aside0.mk (IsS70.below (by repeat (first | (with_reducible first | exact HI146.out | apply IsS70.alloc | apply IsS70.drewN | apply IsS70.drew) | exact HI146.out)) hb); have n1_ := Aside0.mk (below_step (by repeat (first | (with_reducible first | exact HB.out | apply below_alloc | apply pw_below_drewN | apply below_drew1 | refine below_set ?_ (IsS70.ge HI146.out)) | exact HB.out)) hb); have n9_ := Aside0.mk (Kd.R_below (by (with_reducible repeat (first | apply Kd.R_alloc | apply Kd.R_drewN | apply Kd.R_drew)); exact HO9.out) hb); have n8_ := Aside0.mk (Kd.R_lower ho (below_size (by repeat (first | (with_reducible first | exact HB.out | apply below_alloc | apply pw_below_drewN | apply below_drew1 | refine below_set ?_ (IsS70.ge HI146.out)) | exact HB.out)))); clear HI146 HB HO9; have HI146 := n0_; have HO9 := n9_; have HB := n1_; have HO54 := n8_; clear n0_ n1_ n8_ n9_ ho hb; obtain ⟨A54, c54, e54⟩ := Kd.R_slice HO54.out; subst e54) | ((with_reducible refine gate_builtin (b := .append) (xs := #[.tmp 49, .tmp 54]) rfl ?_); (try (refine gate_guard (by rfl) ?_; dsimp only)); at_builtin; refine Kd.R_append_rows (frozen w) (w0 := w) w.heap.size rfl (.tmp 49) (.tmp 54) 34 22 (.slice none 0 0) 24 rfl Try.underlying34 info22 rfl Nat.one_pos (by omega) v9_ l0 [rd_L1 l0 a1] _ _ _ (fun _ => True) (fun _ => False) rfl rfl ?aO ?aR (fun _ _ h => h) (fun _ h => h.elim) ?aF ?aB ?aS ?aL ?_; (case aR => exact (Kd.R_reads' (by (with_reducible repeat (first | apply Kd.R_alloc | apply Kd.R_drewN | apply Kd.R_drew)); exact HO54.out)).2.2); (case aB => exact (by repeat (first | (with_reducible first | exact HB.out | apply below_alloc | apply pw_below_drewN | apply below_drew1 | refine below_set ?_ (IsS70.ge HI146.out)) | exact HB.out))); (case aF => exact (fun _ _ => trivial)); (case aO => exact (by (with_reducible repeat (first | apply Kd.R_alloc | apply Kd.R_drewN | apply Kd.R_drew)); exact HO9.out)); (case aS => exact (below_size (by repeat (first | (with_reducible first | exact HB.out | apply below_alloc | apply pw_below_drewN | apply below_drew1 | refine below_set ?_ (IsS70.ge HI146.out)) | exact HB.out)))); (case aL => have := H200.out; simp only [List.length_singleton]; omega); intro v55 w55 ho hb hg hat; have n0_ := Aside0.mk (IsS70.over (by repeat (first | (with_reducible first | exact HI146.out | apply IsS70.alloc | apply IsS70.drewN | apply IsS70.drew) | exact HI146.out)) (by (with_reducible repeat (first | apply Kd.R_alloc | apply Kd.R_drewN | apply Kd.R_drew)); exact HO9.out) (by decide) (by decide) hg); clear HI146 HB HO9; have HI146 := n0_; have HB := Aside0.mk hb; have HO9 := Aside0.mk ho; clear n0_ ho hb hg hat))
                          go_meet
                          case rel => exact ⟨_, (l0 ++ [rd_L1 l0 a1]), ⟨(by (with_reducible repeat (first | apply Kd.R_alloc | apply Kd.R_drewN | apply Kd.R_drew)); exact HO9.out)⟩, H', ⟨by have := HK1.out; have := HJ20.out; first | omega | exact Nat.le_refl _⟩, ⟨by repeat (first | (with_reducible first | exact HI146.out | apply IsS70.alloc | apply IsS70.drewN | apply IsS70.drew) | exact HI146.out)⟩, ⟨by repeat (first | (with_reducible first | exact HB.out | apply below_alloc | apply pw_below_drewN | apply below_drew1 | refine below_set ?_ (IsS70.ge HI146.out)) | exact HB.out)⟩⟩
                        · rw [if_neg c30] at H
                          exact absurd H (by simp)
                      · rw [if_neg c29] at H
                        exact absurd H (by simp)
                    · replace c28 := Bool.eq_false_iff.mpr c28
                      subst c28
                      have H1 : (ropewaylaw19_NetOrder.j2 kj20 l0 t157) = some r := by rw [if_neg (show ¬ (false = true) by decide)] at H; exact H
                      clear H
                      have H := H1
                      clear H1
                      have H' := Aside0.mk H
                      clear H
                      go_wp2
                      go_meet
                      case rel => exact ⟨_, (l0), ⟨(by (with_reducible repeat (first | apply Kd.R_alloc | apply Kd.R_drewN | apply Kd.R_drew)); exact HO9.out)⟩, H', ⟨by have := HK1.out; have := HJ20.out; first | omega | exact Nat.le_refl _⟩, ⟨by repeat (first | (with_reducible first | exact HI146.out | apply IsS70.alloc | apply IsS70.drewN | apply IsS70.drew) | exact HI146.out)⟩, ⟨by repeat (first | (with_reducible first | exact HB.out | apply below_alloc | apply pw_below_drewN | apply below_drew1 | refine below_set ?_ (IsS70.ge HI146.out)) | exact HB.out)⟩⟩
                  case rest =>
                    clear HC25
                    try clear c1
                    try clear p1
                    try clear q1
                    try clear hx1
                    try clear c2
                    try clear p2
                    try clear c3
                    try clear c4
                    try clear c5
                    try clear c5b0
                    try clear c5b1
                    try clear p6
                    try clear c10
                    try clear c10b0
                    try clear c11
                    try clear c11b0
                    try clear c12
                    try clear c12b0
                    try clear c13
                    try clear c14
                    try clear p14
                    try clear q14
                    try clear hx14
                    try clear c16
                    try clear p16
                    try clear q16
                    try clear hx16
                    try clear c23
                    try clear c23b0
                    try clear c24
                    try clear c26
                    try clear c28
                    try clear c29
                    try clear c29b0
                    try clear c30
                    try clear c30b0
                    try clear hx147_0
                    try clear hx161_0
                    try clear p1
                    try clear p14
                    try clear p147
                    try clear p161
                    try clear p2
                    try clear p6
                    try clear q1
                    try clear q14
                    try clear q147
                    try clear q161
                    obtain ⟨kq, x9_24, HO9, HA, HJ24, HI146, HB⟩ := hcut
                    obtain ⟨A9, c9, e9⟩ := Kd.R_slice HO9.out
                    subst e9
                    cases kq with
                    | zero => exact absurd HA.out (by simp [ropewaylaw19_NetOrder.j2])
                    | succ kj24 =>
                      have H := HA.out
                      clear HA
                      simp only [ropewaylaw19_NetOrder.j2] at H
                      have H' := Aside0.mk H
                      clear H
                      go_wp2
                      go_loopg [58] kj24 (fun kq v58 w' => ∃ (x58_4 : Int) (x147000_4 : List S72), v58 = .int .i64 x58_4 ∧ Aside0 (Kd.R (frozen w) 22 w' w.heap.size (fun _ => True) (.slice A9 x9_24.length c9) x9_24) ∧ Aside0 (ropewaylaw19_NetOrder.l1 kq x9_24 (x9_24.length : Int) x58_4 x147000_4 = some r) ∧ Aside0 (kq ≤ kj24) ∧ Aside0 (IsS70 w w' g146 x147000_4) ∧ Aside0 (Below w.heap.size w w'))
                      case atStart => exact ⟨(0), (t157), (by first | rfl | (simp; done) | (simp [*]; done)), ⟨(by (with_reducible repeat (first | apply Kd.R_alloc | apply Kd.R_drewN | apply Kd.R_drew)); exact HO9.out)⟩, H', ⟨Nat.le_refl _⟩, ⟨by repeat (first | (with_reducible first | exact HI146.out | apply IsS70.alloc | apply IsS70.drewN | apply IsS70.drew) | exact HI146.out)⟩, ⟨by repeat (first | (with_reducible first | exact HB.out | apply below_alloc | apply pw_below_drewN | apply below_drew1 | refine below_set ?_ (IsS70.ge HI146.out)) | exact HB.out)⟩⟩
                      case round =>
                        clear H'
                        try clear c1
                        try clear p1
                        try clear q1
                        try clear hx1
                        try clear c2
                        try clear p2
                        try clear c3
                        try clear c4
                        try clear c5
                        try clear c5b0
                        try clear c5b1
                        try clear p6
                        try clear c10
                        try clear c10b0
                        try clear c11
                        try clear c11b0
                        try clear c12
                        try clear c12b0
                        try clear c13
                        try clear c14
                        try clear p14
                        try clear q14
                        try clear hx14
                        try clear c16
                        try clear p16
                        try clear q16
                        try clear hx16
                        try clear c23
                        try clear c23b0
                        try clear c24
                        try clear c26
                        try clear c28
                        try clear c29
                        try clear c29b0
                        try clear c30
                        try clear c30b0
                        try clear hx147_0
                        try clear hx161_0
                        try clear p1
                        try clear p14
                        try clear p147
                        try clear p16
                        try clear p161
                        try clear p2
                        try clear p6
                        try clear q1
                        try clear q14
                        try clear q147
                        try clear q16
                        try clear q161
                        clear HO9
                        obtain ⟨x58_4, x147000_4, rfl, HO9, HA, HK4, HI146, HB⟩ := hrel
                        cases gk with
                        | zero => exact absurd HA.out (by simp [ropewaylaw19_NetOrder.l1])
                        | succ k4 =>
                          have H := HA.out
                          clear HA
                          simp only [ropewaylaw19_NetOrder.l1] at H
                          by_cases c31 : x58_4 < (x9_24.length : Int)
                          · rw [if_pos c31] at H
                            have c31b0 : decide (x58_4 < (x9_24.length : Int)) = true := decide_eq_true c31
                            clear c31
                            by_cases c32 : 0 ≤ x58_4
                            · rw [if_pos c32] at H
                              have c32b0 : decide (0 ≤ x58_4) = true := decide_eq_true c32
                              clear c32
                              by_cases c33 : x58_4 < (x9_24.length : Int)
                              · rw [if_pos c33] at H
                                have c33b0 : decide (x58_4 < (x9_24.length : Int)) = true := decide_eq_true c33
                                clear c33
                                replace H := Option.bind_eq_some_iff.mp H
                                obtain ⟨⟨t163, t166, t167⟩, A340, H⟩ := H
                                replace H : (if t166 = true then (if (strOfNums t163).toList = (strOfNums (rd_L1 x9_24 x58_4)).toList then (ropewaylaw19_NetOrder.l1 k4 x9_24 (x9_24.length : Int) (wrap64 (x58_4 + 1)) t167) else (some false)) else (some false)) = some r := H
                                have A34 := Aside0.mk A340
                                clear A340
                                by_cases c35 : t166 = true
                                · subst c35
                                  have H1 : (if (strOfNums t163).toList = (strOfNums (rd_L1 x9_24 x58_4)).toList then (ropewaylaw19_NetOrder.l1 k4 x9_24 (x9_24.length : Int) (wrap64 (x58_4 + 1)) t167) else (some false)) = some r := by rw [if_pos rfl] at H; exact H
                                  clear H
                                  have H := H1
                                  clear H1
                                  by_cases c36 : (strOfNums t163).toList = (strOfNums (rd_L1 x9_24 x58_4)).toList
                                  · rw [if_pos c36] at H
                                    have c36b0 : ((strOfNums t163).toList == (strOfNums (rd_L1 x9_24 x58_4)).toList) = true := beq_iff_eq.mpr c36
                                    have c36b1 : ((strOfNums t163).toList != (strOfNums (rd_L1 x9_24 x58_4)).toList) = false := bne_eq_false_iff_eq.mpr c36
                                    clear c36
                                    have H' := Aside0.mk H
                                    clear H
                                    have p162 : 0 ≤ (x58_4 : Int) := of_decide_eq_true (by first | (with_reducible assumption) | assumption)
                                    have q162 : x58_4 < (x9_24.length : Int) := of_decide_eq_true (by first | (with_reducible assumption) | assumption)
                                    obtain ⟨ad162, A162_0, c162_0, e162, hx162_0, hl162_0, hi162_0⟩ := at_fz (Kd.R_reads' HO9.out).2.2 x58_4 p162 q162
                                    subst e162
                                    have HR162_0 := Aside0.mk hi162_0
                                    have HC162_0 := Aside0.mk hl162_0
                                    clear hi162_0 hl162_0
                                    replace p162 := eq_true p162
                                    replace q162 := eq_true q162
                                    go_wp2_with (first | ((with_reducible refine gate_callee (f := 32) rfl ?_); refine goesL_ (some 64) rfl rfl Try.func32 (by kernel_rfl) rfl #[.pointer (some ⟨g146, 0, none⟩), .int .i64 0] rfl (by (try simp only [List.map_toArray, List.map_cons, List.map_nil]); first | done | rfl | (simp only [List.length_drop, List.length_take]; rfl)) ?_; (with_reducible refine (net_Net_Take.calls g146 x147000_4 0 t163 true t167 w _ ?side1 ?side2 A34.out).mono ?_); (case side1 => repeat (first | (with_reducible first | exact HI146.out | apply IsS70.alloc | apply IsS70.drewN | apply IsS70.drew) | exact HI146.out)); (case side2 => repeat (first | (with_reducible first | exact HB.out | apply below_alloc | apply pw_below_drewN | apply below_drew1 | refine below_set ?_ (IsS70.ge HI146.out)) | exact HB.out)); rintro e w37 ⟨v164, rfl, ho0, hi, hb, hk⟩; refine ⟨_, rfl, ?_⟩; have n9_ := Aside0.mk (Kd.R_mono (R_keepT (IsS70.apart (show IsS70 w _ g146 x147000_4 from by repeat (first | (with_reducible first | exact HI146.out | apply IsS70.alloc | apply IsS70.drewN | apply IsS70.drew) | exact HI146.out)) (by (with_reducible repeat (first | apply Kd.R_alloc | apply Kd.R_drewN | apply Kd.R_drew)); exact HO9.out) (fun q hq => by rw [List.mem_singleton.1 hq]; decide)) hk (fun _ h => h.2) (fun q hq => by rw [List.mem_singleton.1 hq]; decide)) (fun _ h => h.1)); clear HO9; have HO9 := n9_; clear n9_; have n0_ := Aside0.mk (Kd.R_lower ho0 (below_size (by repeat (first | (with_reducible first | exact HB.out | apply below_alloc | apply pw_below_drewN | apply below_drew1 | refine below_set ?_ (IsS70.ge HI146.out)) | exact HB.out)))); have n1_ := Aside0.mk (hb); have n2_ := Aside0.mk (hi); clear HB; clear HI146; have HO165 := n0_; have HB := n1_; have HI146 := n2_; clear n0_ n1_ n2_; (try clear hb); (try clear hb2); (try clear hk); (try clear hi); (try clear ho0); have hcv38 := own_string (P := Try.prog) Try.underlying22 Try.underlying5 Try.underlying9 (Kd.own_of_R HO165.out); have hcv39 := Kd.C_string (P := Try.prog) (A := A162_0) (c := c162_0) Try.underlying22 Try.underlying5 Try.underlying9 (Kd.C_below HR162_0.out HB.out)))
                                    go_roundg k4
                                    case measure => have := HK1.out; have := HJ20.out; have := HJ24.out; have := HK4.out; omega
                                    case rel => exact ⟨(wrap64 (x58_4 + 1)), (t167), (by first | rfl | (simp; done) | (simp [*]; done)), ⟨(by (with_reducible repeat (first | apply Kd.R_alloc | apply Kd.R_drewN | apply Kd.R_drew)); exact HO9.out)⟩, H', ⟨by have := HK1.out; have := HJ20.out; have := HJ24.out; have := HK4.out; omega⟩, ⟨by repeat (first | (with_reducible first | exact HI146.out | apply IsS70.alloc | apply IsS70.drewN | apply IsS70.drew) | exact HI146.out)⟩, ⟨by repeat (first | (with_reducible first | exact HB.out | apply below_alloc | apply pw_below_drewN | apply below_drew1 | refine below_set ?_ (IsS70.ge HI146.out)) | exact HB.out)⟩⟩
                                  · rw [if_neg c36] at H
                                    have c36b0 : ((strOfNums t163).toList == (strOfNums (rd_L1 x9_24 x58_4)).toList) = false := beq_eq_false_iff_ne.mpr c36
                                    have c36b1 : ((strOfNums t163).toList != (strOfNums (rd_L1 x9_24 x58_4)).toList) = true := bne_iff_ne.mpr c36
                                    obtain rfl := Option.some.inj H
                                    have p162 : 0 ≤ (x58_4 : Int) := of_decide_eq_true (by first | (with_reducible assumption) | assumption)
                                    have q162 : x58_4 < (x9_24.length : Int) := of_decide_eq_true (by first | (with_reducible assumption) | assumption)
                                    obtain ⟨ad162, A162_0, c162_0, e162, hx162_0, hl162_0, hi162_0⟩ := at_fz (Kd.R_reads' HO9.out).2.2 x58_4 p162 q162
                                    subst e162
                                    have HR162_0 := Aside0.mk hi162_0
                                    have HC162_0 := Aside0.mk hl162_0
                                    clear hi162_0 hl162_0
                                    replace p162 := eq_true p162
                                    replace q162 := eq_true q162
                                    go_wp2_with (first | ((with_reducible refine gate_callee (f := 32) rfl ?_); refine goesL_ (some 64) rfl rfl Try.func32 (by kernel_rfl) rfl #[.pointer (some ⟨g146, 0, none⟩), .int .i64 0] rfl (by (try simp only [List.map_toArray, List.map_cons, List.map_nil]); first | done | rfl | (simp only [List.length_drop, List.length_take]; rfl)) ?_; (with_reducible refine (net_Net_Take.calls g146 x147000_4 0 t163 true t167 w _ ?side1 ?side2 A34.out).mono ?_); (case side1 => repeat (first | (with_reducible first | exact HI146.out | apply IsS70.alloc | apply IsS70.drewN | apply IsS70.drew) | exact HI146.out)); (case side2 => repeat (first | (with_reducible first | exact HB.out | apply below_alloc | apply pw_below_drewN | apply below_drew1 | refine below_set ?_ (IsS70.ge HI146.out)) | exact HB.out)); rintro e w40 ⟨v164, rfl, ho0, hi, hb, hk⟩; refine ⟨_, rfl, ?_⟩; have n9_ := Aside0.mk (Kd.R_mono (R_keepT (IsS70.apart (show IsS70 w _ g146 x147000_4 from by repeat (first | (with_reducible first | exact HI146.out | apply IsS70.alloc | apply IsS70.drewN | apply IsS70.drew) | exact HI146.out)) (by (with_reducible repeat (first | apply Kd.R_alloc | apply Kd.R_drewN | apply Kd.R_drew)); exact HO9.out) (fun q hq => by rw [List.mem_singleton.1 hq]; decide)) hk (fun _ h => h.2) (fun q hq => by rw [List.mem_singleton.1 hq]; decide)) (fun _ h => h.1)); clear HO9; have HO9 := n9_; clear n9_; have n0_ := Aside0.mk (Kd.R_lower ho0 (below_size (by repeat (first | (with_reducible first | exact HB.out | apply below_alloc | apply pw_below_drewN | apply below_drew1 | refine below_set ?_ (IsS70.ge HI146.out)) | exact HB.out)))); have n1_ := Aside0.mk (hb); have n2_ := Aside0.mk (hi); clear HB; clear HI146; have HO165 := n0_; have HB := n1_; have HI146 := n2_; clear n0_ n1_ n2_; (try clear hb); (try clear hb2); (try clear hk); (try clear hi); (try clear ho0); have hcv41 := own_string (P := Try.prog) Try.underlying22 Try.underlying5 Try.underlying9 (Kd.own_of_R HO165.out); have hcv42 := Kd.C_string (P := Try.prog) (A := A162_0) (c := c162_0) Try.underlying22 Try.underlying5 Try.underlying9 (Kd.C_below HR162_0.out HB.out)))
                                    go_ret
                                    exact ⟨by first | rfl | (simp [errW_none, errW_some] <;> rfl) | (simp [*, errW_none, errW_some] <;> rfl), by repeat (first | (with_reducible first | exact HB.out | apply below_alloc | apply pw_below_drewN | apply below_drew1 | refine below_set ?_ (IsS70.ge HI146.out)) | exact HB.out)⟩
                                · replace c35 := Bool.eq_false_iff.mpr c35
                                  subst c35
                                  have H1 : (some false) = some r := by rw [if_neg (show ¬ (false = true) by decide)] at H; exact H
                                  clear H
                                  have H := H1
                                  clear H1
                                  obtain rfl := Option.some.inj H
                                  have p162 : 0 ≤ (x58_4 : Int) := of_decide_eq_true (by first | (with_reducible assumption) | assumption)
                                  have q162 : x58_4 < (x9_24.length : Int) := of_decide_eq_true (by first | (with_reducible assumption) | assumption)
                                  obtain ⟨ad162, A162_0, c162_0, e162, hx162_0, hl162_0, hi162_0⟩ := at_fz (Kd.R_reads' HO9.out).2.2 x58_4 p162 q162
                                  subst e162
                                  have HR162_0 := Aside0.mk hi162_0
                                  have HC162_0 := Aside0.mk hl162_0
                                  clear hi162_0 hl162_0
                                  replace p162 := eq_true p162
                                  replace q162 := eq_true q162
                                  go_wp2_with (first | ((with_reducible refine gate_callee (f := 32) rfl ?_); refine goesL_ (some 64) rfl rfl Try.func32 (by kernel_rfl) rfl #[.pointer (some ⟨g146, 0, none⟩), .int .i64 0] rfl (by (try simp only [List.map_toArray, List.map_cons, List.map_nil]); first | done | rfl | (simp only [List.length_drop, List.length_take]; rfl)) ?_; (with_reducible refine (net_Net_Take.calls g146 x147000_4 0 t163 false t167 w _ ?side1 ?side2 A34.out).mono ?_); (case side1 => repeat (first | (with_reducible first | exact HI146.out | apply IsS70.alloc | apply IsS70.drewN | apply IsS70.drew) | exact HI146.out)); (case side2 => repeat (first | (with_reducible first | exact HB.out | apply below_alloc | apply pw_below_drewN | apply below_drew1 | refine below_set ?_ (IsS70.ge HI146.out)) | exact HB.out)); rintro e w43 ⟨v164, rfl, ho0, hi, hb, hk⟩; refine ⟨_, rfl, ?_⟩; have n9_ := Aside0.mk (Kd.R_mono (R_keepT (IsS70.apart (show IsS70 w _ g146 x147000_4 from by repeat (first | (with_reducible first | exact HI146.out | apply IsS70.alloc | apply IsS70.drewN | apply IsS70.drew) | exact HI146.out)) (by (with_reducible repeat (first | apply Kd.R_alloc | apply Kd.R_drewN | apply Kd.R_drew)); exact HO9.out) (fun q hq => by rw [List.mem_singleton.1 hq]; decide)) hk (fun _ h => h.2) (fun q hq => by rw [List.mem_singleton.1 hq]; decide)) (fun _ h => h.1)); clear HO9; have HO9 := n9_; clear n9_; have n0_ := Aside0.mk (Kd.R_lower ho0 (below_size (by repeat (first | (with_reducible first | exact HB.out | apply below_alloc | apply pw_below_drewN | apply below_drew1 | refine below_set ?_ (IsS70.ge HI146.out)) | exact HB.out)))); have n1_ := Aside0.mk (hb); have n2_ := Aside0.mk (hi); clear HB; clear HI146; have HO165 := n0_; have HB := n1_; have HI146 := n2_; clear n0_ n1_ n2_; (try clear hb); (try clear hb2); (try clear hk); (try clear hi); (try clear ho0)))
                                  go_ret
                                  exact ⟨by first | rfl | (simp [errW_none, errW_some] <;> rfl) | (simp [*, errW_none, errW_some] <;> rfl), by repeat (first | (with_reducible first | exact HB.out | apply below_alloc | apply pw_below_drewN | apply below_drew1 | refine below_set ?_ (IsS70.ge HI146.out)) | exact HB.out)⟩
                              · rw [if_neg c33] at H
                                exact absurd H (by simp)
                            · rw [if_neg c32] at H
                              exact absurd H (by simp)
                          · rw [if_neg c31] at H
                            have c31b0 : decide (x58_4 < (x9_24.length : Int)) = false := decide_eq_false c31
                            clear c31
                            replace H := Option.bind_eq_some_iff.mp H
                            obtain ⟨⟨t168, t169⟩, A440, H⟩ := H
                            replace H : (some (t168 == 0)) = some r := H
                            have A44 := Aside0.mk A440
                            clear A440
                            obtain rfl := Option.some.inj H
                            go_wp2_with (first | ((with_reducible refine gate_callee (f := 27) rfl ?_); refine goesL_ (some 78) rfl rfl Try.func27 (by kernel_rfl) rfl #[.pointer (some ⟨g146, 0, none⟩)] rfl (by (try simp only [List.map_toArray, List.map_cons, List.map_nil]); first | done | rfl | (simp only [List.length_drop, List.length_take]; rfl)) ?_; (with_reducible refine (net_Net_Len.calls g146 x147000_4 t168 t169 w _ ?side1 ?side2 A44.out).mono ?_); (case side1 => repeat (first | (with_reducible first | exact HI146.out | apply IsS70.alloc | apply IsS70.drewN | apply IsS70.drew) | exact HI146.out)); (case side2 => repeat (first | (with_reducible first | exact HB.out | apply below_alloc | apply pw_below_drewN | apply below_drew1 | refine below_set ?_ (IsS70.ge HI146.out)) | exact HB.out)); rintro e w45 ⟨rfl, hi, hb, hk⟩; refine ⟨_, rfl, ?_⟩; have n0_ := Aside0.mk (hb); have n1_ := Aside0.mk (hi); clear HB; clear HI146; have HB := n0_; have HI146 := n1_; clear n0_ n1_; (try clear hb); (try clear hb2); (try clear hk); (try clear hi)))
                            go_ret
                            exact ⟨by first | rfl | (simp [errW_none, errW_some] <;> rfl) | (simp [*, errW_none, errW_some] <;> rfl), by repeat (first | (with_reducible first | exact HB.out | apply below_alloc | apply pw_below_drewN | apply below_drew1 | refine below_set ?_ (IsS70.ge HI146.out)) | exact HB.out)⟩
  · replace c4 := Bool.eq_false_iff.mpr c4
    subst c4
    have H1 : (some false) = some r := by rw [if_neg (show ¬ (false = true) by decide)] at H; exact H
    clear H
    have H := H1
    clear H1
    obtain rfl := Option.some.inj H
    go_enter Try.func13, Try.ntmps13
    go_wp2_with (first | ((with_reducible refine gate_callee (f := 26) rfl ?_); refine goesL_ (some 14) rfl rfl Try.func26 (by kernel_rfl) rfl #[] rfl (by (try simp only [List.map_toArray, List.map_cons, List.map_nil]); first | done | rfl | (simp only [List.length_drop, List.length_take]; rfl)) ?_; (with_reducible refine (ropewaylaw19_netAlive.calls k  false _ A3.out).mono ?_); rintro e w46 ⟨rfl, hb⟩; refine ⟨_, rfl, ?_⟩; have n0_ := Aside0.mk (below_step (by repeat (first | (with_reducible first | exact HB.out | apply below_alloc | apply pw_below_drewN | apply below_drew1) | exact HB.out)) hb); clear HB; have HB := n0_; clear n0_; (try clear hb); (try clear hb2); (try clear hk); (try clear hi)))
    go_ret
    exact ⟨by first | rfl | (simp [errW_none, errW_some] <;> rfl) | (simp [*, errW_none, errW_some] <;> rfl), by repeat (first | (with_reducible first | exact HB.out | apply below_alloc | apply pw_below_drewN | apply below_drew1) | exact HB.out)⟩

end Go.Proofs.Ytjcpamclggbbdaa.PNgt
