/- Printed by a program of ours (wip/tool/ppn.py, over the kit's printer, and wip/tool/netfix.py): walks of functions that use a net, or that a net's functions use. -/
import Derived.Test.YtjcpamclggbbdaaNetB
namespace Go.Proofs.Ytjcpamclggbbdaa.PNgt
open Go.RowKit Go.Proofs.YtjcpamclggbbdaaW.PrintWords Go.Proofs.YtjcpamclggbbdaaW.PrintLast Go.Proofs.YtjcpamclggbbdaaW.PrintMore
attribute [local go_sem] max2_int min2_int max_two min_two max_three min_three max_four min_four   -- for this text's walks alone
set_option linter.unusedVariables false
set_option linter.unusedSimpArgs false

/-! ### ropewaylaw19_NetFull: function 12 -/
mutual
def ropewaylaw19_NetFull.j0 : Nat → Int → Bool → Option (Bool)
  | 0, _, _ => none
  | k + 1, x0, x15 => if x15 = true then (some true) else ((net_New.f).bind fun t159 => (ropewaylaw19_NetFull.l0 k x0 0 t159))
def ropewaylaw19_NetFull.l0 : Nat → Int → Int → List S72 → Option (Bool)
  | 0, _, _, _ => none
  | k + 1, x0, x4, x161000 => if x4 < x0 then ((net_Net_Put.f x161000 (([(x4) % 256, (wrap64 (Int.tdiv x4 256)) % 256] : List Int))).bind fun bt164 => (if (bt164.1 != (decide (x4 < 3000))) = true then (some false) else (ropewaylaw19_NetFull.l0 k x0 (wrap64 (x4 + 1)) bt164.2))) else ((net_Net_Len.f x161000).bind fun bt166 => (if bt166.1 = (mn x0 3000) then ((net_Net_Double.f bt166.2 0).bind fun bt168 => (if x0 > 0 then (ropewaylaw19_NetFull.j2 k x0 (bt168.1 != (decide (x0 < 3000))) bt168.2) else (ropewaylaw19_NetFull.j2 k x0 (bt168.1 != false) bt168.2))) else (ropewaylaw19_NetFull.j2 k x0 true bt166.2)))
def ropewaylaw19_NetFull.j2 : Nat → Int → Bool → List S72 → Option (Bool)
  | 0, _, _, _ => none
  | k + 1, x0, x48, x161000 => if x48 = true then (some false) else (ropewaylaw19_NetFull.l1 k x0 0 x161000)
def ropewaylaw19_NetFull.l1 : Nat → Int → Int → List S72 → Option (Bool)
  | 0, _, _, _ => none
  | k + 1, x0, x5, x161000 => if x5 < (mn x0 40) then ((net_Net_Take.f x161000 0).bind fun bt170 => (if bt170.2.1 = true then (if 0 < (bt170.1.length : Int) then (if (rd bt170.1 0) = ((x5) % 256) then (if 1 < (bt170.1.length : Int) then (if (rd bt170.1 1) = ((wrap64 (Int.tdiv x5 256)) % 256) then (ropewaylaw19_NetFull.l1 k x0 (wrap64 (x5 + 1)) bt170.2.2) else (some false)) else (none)) else (some false)) else (none)) else (some false))) else (some true)
end
def ropewaylaw19_NetFull.f (k : Nat) (a0 : Int) : Option (Bool) := (ropewaylaw19_netAlive.f k).bind fun t158 => (if t158 = true then (if a0 < 0 then (ropewaylaw19_NetFull.j0 k a0 true) else (ropewaylaw19_NetFull.j0 k a0 (decide (a0 > 3100)))) else (some false))
theorem ropewaylaw19_NetFull.mono_l : ∀ k, (∀ y0 y1, LeO (ropewaylaw19_NetFull.j0 k y0 y1) (ropewaylaw19_NetFull.j0 (k + 1) y0 y1)) ∧ (∀ y0 y1 y2, LeO (ropewaylaw19_NetFull.l0 k y0 y1 y2) (ropewaylaw19_NetFull.l0 (k + 1) y0 y1 y2)) ∧ (∀ y0 y1 y2, LeO (ropewaylaw19_NetFull.j2 k y0 y1 y2) (ropewaylaw19_NetFull.j2 (k + 1) y0 y1 y2)) ∧ (∀ y0 y1 y2, LeO (ropewaylaw19_NetFull.l1 k y0 y1 y2) (ropewaylaw19_NetFull.l1 (k + 1) y0 y1 y2))
  | 0 => ⟨fun _ _ r h => by simp [ropewaylaw19_NetFull.j0] at h, fun _ _ _ r h => by simp [ropewaylaw19_NetFull.l0] at h, fun _ _ _ r h => by simp [ropewaylaw19_NetFull.j2] at h, fun _ _ _ r h => by simp [ropewaylaw19_NetFull.l1] at h⟩
  | k + 1 => by
    obtain ⟨ih0, ih1, ih2, ih3⟩ := ropewaylaw19_NetFull.mono_l k
    refine ⟨?_, ?_, ?_, ?_⟩
    · intro y0 y1
      unfold ropewaylaw19_NetFull.j0
      repeat' first
      | (with_reducible exact ih0 _ _)
      | (with_reducible exact ih1 _ _ _)
      | (with_reducible exact ih2 _ _ _)
      | (with_reducible exact ih3 _ _ _)
      | (with_reducible exact ropewaylaw19_netAlive.mono _)
      | (with_reducible exact LeO.refl _)
      | (with_reducible exact LeO.none _)
      | (with_reducible refine LeO.ite ?_ ?_)
      | (with_reducible refine LeO.bind ?_ (fun _ => ?_))
      | exact ih0 _ _
      | exact ih1 _ _ _
      | exact ih2 _ _ _
      | exact ih3 _ _ _
      | exact ropewaylaw19_netAlive.mono _
      | exact LeO.none _
      | refine LeO.ite ?_ ?_
      | refine LeO.bind ?_ (fun _ => ?_)
    · intro y0 y1 y2
      unfold ropewaylaw19_NetFull.l0
      repeat' first
      | (with_reducible exact ih0 _ _)
      | (with_reducible exact ih1 _ _ _)
      | (with_reducible exact ih2 _ _ _)
      | (with_reducible exact ih3 _ _ _)
      | (with_reducible exact ropewaylaw19_netAlive.mono _)
      | (with_reducible exact LeO.refl _)
      | (with_reducible exact LeO.none _)
      | (with_reducible refine LeO.ite ?_ ?_)
      | (with_reducible refine LeO.bind ?_ (fun _ => ?_))
      | exact ih0 _ _
      | exact ih1 _ _ _
      | exact ih2 _ _ _
      | exact ih3 _ _ _
      | exact ropewaylaw19_netAlive.mono _
      | exact LeO.none _
      | refine LeO.ite ?_ ?_
      | refine LeO.bind ?_ (fun _ => ?_)
    · intro y0 y1 y2
      unfold ropewaylaw19_NetFull.j2
      repeat' first
      | (with_reducible exact ih0 _ _)
      | (with_reducible exact ih1 _ _ _)
      | (with_reducible exact ih2 _ _ _)
      | (with_reducible exact ih3 _ _ _)
      | (with_reducible exact ropewaylaw19_netAlive.mono _)
      | (with_reducible exact LeO.refl _)
      | (with_reducible exact LeO.none _)
      | (with_reducible refine LeO.ite ?_ ?_)
      | (with_reducible refine LeO.bind ?_ (fun _ => ?_))
      | exact ih0 _ _
      | exact ih1 _ _ _
      | exact ih2 _ _ _
      | exact ih3 _ _ _
      | exact ropewaylaw19_netAlive.mono _
      | exact LeO.none _
      | refine LeO.ite ?_ ?_
      | refine LeO.bind ?_ (fun _ => ?_)
    · intro y0 y1 y2
      unfold ropewaylaw19_NetFull.l1
      repeat' first
      | (with_reducible exact ih0 _ _)
      | (with_reducible exact ih1 _ _ _)
      | (with_reducible exact ih2 _ _ _)
      | (with_reducible exact ih3 _ _ _)
      | (with_reducible exact ropewaylaw19_netAlive.mono _)
      | (with_reducible exact LeO.refl _)
      | (with_reducible exact LeO.none _)
      | (with_reducible refine LeO.ite ?_ ?_)
      | (with_reducible refine LeO.bind ?_ (fun _ => ?_))
      | exact ih0 _ _
      | exact ih1 _ _ _
      | exact ih2 _ _ _
      | exact ih3 _ _ _
      | exact ropewaylaw19_netAlive.mono _
      | exact LeO.none _
      | refine LeO.ite ?_ ?_
      | refine LeO.bind ?_ (fun _ => ?_)
theorem ropewaylaw19_NetFull.mono : ∀ a0 k, LeO (ropewaylaw19_NetFull.f k a0) (ropewaylaw19_NetFull.f (k + 1) a0) := by
  intro a0 k
  obtain ⟨ih0, ih1, ih2, ih3⟩ := ropewaylaw19_NetFull.mono_l k
  unfold ropewaylaw19_NetFull.f
  repeat' first
      | (with_reducible exact ih0 _ _)
      | (with_reducible exact ih1 _ _ _)
      | (with_reducible exact ih2 _ _ _)
      | (with_reducible exact ih3 _ _ _)
      | (with_reducible exact ropewaylaw19_netAlive.mono _)
      | (with_reducible exact LeO.refl _)
      | (with_reducible exact LeO.none _)
      | (with_reducible refine LeO.ite ?_ ?_)
      | (with_reducible refine LeO.bind ?_ (fun _ => ?_))
      | exact ih0 _ _
      | exact ih1 _ _ _
      | exact ih2 _ _ _
      | exact ih3 _ _ _
      | exact ropewaylaw19_netAlive.mono _
      | exact LeO.none _
      | refine LeO.ite ?_ ?_
      | refine LeO.bind ?_ (fun _ => ?_)
set_option maxHeartbeats 8000000 in
set_option maxRecDepth 100000 in
theorem ropewaylaw19_NetFull.calls (k : Nat) (a0 : Int) (r : Bool) (w : World) (h : ropewaylaw19_NetFull.f k a0 = some r) :
    Calls Try.prog 12 #[.int .i64 a0] w fun e w' => e = .returned (.bool r) ∧ Below w.heap.size w w' := by
  have HB := Aside0.mk (Below.refl w.heap.size w)
  have H : ((ropewaylaw19_netAlive.f k).bind fun t158 => (if t158 = true then (if a0 < 0 then (ropewaylaw19_NetFull.j0 k a0 true) else (ropewaylaw19_NetFull.j0 k a0 (decide (a0 > 3100)))) else (some false))) = some r := h
  clear h
  replace H := Option.bind_eq_some_iff.mp H
  obtain ⟨t158, A20, H⟩ := H
  replace H : (if t158 = true then (if a0 < 0 then (ropewaylaw19_NetFull.j0 k a0 true) else (ropewaylaw19_NetFull.j0 k a0 (decide (a0 > 3100)))) else (some false)) = some r := H
  have A2 := Aside0.mk A20
  clear A20
  by_cases c3 : t158 = true
  · subst c3
    have H1 : (if a0 < 0 then (ropewaylaw19_NetFull.j0 k a0 true) else (ropewaylaw19_NetFull.j0 k a0 (decide (a0 > 3100)))) = some r := by rw [if_pos rfl] at H; exact H
    clear H
    have H := H1
    clear H1
    have HC4 := Aside0.mk H
    clear H
    go_enter Try.func12, Try.ntmps12
    go_upto_region 3 with (first | ((with_reducible refine gate_callee (f := 26) rfl ?_); refine goesL_ (some 8) rfl rfl Try.func26 (by kernel_rfl) rfl #[] rfl (by (try simp only [List.map_toArray, List.map_cons, List.map_nil]); first | done | rfl | (simp only [List.length_drop, List.length_take]; rfl)) ?_; (with_reducible refine (ropewaylaw19_netAlive.calls k  true _ A2.out).mono ?_); rintro e w5 ⟨rfl, hb⟩; refine ⟨_, rfl, ?_⟩; have n0_ := Aside0.mk (below_step (by repeat (first | (with_reducible first | exact HB.out | apply below_alloc | apply pw_below_drewN | apply below_drew1) | exact HB.out)) hb); clear HB; have HB := n0_; clear n0_; (try clear hb); (try clear hb2); (try clear hk); (try clear hi)))
    (try simp only [Act.put, List.setIfInBounds_toArray, List.set_cons_zero, List.set_cons_succ])
    go_cut [15] (fun v15 wc => ∃ (kq : Nat) (x15_3 : Bool), v15 = .bool x15_3 ∧ Aside0 (ropewaylaw19_NetFull.j0 kq a0 x15_3 = some r) ∧ Aside0 (kq ≤ k) ∧ Aside0 (Below w.heap.size w wc))
    case first =>
      have H := HC4.out
      clear HC4
      by_cases c6 : a0 < 0
      · rw [if_pos c6] at H
        have c6b0 : decide (a0 < 0) = true := decide_eq_true c6
        clear c6
        (first | rw [c6b0] | (simp only [i64_w, i32_w]; rw [c6b0]) | skip)
        have H' := Aside0.mk H
        clear H
        go_wp2
        go_meet
        case rel => exact ⟨_, (true), (by first | rfl | (simp; done) | (simp [*]; done)), H', ⟨by first | omega | exact Nat.le_refl _⟩, ⟨by repeat (first | (with_reducible first | exact HB.out | apply below_alloc | apply pw_below_drewN | apply below_drew1) | exact HB.out)⟩⟩
      · rw [if_neg c6] at H
        have c6b0 : decide (a0 < 0) = false := decide_eq_false c6
        clear c6
        (first | rw [c6b0] | (simp only [i64_w, i32_w]; rw [c6b0]) | skip)
        have H' := Aside0.mk H
        clear H
        go_wp2
        go_meet
        case rel => exact ⟨_, (decide (a0 > 3100)), (by first | rfl | (simp; done) | (simp [*]; done)), H', ⟨by first | omega | exact Nat.le_refl _⟩, ⟨by repeat (first | (with_reducible first | exact HB.out | apply below_alloc | apply pw_below_drewN | apply below_drew1) | exact HB.out)⟩⟩
    case rest =>
      clear HC4
      try clear c1
      try clear c2
      try clear p2
      try clear c3
      try clear c6
      try clear c6b0
      obtain ⟨kq, x15_3, rfl, HA, HJ3, HB⟩ := hcut
      cases kq with
      | zero => exact absurd HA.out (by simp [ropewaylaw19_NetFull.j0])
      | succ kj3 =>
        have H := HA.out
        clear HA
        simp only [ropewaylaw19_NetFull.j0] at H
        by_cases c7 : x15_3 = true
        · subst c7
          have H1 : (some true) = some r := by rw [if_pos rfl] at H; exact H
          clear H
          have H := H1
          clear H1
          obtain rfl := Option.some.inj H
          go_wp2
          go_ret
          exact ⟨by first | rfl | (simp [errW_none, errW_some] <;> rfl) | (simp [*, errW_none, errW_some] <;> rfl), by repeat (first | (with_reducible first | exact HB.out | apply below_alloc | apply pw_below_drewN | apply below_drew1) | exact HB.out)⟩
        · replace c7 := Bool.eq_false_iff.mpr c7
          subst c7
          have H1 : ((net_New.f).bind fun t159 => (ropewaylaw19_NetFull.l0 kj3 a0 0 t159)) = some r := by rw [if_neg (show ¬ (false = true) by decide)] at H; exact H
          clear H
          have H := H1
          clear H1
          replace H := Option.bind_eq_some_iff.mp H
          obtain ⟨t159, A80, H⟩ := H
          replace H : (ropewaylaw19_NetFull.l0 kj3 a0 0 t159) = some r := H
          have A8 := Aside0.mk A80
          clear A80
          have H' := Aside0.mk H
          clear H
          go_wp2_with (first | ((with_reducible refine gate_callee (f := 24) rfl ?_); refine goesL_ (some 16) rfl rfl Try.func24 (by kernel_rfl) rfl #[] rfl (by (try simp only [List.map_toArray, List.map_cons, List.map_nil]); first | done | rfl | (simp only [List.length_drop, List.length_take]; rfl)) ?_; (with_reducible refine (net_New.calls  t159 w _ ?side1 A8.out).mono ?_); (case side1 => repeat (first | (with_reducible first | exact HB.out | apply below_alloc | apply pw_below_drewN | apply below_drew1) | exact HB.out)); rintro e w9 ⟨g160, rfl, hi, hb, hb2⟩; refine ⟨_, rfl, ?_⟩; have n0_ := Aside0.mk (hb); have n1_ := Aside0.mk (hi); clear HB; have HB := n0_; have HI160 := n1_; clear n0_ n1_; (try clear hb); (try clear hb2); (try clear hk); (try clear hi)))
          go_loopg [4] kj3 (fun kq v4 w' => ∃ (x4_2 : Int) (x161000_2 : List S72), v4 = .int .i64 x4_2 ∧ Aside0 (ropewaylaw19_NetFull.l0 kq a0 x4_2 x161000_2 = some r) ∧ Aside0 (kq ≤ kj3) ∧ Aside0 (IsS70 w w' g160 x161000_2) ∧ Aside0 (Below w.heap.size w w'))
          case atStart => exact ⟨(0), (t159), (by first | rfl | (simp; done) | (simp [*]; done)), H', ⟨Nat.le_refl _⟩, ⟨by repeat (first | (with_reducible first | exact HI160.out | apply IsS70.alloc | apply IsS70.drewN | apply IsS70.drew) | exact HI160.out)⟩, ⟨by repeat (first | (with_reducible first | exact HB.out | apply below_alloc | apply pw_below_drewN | apply below_drew1 | refine below_set ?_ (IsS70.ge HI160.out)) | exact HB.out)⟩⟩
          case round =>
            clear H'
            try clear c1
            try clear c2
            try clear p2
            try clear c3
            try clear c6
            try clear c6b0
            try clear c7
            try clear p2
            obtain ⟨x4_2, x161000_2, rfl, HA, HK2, HI160, HB⟩ := hrel
            cases gk with
            | zero => exact absurd HA.out (by simp [ropewaylaw19_NetFull.l0])
            | succ k2 =>
              have H := HA.out
              clear HA
              simp only [ropewaylaw19_NetFull.l0] at H
              by_cases c10 : x4_2 < a0
              · rw [if_pos c10] at H
                have c10b0 : decide (x4_2 < a0) = true := decide_eq_true c10
                clear c10
                obtain ⟨y161, hy161⟩ : ∃ y_ : List Int, y_ = (([(x4_2) % 256, (wrap64 (Int.tdiv x4_2 256)) % 256] : List Int)) := ⟨_, rfl⟩
                replace H : ((net_Net_Put.f x161000_2 y161).bind fun bt164 => (if (bt164.1 != (decide (x4_2 < 3000))) = true then (some false) else (ropewaylaw19_NetFull.l0 k2 a0 (wrap64 (x4_2 + 1)) bt164.2))) = some r := by first | (rw [hy161]; with_reducible exact H) | (have H2_ := (Option.bind_some _ _).symm.trans H; rw [hy161]; with_reducible exact H2_) | (have H2_ := (Option.bind_some _ _).symm.trans H; with_reducible exact H2_) | with_reducible exact H | (rw [hy161]; exact H) | exact H
                have Ny161 := Aside0.mk hy161
                clear hy161
                replace H := Option.bind_eq_some_iff.mp H
                obtain ⟨⟨t164, t165⟩, A110, H⟩ := H
                replace H : (if (t164 != (decide (x4_2 < 3000))) = true then (some false) else (ropewaylaw19_NetFull.l0 k2 a0 (wrap64 (x4_2 + 1)) t165)) = some r := H
                have A11 := Aside0.mk A110
                clear A110
                by_cases c12 : (t164 != (decide (x4_2 < 3000))) = true
                · rw [if_pos c12] at H
                  have c12b0 : (t164 != (decide (x4_2 < 3000))) = true := c12
                  (try (have c12b1 : decide (t164 = (decide (x4_2 < 3000))) = false := by simpa using c12))
                  (try (have c12b2 : (t164 == (decide (x4_2 < 3000))) = false := by simpa using c12))
                  (try (have c12b3 : ¬ (t164 = (decide (x4_2 < 3000))) := by simpa using c12))
                  clear c12
                  obtain rfl := Option.some.inj H
                  go_wp2_with (first | ((with_reducible refine gate_dst (N := 28) rfl ?_); refine Kd.R_lit (Kd.int .u8) _ 5 ?hg (N := 28) ?hd (xs := ([(x4_2) % 256, (wrap64 (Int.tdiv x4_2 256)) % 256] : List Int)) (inner := [.int .u8 ((x4_2) % 256), .int .u8 ((wrap64 (Int.tdiv x4_2 256)) % 256)]) (ok := fun _ => True) (okp := fun _ => True) ?hr ?hp (fun _ hk => hk) trivial (Below.refl _ _) (Nat.le_refl _) (by simp) ?_; (case hd => rfl); (case hg => rfl); (case hr => first | (go_simp; done) | (go_simp; rfl)); (case hp => exact (Reps.one (show Kd.M (Kd.int .u8) _ _ _ ((x4_2) % 256) [.int .u8 ((x4_2) % 256)] from rfl) (Reps.one (show Kd.M (Kd.int .u8) _ _ _ ((wrap64 (Int.tdiv x4_2 256)) % 256) [.int .u8 ((wrap64 (Int.tdiv x4_2 256)) % 256)] from rfl) (Reps.none _ _)))); intro v162 w13 ho14 hb hg_ hnew_; clear hg_ hnew_; (first | rw [← Ny161.out] at ho14 | (simp only [Int.reduceToNat] at ho14; rw [← Ny161.out] at ho14)); have n0_ := Aside0.mk (Kd.R_lower ho14 (below_size (by repeat (first | (with_reducible first | exact HB.out | apply below_alloc | apply pw_below_drewN | apply below_drew1 | refine below_set ?_ (IsS70.ge HI160.out)) | exact HB.out)))); have n1_ := Aside0.mk (IsS70.below (by repeat (first | (with_reducible first | exact HI160.out | apply IsS70.alloc | apply IsS70.drewN | apply IsS70.drew) | exact HI160.out)) hb); have n2_ := Aside0.mk (below_step (by repeat (first | (with_reducible first | exact HB.out | apply below_alloc | apply pw_below_drewN | apply below_drew1 | refine below_set ?_ (IsS70.ge HI160.out)) | exact HB.out)) hb); clear HI160; clear HB; have HO163 := n0_; have HI160 := n1_; have HB := n2_; clear n0_ n1_ n2_; clear hb ho14; obtain ⟨Ao15, co15, eo15⟩ := Kd.R_slice HO163.out; subst eo15) | ((with_reducible refine gate_callee (f := 30) rfl ?_); refine goesL_ (some 29) rfl rfl Try.func30 (by kernel_rfl) rfl #[.pointer (some ⟨g160, 0, none⟩), .slice Ao15 y161.length co15] rfl (by (try simp only [List.map_toArray, List.map_cons, List.map_nil]); first | done | rfl | (simp only [List.length_drop, List.length_take]; rfl)) ?_; (with_reducible refine (net_Net_Put.calls g160 x161000_2 _ _ y161 t164 t165 w _ ?side1 ?side2 ?side3 ?side4 ?side5 A11.out).mono ?_); (case side1 => repeat (first | (with_reducible first | exact HI160.out | apply IsS70.alloc | apply IsS70.drewN | apply IsS70.drew) | exact HI160.out)); (case side2 => repeat (first | (with_reducible first | exact HB.out | apply below_alloc | apply pw_below_drewN | apply below_drew1 | refine below_set ?_ (IsS70.ge HI160.out)) | exact HB.out)); (case side3 => repeat (first | exact (Kd.R_reads' HO163.out).2.2 | (with_reducible refine Kd.C_alloc ?_ _) | (with_reducible refine Kd.C_drewN ?_ _) | (with_reducible refine Kd.C_drew ?_))); (case side4 => exact (Kd.R_reads' HO163.out).2.1); (case side5 => exact far_slice (IsS70.own_ne HI160.out HO163.out (by decide))); rintro e w16 ⟨rfl, hi, hb, hk⟩; refine ⟨_, rfl, ?_⟩; have n0_ := Aside0.mk (Kd.R_mono (R_keepT (IsS70.apart (show IsS70 w _ g160 x161000_2 from by repeat (first | (with_reducible first | exact HI160.out | apply IsS70.alloc | apply IsS70.drewN | apply IsS70.drew) | exact HI160.out)) (by (with_reducible repeat (first | apply Kd.R_alloc | apply Kd.R_drewN | apply Kd.R_drew)); exact HO163.out) (by decide)) hk (fun _ h => h.2)) (fun _ h => h.1)); have n1_ := Aside0.mk (hb); have n2_ := Aside0.mk (hi); clear HO163; clear HB; clear HI160; have HO163 := n0_; have HB := n1_; have HI160 := n2_; clear n0_ n1_ n2_; (try clear hb); (try clear hb2); (try clear hk); (try clear hi)))
                  go_ret
                  exact ⟨by first | rfl | (simp [errW_none, errW_some] <;> rfl) | (simp [*, errW_none, errW_some] <;> rfl), by repeat (first | (with_reducible first | exact HB.out | apply below_alloc | apply pw_below_drewN | apply below_drew1 | refine below_set ?_ (IsS70.ge HI160.out)) | exact HB.out)⟩
                · rw [if_neg c12] at H
                  have c12b0 : (t164 != (decide (x4_2 < 3000))) = false := by simpa using c12
                  (try (have c12b1 : decide (t164 = (decide (x4_2 < 3000))) = true := by simpa using c12))
                  (try (have c12b2 : (t164 == (decide (x4_2 < 3000))) = true := by simpa using c12))
                  clear c12
                  have H' := Aside0.mk H
                  clear H
                  go_wp2_with (first | ((with_reducible refine gate_dst (N := 28) rfl ?_); refine Kd.R_lit (Kd.int .u8) _ 5 ?hg (N := 28) ?hd (xs := ([(x4_2) % 256, (wrap64 (Int.tdiv x4_2 256)) % 256] : List Int)) (inner := [.int .u8 ((x4_2) % 256), .int .u8 ((wrap64 (Int.tdiv x4_2 256)) % 256)]) (ok := fun _ => True) (okp := fun _ => True) ?hr ?hp (fun _ hk => hk) trivial (Below.refl _ _) (Nat.le_refl _) (by simp) ?_; (case hd => rfl); (case hg => rfl); (case hr => first | (go_simp; done) | (go_simp; rfl)); (case hp => exact (Reps.one (show Kd.M (Kd.int .u8) _ _ _ ((x4_2) % 256) [.int .u8 ((x4_2) % 256)] from rfl) (Reps.one (show Kd.M (Kd.int .u8) _ _ _ ((wrap64 (Int.tdiv x4_2 256)) % 256) [.int .u8 ((wrap64 (Int.tdiv x4_2 256)) % 256)] from rfl) (Reps.none _ _)))); intro v162 w17 ho18 hb hg_ hnew_; clear hg_ hnew_; (first | rw [← Ny161.out] at ho18 | (simp only [Int.reduceToNat] at ho18; rw [← Ny161.out] at ho18)); have n0_ := Aside0.mk (Kd.R_lower ho18 (below_size (by repeat (first | (with_reducible first | exact HB.out | apply below_alloc | apply pw_below_drewN | apply below_drew1 | refine below_set ?_ (IsS70.ge HI160.out)) | exact HB.out)))); have n1_ := Aside0.mk (IsS70.below (by repeat (first | (with_reducible first | exact HI160.out | apply IsS70.alloc | apply IsS70.drewN | apply IsS70.drew) | exact HI160.out)) hb); have n2_ := Aside0.mk (below_step (by repeat (first | (with_reducible first | exact HB.out | apply below_alloc | apply pw_below_drewN | apply below_drew1 | refine below_set ?_ (IsS70.ge HI160.out)) | exact HB.out)) hb); clear HI160; clear HB; have HO163 := n0_; have HI160 := n1_; have HB := n2_; clear n0_ n1_ n2_; clear hb ho18; obtain ⟨Ao19, co19, eo19⟩ := Kd.R_slice HO163.out; subst eo19) | ((with_reducible refine gate_callee (f := 30) rfl ?_); refine goesL_ (some 29) rfl rfl Try.func30 (by kernel_rfl) rfl #[.pointer (some ⟨g160, 0, none⟩), .slice Ao19 y161.length co19] rfl (by (try simp only [List.map_toArray, List.map_cons, List.map_nil]); first | done | rfl | (simp only [List.length_drop, List.length_take]; rfl)) ?_; (with_reducible refine (net_Net_Put.calls g160 x161000_2 _ _ y161 t164 t165 w _ ?side1 ?side2 ?side3 ?side4 ?side5 A11.out).mono ?_); (case side1 => repeat (first | (with_reducible first | exact HI160.out | apply IsS70.alloc | apply IsS70.drewN | apply IsS70.drew) | exact HI160.out)); (case side2 => repeat (first | (with_reducible first | exact HB.out | apply below_alloc | apply pw_below_drewN | apply below_drew1 | refine below_set ?_ (IsS70.ge HI160.out)) | exact HB.out)); (case side3 => repeat (first | exact (Kd.R_reads' HO163.out).2.2 | (with_reducible refine Kd.C_alloc ?_ _) | (with_reducible refine Kd.C_drewN ?_ _) | (with_reducible refine Kd.C_drew ?_))); (case side4 => exact (Kd.R_reads' HO163.out).2.1); (case side5 => exact far_slice (IsS70.own_ne HI160.out HO163.out (by decide))); rintro e w20 ⟨rfl, hi, hb, hk⟩; refine ⟨_, rfl, ?_⟩; have n0_ := Aside0.mk (Kd.R_mono (R_keepT (IsS70.apart (show IsS70 w _ g160 x161000_2 from by repeat (first | (with_reducible first | exact HI160.out | apply IsS70.alloc | apply IsS70.drewN | apply IsS70.drew) | exact HI160.out)) (by (with_reducible repeat (first | apply Kd.R_alloc | apply Kd.R_drewN | apply Kd.R_drew)); exact HO163.out) (by decide)) hk (fun _ h => h.2)) (fun _ h => h.1)); have n1_ := Aside0.mk (hb); have n2_ := Aside0.mk (hi); clear HO163; clear HB; clear HI160; have HO163 := n0_; have HB := n1_; have HI160 := n2_; clear n0_ n1_ n2_; (try clear hb); (try clear hb2); (try clear hk); (try clear hi)))
                  go_roundg k2
                  case measure => have := HJ3.out; have := HK2.out; omega
                  case rel => exact ⟨(wrap64 (x4_2 + 1)), (t165), (by first | rfl | (simp; done) | (simp [*]; done)), H', ⟨by have := HJ3.out; have := HK2.out; omega⟩, ⟨by repeat (first | (with_reducible first | exact HI160.out | apply IsS70.alloc | apply IsS70.drewN | apply IsS70.drew) | exact HI160.out)⟩, ⟨by repeat (first | (with_reducible first | exact HB.out | apply below_alloc | apply pw_below_drewN | apply below_drew1 | refine below_set ?_ (IsS70.ge HI160.out)) | exact HB.out)⟩⟩
              · rw [if_neg c10] at H
                have c10b0 : decide (x4_2 < a0) = false := decide_eq_false c10
                clear c10
                have HC21 := Aside0.mk H
                clear H
                go_upto_region 11 with (fail)
                go_cut [48] (fun v48 wc => ∃ (kq : Nat) (x48_20 : Bool) (x161000_20 : List S72), v48 = .bool x48_20 ∧ Aside0 (ropewaylaw19_NetFull.j2 kq a0 x48_20 x161000_20 = some r) ∧ Aside0 (kq ≤ k2) ∧ Aside0 (IsS70 w wc g160 x161000_20) ∧ Aside0 (Below w.heap.size w wc))
                case first =>
                  have H := HC21.out
                  clear HC21
                  replace H := Option.bind_eq_some_iff.mp H
                  obtain ⟨⟨t166, t167⟩, A220, H⟩ := H
                  replace H : (if t166 = (mn a0 3000) then ((net_Net_Double.f t167 0).bind fun bt168 => (if a0 > 0 then (ropewaylaw19_NetFull.j2 k2 a0 (bt168.1 != (decide (a0 < 3000))) bt168.2) else (ropewaylaw19_NetFull.j2 k2 a0 (bt168.1 != false) bt168.2))) else (ropewaylaw19_NetFull.j2 k2 a0 true t167)) = some r := H
                  have A22 := Aside0.mk A220
                  clear A220
                  obtain ⟨ji23, hji23⟩ : ∃ j_ : Int, (mn a0 3000) = j_ := ⟨_, rfl⟩
                  replace H : (if t166 = (ji23) then ((net_Net_Double.f t167 0).bind fun bt168 => (if a0 > 0 then (ropewaylaw19_NetFull.j2 k2 a0 (bt168.1 != (decide (a0 < 3000))) bt168.2) else (ropewaylaw19_NetFull.j2 k2 a0 (bt168.1 != false) bt168.2))) else (ropewaylaw19_NetFull.j2 k2 a0 true t167)) = some r := by first | (rw [hji23] at H; exact H) | (simp only [hji23] at H ⊢; exact H)
                  (try rw [hji23] at A22)
                  have hji23_ : (if 3000 < a0 then 3000 else a0) = ji23 := hji23
                  by_cases c24 : t166 = (ji23)
                  · rw [if_pos c24] at H
                    have c24b0 : (t166 == (ji23)) = true := beq_iff_eq.mpr c24
                    have c24b1 : (t166 != (ji23)) = false := bne_eq_false_iff_eq.mpr c24
                    clear c24
                    (first | rw [c24b0] | (simp only [i64_w, i32_w]; rw [c24b0]) | skip)
                    replace H := Option.bind_eq_some_iff.mp H
                    obtain ⟨⟨t168, t169⟩, A250, H⟩ := H
                    replace H : (if a0 > 0 then (ropewaylaw19_NetFull.j2 k2 a0 (t168 != (decide (a0 < 3000))) t169) else (ropewaylaw19_NetFull.j2 k2 a0 (t168 != false) t169)) = some r := H
                    have A25 := Aside0.mk A250
                    clear A250
                    by_cases c26 : a0 > 0
                    · rw [if_pos c26] at H
                      have c26b0 : decide (0 < a0) = true := decide_eq_true c26
                      clear c26
                      have H' := Aside0.mk H
                      clear H
                      go_wp2_with (first | ((with_reducible refine gate_callee (f := 27) rfl ?_); refine goesL_ (some 34) rfl rfl Try.func27 (by kernel_rfl) rfl #[.pointer (some ⟨g160, 0, none⟩)] rfl (by (try simp only [List.map_toArray, List.map_cons, List.map_nil]); first | done | rfl | (simp only [List.length_drop, List.length_take]; rfl)) ?_; (with_reducible refine (net_Net_Len.calls g160 x161000_2 t166 t167 w _ ?side1 ?side2 A22.out).mono ?_); (case side1 => repeat (first | (with_reducible first | exact HI160.out | apply IsS70.alloc | apply IsS70.drewN | apply IsS70.drew) | exact HI160.out)); (case side2 => repeat (first | (with_reducible first | exact HB.out | apply below_alloc | apply pw_below_drewN | apply below_drew1 | refine below_set ?_ (IsS70.ge HI160.out)) | exact HB.out)); rintro e w27 ⟨rfl, hi, hb, hk⟩; refine ⟨_, rfl, ?_⟩; have n0_ := Aside0.mk (hb); have n1_ := Aside0.mk (hi); clear HB; clear HI160; have HB := n0_; have HI160 := n1_; clear n0_ n1_; (try clear hb); (try clear hb2); (try clear hk); (try clear hi)) | (go_at_call 28; (with_reducible refine (net_Net_Double.calls g160 t167 0 t168 t169 w _ ?side1 ?side2 A25.out).mono ?_); (case side1 => repeat (first | (with_reducible first | exact HI160.out | apply IsS70.alloc | apply IsS70.drewN | apply IsS70.drew) | exact HI160.out)); (case side2 => repeat (first | (with_reducible first | exact HB.out | apply below_alloc | apply pw_below_drewN | apply below_drew1 | refine below_set ?_ (IsS70.ge HI160.out)) | exact HB.out)); rintro e w28 ⟨rfl, hi, hb, hk⟩; have n0_ := Aside0.mk (hb); have n1_ := Aside0.mk (hi); clear HB; clear HI160; have HB := n0_; have HI160 := n1_; clear n0_ n1_; (try clear hb); (try clear hb2); (try clear hk); (try clear hi)))
                      go_meet
                      case rel => exact ⟨_, ((t168 != (decide (a0 < 3000)))), (t169), (by first | rfl | (simp; done) | (simp [*]; done)), H', ⟨by have := HJ3.out; have := HK2.out; first | omega | exact Nat.le_refl _⟩, ⟨by repeat (first | (with_reducible first | exact HI160.out | apply IsS70.alloc | apply IsS70.drewN | apply IsS70.drew) | exact HI160.out)⟩, ⟨by repeat (first | (with_reducible first | exact HB.out | apply below_alloc | apply pw_below_drewN | apply below_drew1 | refine below_set ?_ (IsS70.ge HI160.out)) | exact HB.out)⟩⟩
                    · rw [if_neg c26] at H
                      have c26b0 : decide (0 < a0) = false := decide_eq_false c26
                      clear c26
                      have H' := Aside0.mk H
                      clear H
                      go_wp2_with (first | ((with_reducible refine gate_callee (f := 27) rfl ?_); refine goesL_ (some 34) rfl rfl Try.func27 (by kernel_rfl) rfl #[.pointer (some ⟨g160, 0, none⟩)] rfl (by (try simp only [List.map_toArray, List.map_cons, List.map_nil]); first | done | rfl | (simp only [List.length_drop, List.length_take]; rfl)) ?_; (with_reducible refine (net_Net_Len.calls g160 x161000_2 t166 t167 w _ ?side1 ?side2 A22.out).mono ?_); (case side1 => repeat (first | (with_reducible first | exact HI160.out | apply IsS70.alloc | apply IsS70.drewN | apply IsS70.drew) | exact HI160.out)); (case side2 => repeat (first | (with_reducible first | exact HB.out | apply below_alloc | apply pw_below_drewN | apply below_drew1 | refine below_set ?_ (IsS70.ge HI160.out)) | exact HB.out)); rintro e w29 ⟨rfl, hi, hb, hk⟩; refine ⟨_, rfl, ?_⟩; have n0_ := Aside0.mk (hb); have n1_ := Aside0.mk (hi); clear HB; clear HI160; have HB := n0_; have HI160 := n1_; clear n0_ n1_; (try clear hb); (try clear hb2); (try clear hk); (try clear hi)) | (go_at_call 28; (with_reducible refine (net_Net_Double.calls g160 t167 0 t168 t169 w _ ?side1 ?side2 A25.out).mono ?_); (case side1 => repeat (first | (with_reducible first | exact HI160.out | apply IsS70.alloc | apply IsS70.drewN | apply IsS70.drew) | exact HI160.out)); (case side2 => repeat (first | (with_reducible first | exact HB.out | apply below_alloc | apply pw_below_drewN | apply below_drew1 | refine below_set ?_ (IsS70.ge HI160.out)) | exact HB.out)); rintro e w30 ⟨rfl, hi, hb, hk⟩; have n0_ := Aside0.mk (hb); have n1_ := Aside0.mk (hi); clear HB; clear HI160; have HB := n0_; have HI160 := n1_; clear n0_ n1_; (try clear hb); (try clear hb2); (try clear hk); (try clear hi)))
                      go_meet
                      case rel => exact ⟨_, ((t168 != false)), (t169), (by first | rfl | (simp; done) | (simp [*]; done)), H', ⟨by have := HJ3.out; have := HK2.out; first | omega | exact Nat.le_refl _⟩, ⟨by repeat (first | (with_reducible first | exact HI160.out | apply IsS70.alloc | apply IsS70.drewN | apply IsS70.drew) | exact HI160.out)⟩, ⟨by repeat (first | (with_reducible first | exact HB.out | apply below_alloc | apply pw_below_drewN | apply below_drew1 | refine below_set ?_ (IsS70.ge HI160.out)) | exact HB.out)⟩⟩
                  · rw [if_neg c24] at H
                    have c24b0 : (t166 == (ji23)) = false := beq_eq_false_iff_ne.mpr c24
                    have c24b1 : (t166 != (ji23)) = true := bne_iff_ne.mpr c24
                    (first | rw [c24b0] | (simp only [i64_w, i32_w]; rw [c24b0]) | skip)
                    have H' := Aside0.mk H
                    clear H
                    go_wp2_with (first | ((with_reducible refine gate_callee (f := 27) rfl ?_); refine goesL_ (some 34) rfl rfl Try.func27 (by kernel_rfl) rfl #[.pointer (some ⟨g160, 0, none⟩)] rfl (by (try simp only [List.map_toArray, List.map_cons, List.map_nil]); first | done | rfl | (simp only [List.length_drop, List.length_take]; rfl)) ?_; (with_reducible refine (net_Net_Len.calls g160 x161000_2 t166 t167 w _ ?side1 ?side2 A22.out).mono ?_); (case side1 => repeat (first | (with_reducible first | exact HI160.out | apply IsS70.alloc | apply IsS70.drewN | apply IsS70.drew) | exact HI160.out)); (case side2 => repeat (first | (with_reducible first | exact HB.out | apply below_alloc | apply pw_below_drewN | apply below_drew1 | refine below_set ?_ (IsS70.ge HI160.out)) | exact HB.out)); rintro e w31 ⟨rfl, hi, hb, hk⟩; refine ⟨_, rfl, ?_⟩; have n0_ := Aside0.mk (hb); have n1_ := Aside0.mk (hi); clear HB; clear HI160; have HB := n0_; have HI160 := n1_; clear n0_ n1_; (try clear hb); (try clear hb2); (try clear hk); (try clear hi)))
                    go_meet
                    case rel => exact ⟨_, (true), (t167), (by first | rfl | (simp; done) | (simp [*]; done)), H', ⟨by have := HJ3.out; have := HK2.out; first | omega | exact Nat.le_refl _⟩, ⟨by repeat (first | (with_reducible first | exact HI160.out | apply IsS70.alloc | apply IsS70.drewN | apply IsS70.drew) | exact HI160.out)⟩, ⟨by repeat (first | (with_reducible first | exact HB.out | apply below_alloc | apply pw_below_drewN | apply below_drew1 | refine below_set ?_ (IsS70.ge HI160.out)) | exact HB.out)⟩⟩
                case rest =>
                  clear HC21
                  try clear c1
                  try clear c2
                  try clear p2
                  try clear c3
                  try clear c6
                  try clear c6b0
                  try clear p6
                  try clear c7
                  try clear c10
                  try clear c10b0
                  try clear c12
                  try clear c12b0
                  try clear c12b1
                  try clear c12b2
                  try clear c24
                  try clear c24b0
                  try clear c24b1
                  try clear c26
                  try clear c26b0
                  try clear c27
                  try clear c30
                  try clear p2
                  obtain ⟨kq, x48_20, x161000_20, rfl, HA, HJ20, HI160, HB⟩ := hcut
                  cases kq with
                  | zero => exact absurd HA.out (by simp [ropewaylaw19_NetFull.j2])
                  | succ kj20 =>
                    have H := HA.out
                    clear HA
                    simp only [ropewaylaw19_NetFull.j2] at H
                    by_cases c32 : x48_20 = true
                    · subst c32
                      have H1 : (some false) = some r := by rw [if_pos rfl] at H; exact H
                      clear H
                      have H := H1
                      clear H1
                      obtain rfl := Option.some.inj H
                      go_wp2
                      go_ret
                      exact ⟨by first | rfl | (simp [errW_none, errW_some] <;> rfl) | (simp [*, errW_none, errW_some] <;> rfl), by repeat (first | (with_reducible first | exact HB.out | apply below_alloc | apply pw_below_drewN | apply below_drew1 | refine below_set ?_ (IsS70.ge HI160.out)) | exact HB.out)⟩
                    · replace c32 := Bool.eq_false_iff.mpr c32
                      subst c32
                      have H1 : (ropewaylaw19_NetFull.l1 kj20 a0 0 x161000_20) = some r := by rw [if_neg (show ¬ (false = true) by decide)] at H; exact H
                      clear H
                      have H := H1
                      clear H1
                      have H' := Aside0.mk H
                      clear H
                      go_wp2
                      go_loopg [5] kj20 (fun kq v5 w' => ∃ (x5_4 : Int) (x161000_4 : List S72), v5 = .int .i64 x5_4 ∧ Aside0 (ropewaylaw19_NetFull.l1 kq a0 x5_4 x161000_4 = some r) ∧ Aside0 (kq ≤ kj20) ∧ Aside0 (IsS70 w w' g160 x161000_4) ∧ Aside0 (Below w.heap.size w w'))
                      case atStart => exact ⟨(0), (x161000_20), (by first | rfl | (simp; done) | (simp [*]; done)), H', ⟨Nat.le_refl _⟩, ⟨by repeat (first | (with_reducible first | exact HI160.out | apply IsS70.alloc | apply IsS70.drewN | apply IsS70.drew) | exact HI160.out)⟩, ⟨by repeat (first | (with_reducible first | exact HB.out | apply below_alloc | apply pw_below_drewN | apply below_drew1 | refine below_set ?_ (IsS70.ge HI160.out)) | exact HB.out)⟩⟩
                      case round =>
                        clear H'
                        try clear c1
                        try clear c2
                        try clear p2
                        try clear c3
                        try clear c6
                        try clear c6b0
                        try clear p6
                        try clear c7
                        try clear c10
                        try clear c10b0
                        try clear c12
                        try clear c12b0
                        try clear c12b1
                        try clear c12b2
                        try clear c24
                        try clear c24b0
                        try clear c24b1
                        try clear c26
                        try clear c26b0
                        try clear c27
                        try clear c30
                        try clear c32
                        try clear p2
                        try clear p6
                        obtain ⟨x5_4, x161000_4, rfl, HA, HK4, HI160, HB⟩ := hrel
                        cases gk with
                        | zero => exact absurd HA.out (by simp [ropewaylaw19_NetFull.l1])
                        | succ k4 =>
                          have H := HA.out
                          clear HA
                          simp only [ropewaylaw19_NetFull.l1] at H
                          obtain ⟨ji33, hji33⟩ : ∃ j_ : Int, (mn a0 40) = j_ := ⟨_, rfl⟩
                          replace H : (if x5_4 < (ji33) then ((net_Net_Take.f x161000_4 0).bind fun bt170 => (if bt170.2.1 = true then (if 0 < (bt170.1.length : Int) then (if (rd bt170.1 0) = ((x5_4) % 256) then (if 1 < (bt170.1.length : Int) then (if (rd bt170.1 1) = ((wrap64 (Int.tdiv x5_4 256)) % 256) then (ropewaylaw19_NetFull.l1 k4 a0 (wrap64 (x5_4 + 1)) bt170.2.2) else (some false)) else (none)) else (some false)) else (none)) else (some false))) else (some true)) = some r := by first | (rw [hji33] at H; exact H) | (simp only [hji33] at H ⊢; exact H)
                          have hji33_ : (if 40 < a0 then 40 else a0) = ji33 := hji33
                          by_cases c34 : x5_4 < (ji33)
                          · rw [if_pos c34] at H
                            have c34b0 : decide (x5_4 < (ji33)) = true := decide_eq_true c34
                            clear c34
                            replace H := Option.bind_eq_some_iff.mp H
                            obtain ⟨⟨t170, t173, t174⟩, A350, H⟩ := H
                            replace H : (if t173 = true then (if 0 < (t170.length : Int) then (if (rd t170 0) = ((x5_4) % 256) then (if 1 < (t170.length : Int) then (if (rd t170 1) = ((wrap64 (Int.tdiv x5_4 256)) % 256) then (ropewaylaw19_NetFull.l1 k4 a0 (wrap64 (x5_4 + 1)) t174) else (some false)) else (none)) else (some false)) else (none)) else (some false)) = some r := H
                            have A35 := Aside0.mk A350
                            clear A350
                            by_cases c36 : t173 = true
                            · subst c36
                              have H1 : (if 0 < (t170.length : Int) then (if (rd t170 0) = ((x5_4) % 256) then (if 1 < (t170.length : Int) then (if (rd t170 1) = ((wrap64 (Int.tdiv x5_4 256)) % 256) then (ropewaylaw19_NetFull.l1 k4 a0 (wrap64 (x5_4 + 1)) t174) else (some false)) else (none)) else (some false)) else (none)) = some r := by rw [if_pos rfl] at H; exact H
                              clear H
                              have H := H1
                              clear H1
                              by_cases c37 : 0 < (t170.length : Int)
                              · rw [if_pos c37] at H
                                have c37b0 : decide (0 < (t170.length : Int)) = true := decide_eq_true c37
                                have c37b1 : decide (0 < t170.length) = true := decide_eq_true (by omega)
                                clear c37
                                by_cases c38 : (rd t170 0) = ((x5_4) % 256)
                                · rw [if_pos c38] at H
                                  have c38b0 : ((rd t170 0) == ((x5_4) % 256)) = true := beq_iff_eq.mpr c38
                                  have c38b1 : ((rd t170 0) != ((x5_4) % 256)) = false := bne_eq_false_iff_eq.mpr c38
                                  clear c38
                                  by_cases c39 : 1 < (t170.length : Int)
                                  · rw [if_pos c39] at H
                                    have c39b0 : decide (1 < (t170.length : Int)) = true := decide_eq_true c39
                                    have c39b1 : decide (1 < t170.length) = true := decide_eq_true (by omega)
                                    clear c39
                                    by_cases c40 : (rd t170 1) = ((wrap64 (Int.tdiv x5_4 256)) % 256)
                                    · rw [if_pos c40] at H
                                      have c40b0 : ((rd t170 1) == ((wrap64 (Int.tdiv x5_4 256)) % 256)) = true := beq_iff_eq.mpr c40
                                      have c40b1 : ((rd t170 1) != ((wrap64 (Int.tdiv x5_4 256)) % 256)) = false := bne_eq_false_iff_eq.mpr c40
                                      clear c40
                                      have H' := Aside0.mk H
                                      clear H
                                      go_wp2_with (first | ((with_reducible refine gate_callee (f := 32) rfl ?_); refine goesL_ (some 57) rfl rfl Try.func32 (by kernel_rfl) rfl #[.pointer (some ⟨g160, 0, none⟩), .int .i64 0] rfl (by (try simp only [List.map_toArray, List.map_cons, List.map_nil]); first | done | rfl | (simp only [List.length_drop, List.length_take]; rfl)) ?_; (with_reducible refine (net_Net_Take.calls g160 x161000_4 0 t170 true t174 w _ ?side1 ?side2 A35.out).mono ?_); (case side1 => repeat (first | (with_reducible first | exact HI160.out | apply IsS70.alloc | apply IsS70.drewN | apply IsS70.drew) | exact HI160.out)); (case side2 => repeat (first | (with_reducible first | exact HB.out | apply below_alloc | apply pw_below_drewN | apply below_drew1 | refine below_set ?_ (IsS70.ge HI160.out)) | exact HB.out)); rintro e w41 ⟨v171, rfl, ho0, hi, hb, hk⟩; refine ⟨_, rfl, ?_⟩; have n0_ := Aside0.mk (Kd.R_lower ho0 (below_size (by repeat (first | (with_reducible first | exact HB.out | apply below_alloc | apply pw_below_drewN | apply below_drew1 | refine below_set ?_ (IsS70.ge HI160.out)) | exact HB.out)))); have n1_ := Aside0.mk (hb); have n2_ := Aside0.mk (hi); clear HB; clear HI160; have HO172 := n0_; have HB := n1_; have HI160 := n2_; clear n0_ n1_ n2_; (try clear hb); (try clear hb2); (try clear hk); (try clear hi); (try clear ho0); obtain ⟨Ao42, co42, eo42⟩ := Kd.R_slice HO172.out; subst eo42; have p175 : 0 ≤ (0 : Int) := (by omega); have q175 : 0 < (t170.length : Int) := of_decide_eq_true (by first | (with_reducible assumption) | assumption); obtain ⟨ad175, e175, hx175_0⟩ := Kd.at_int (Kd.R_reads' HO172.out).2.2 0 p175 q175; cases e175; have qi175 : (0 < t170.length) = True := eq_true (by omega); (try rw [show ((0 : Int)).toNat = 0 from rfl] at hx175_0); (try rw [Addr.add_zero'] at hx175_0); replace p175 := eq_true p175; replace q175 := eq_true q175; have p176 : 0 ≤ (1 : Int) := (by omega); have q176 : 1 < (t170.length : Int) := of_decide_eq_true (by first | (with_reducible assumption) | assumption); obtain ⟨ad176, e176, hx176_0⟩ := Kd.at_int (Kd.R_reads' HO172.out).2.2 1 p176 q176; obtain rfl : ad175 = ad176 := (by injection e176); (try simp only [show (1 : Int).toNat = 1 from rfl, Nat.reduceMul, Nat.reduceEqDiff, Go.Addr.add, ↓reduceIte] at hx176_0); have qi176 : (1 < t170.length) = True := eq_true (by omega); (try rw [show ((1 : Int)).toNat = 1 from rfl] at hx176_0); replace p176 := eq_true p176; replace q176 := eq_true q176))
                                      go_roundg k4
                                      case measure => have := HJ3.out; have := HK2.out; have := HJ20.out; have := HK4.out; omega
                                      case rel => exact ⟨(wrap64 (x5_4 + 1)), (t174), (by first | rfl | (simp; done) | (simp [*]; done)), H', ⟨by have := HJ3.out; have := HK2.out; have := HJ20.out; have := HK4.out; omega⟩, ⟨by repeat (first | (with_reducible first | exact HI160.out | apply IsS70.alloc | apply IsS70.drewN | apply IsS70.drew) | exact HI160.out)⟩, ⟨by repeat (first | (with_reducible first | exact HB.out | apply below_alloc | apply pw_below_drewN | apply below_drew1 | refine below_set ?_ (IsS70.ge HI160.out)) | exact HB.out)⟩⟩
                                    · rw [if_neg c40] at H
                                      have c40b0 : ((rd t170 1) == ((wrap64 (Int.tdiv x5_4 256)) % 256)) = false := beq_eq_false_iff_ne.mpr c40
                                      have c40b1 : ((rd t170 1) != ((wrap64 (Int.tdiv x5_4 256)) % 256)) = true := bne_iff_ne.mpr c40
                                      obtain rfl := Option.some.inj H
                                      go_wp2_with (first | ((with_reducible refine gate_callee (f := 32) rfl ?_); refine goesL_ (some 57) rfl rfl Try.func32 (by kernel_rfl) rfl #[.pointer (some ⟨g160, 0, none⟩), .int .i64 0] rfl (by (try simp only [List.map_toArray, List.map_cons, List.map_nil]); first | done | rfl | (simp only [List.length_drop, List.length_take]; rfl)) ?_; (with_reducible refine (net_Net_Take.calls g160 x161000_4 0 t170 true t174 w _ ?side1 ?side2 A35.out).mono ?_); (case side1 => repeat (first | (with_reducible first | exact HI160.out | apply IsS70.alloc | apply IsS70.drewN | apply IsS70.drew) | exact HI160.out)); (case side2 => repeat (first | (with_reducible first | exact HB.out | apply below_alloc | apply pw_below_drewN | apply below_drew1 | refine below_set ?_ (IsS70.ge HI160.out)) | exact HB.out)); rintro e w43 ⟨v171, rfl, ho0, hi, hb, hk⟩; refine ⟨_, rfl, ?_⟩; have n0_ := Aside0.mk (Kd.R_lower ho0 (below_size (by repeat (first | (with_reducible first | exact HB.out | apply below_alloc | apply pw_below_drewN | apply below_drew1 | refine below_set ?_ (IsS70.ge HI160.out)) | exact HB.out)))); have n1_ := Aside0.mk (hb); have n2_ := Aside0.mk (hi); clear HB; clear HI160; have HO172 := n0_; have HB := n1_; have HI160 := n2_; clear n0_ n1_ n2_; (try clear hb); (try clear hb2); (try clear hk); (try clear hi); (try clear ho0); obtain ⟨Ao44, co44, eo44⟩ := Kd.R_slice HO172.out; subst eo44; have p175 : 0 ≤ (0 : Int) := (by omega); have q175 : 0 < (t170.length : Int) := of_decide_eq_true (by first | (with_reducible assumption) | assumption); obtain ⟨ad175, e175, hx175_0⟩ := Kd.at_int (Kd.R_reads' HO172.out).2.2 0 p175 q175; cases e175; have qi175 : (0 < t170.length) = True := eq_true (by omega); (try rw [show ((0 : Int)).toNat = 0 from rfl] at hx175_0); (try rw [Addr.add_zero'] at hx175_0); replace p175 := eq_true p175; replace q175 := eq_true q175; have p176 : 0 ≤ (1 : Int) := (by omega); have q176 : 1 < (t170.length : Int) := of_decide_eq_true (by first | (with_reducible assumption) | assumption); obtain ⟨ad176, e176, hx176_0⟩ := Kd.at_int (Kd.R_reads' HO172.out).2.2 1 p176 q176; obtain rfl : ad175 = ad176 := (by injection e176); (try simp only [show (1 : Int).toNat = 1 from rfl, Nat.reduceMul, Nat.reduceEqDiff, Go.Addr.add, ↓reduceIte] at hx176_0); have qi176 : (1 < t170.length) = True := eq_true (by omega); (try rw [show ((1 : Int)).toNat = 1 from rfl] at hx176_0); replace p176 := eq_true p176; replace q176 := eq_true q176))
                                      go_ret
                                      exact ⟨by first | rfl | (simp [errW_none, errW_some] <;> rfl) | (simp only [← hji33]; first | rfl | (simp [errW_none, errW_some] <;> rfl)) | (simp [*, errW_none, errW_some] <;> rfl), by repeat (first | (with_reducible first | exact HB.out | apply below_alloc | apply pw_below_drewN | apply below_drew1 | refine below_set ?_ (IsS70.ge HI160.out)) | exact HB.out)⟩
                                  · rw [if_neg c39] at H
                                    exact absurd H (by simp)
                                · rw [if_neg c38] at H
                                  have c38b0 : ((rd t170 0) == ((x5_4) % 256)) = false := beq_eq_false_iff_ne.mpr c38
                                  have c38b1 : ((rd t170 0) != ((x5_4) % 256)) = true := bne_iff_ne.mpr c38
                                  obtain rfl := Option.some.inj H
                                  go_wp2_with (first | ((with_reducible refine gate_callee (f := 32) rfl ?_); refine goesL_ (some 57) rfl rfl Try.func32 (by kernel_rfl) rfl #[.pointer (some ⟨g160, 0, none⟩), .int .i64 0] rfl (by (try simp only [List.map_toArray, List.map_cons, List.map_nil]); first | done | rfl | (simp only [List.length_drop, List.length_take]; rfl)) ?_; (with_reducible refine (net_Net_Take.calls g160 x161000_4 0 t170 true t174 w _ ?side1 ?side2 A35.out).mono ?_); (case side1 => repeat (first | (with_reducible first | exact HI160.out | apply IsS70.alloc | apply IsS70.drewN | apply IsS70.drew) | exact HI160.out)); (case side2 => repeat (first | (with_reducible first | exact HB.out | apply below_alloc | apply pw_below_drewN | apply below_drew1 | refine below_set ?_ (IsS70.ge HI160.out)) | exact HB.out)); rintro e w45 ⟨v171, rfl, ho0, hi, hb, hk⟩; refine ⟨_, rfl, ?_⟩; have n0_ := Aside0.mk (Kd.R_lower ho0 (below_size (by repeat (first | (with_reducible first | exact HB.out | apply below_alloc | apply pw_below_drewN | apply below_drew1 | refine below_set ?_ (IsS70.ge HI160.out)) | exact HB.out)))); have n1_ := Aside0.mk (hb); have n2_ := Aside0.mk (hi); clear HB; clear HI160; have HO172 := n0_; have HB := n1_; have HI160 := n2_; clear n0_ n1_ n2_; (try clear hb); (try clear hb2); (try clear hk); (try clear hi); (try clear ho0); obtain ⟨Ao46, co46, eo46⟩ := Kd.R_slice HO172.out; subst eo46; have p175 : 0 ≤ (0 : Int) := (by omega); have q175 : 0 < (t170.length : Int) := of_decide_eq_true (by first | (with_reducible assumption) | assumption); obtain ⟨ad175, e175, hx175_0⟩ := Kd.at_int (Kd.R_reads' HO172.out).2.2 0 p175 q175; cases e175; have qi175 : (0 < t170.length) = True := eq_true (by omega); (try rw [show ((0 : Int)).toNat = 0 from rfl] at hx175_0); (try rw [Addr.add_zero'] at hx175_0); replace p175 := eq_true p175; replace q175 := eq_true q175))
                                  go_ret
                                  exact ⟨by first | rfl | (simp [errW_none, errW_some] <;> rfl) | (simp only [← hji33]; first | rfl | (simp [errW_none, errW_some] <;> rfl)) | (simp [*, errW_none, errW_some] <;> rfl), by repeat (first | (with_reducible first | exact HB.out | apply below_alloc | apply pw_below_drewN | apply below_drew1 | refine below_set ?_ (IsS70.ge HI160.out)) | exact HB.out)⟩
                              · rw [if_neg c37] at H
                                exact absurd H (by simp)
                            · replace c36 := Bool.eq_false_iff.mpr c36
                              subst c36
                              have H1 : (some false) = some r := by rw [if_neg (show ¬ (false = true) by decide)] at H; exact H
                              clear H
                              have H := H1
                              clear H1
                              obtain rfl := Option.some.inj H
                              go_wp2_with (first | ((with_reducible refine gate_callee (f := 32) rfl ?_); refine goesL_ (some 57) rfl rfl Try.func32 (by kernel_rfl) rfl #[.pointer (some ⟨g160, 0, none⟩), .int .i64 0] rfl (by (try simp only [List.map_toArray, List.map_cons, List.map_nil]); first | done | rfl | (simp only [List.length_drop, List.length_take]; rfl)) ?_; (with_reducible refine (net_Net_Take.calls g160 x161000_4 0 t170 false t174 w _ ?side1 ?side2 A35.out).mono ?_); (case side1 => repeat (first | (with_reducible first | exact HI160.out | apply IsS70.alloc | apply IsS70.drewN | apply IsS70.drew) | exact HI160.out)); (case side2 => repeat (first | (with_reducible first | exact HB.out | apply below_alloc | apply pw_below_drewN | apply below_drew1 | refine below_set ?_ (IsS70.ge HI160.out)) | exact HB.out)); rintro e w47 ⟨v171, rfl, ho0, hi, hb, hk⟩; refine ⟨_, rfl, ?_⟩; have n0_ := Aside0.mk (Kd.R_lower ho0 (below_size (by repeat (first | (with_reducible first | exact HB.out | apply below_alloc | apply pw_below_drewN | apply below_drew1 | refine below_set ?_ (IsS70.ge HI160.out)) | exact HB.out)))); have n1_ := Aside0.mk (hb); have n2_ := Aside0.mk (hi); clear HB; clear HI160; have HO172 := n0_; have HB := n1_; have HI160 := n2_; clear n0_ n1_ n2_; (try clear hb); (try clear hb2); (try clear hk); (try clear hi); (try clear ho0)))
                              go_ret
                              exact ⟨by first | rfl | (simp [errW_none, errW_some] <;> rfl) | (simp only [← hji33]; first | rfl | (simp [errW_none, errW_some] <;> rfl)) | (simp [*, errW_none, errW_some] <;> rfl), by repeat (first | (with_reducible first | exact HB.out | apply below_alloc | apply pw_below_drewN | apply below_drew1 | refine below_set ?_ (IsS70.ge HI160.out)) | exact HB.out)⟩
                          · rw [if_neg c34] at H
                            have c34b0 : decide (x5_4 < (ji33)) = false := decide_eq_false c34
                            clear c34
                            obtain rfl := Option.some.inj H
                            go_wp2
                            go_ret
                            exact ⟨by first | rfl | (simp [errW_none, errW_some] <;> rfl) | (simp only [← hji33]; first | rfl | (simp [errW_none, errW_some] <;> rfl)) | (simp [*, errW_none, errW_some] <;> rfl), by repeat (first | (with_reducible first | exact HB.out | apply below_alloc | apply pw_below_drewN | apply below_drew1 | refine below_set ?_ (IsS70.ge HI160.out)) | exact HB.out)⟩
  · replace c3 := Bool.eq_false_iff.mpr c3
    subst c3
    have H1 : (some false) = some r := by rw [if_neg (show ¬ (false = true) by decide)] at H; exact H
    clear H
    have H := H1
    clear H1
    obtain rfl := Option.some.inj H
    go_enter Try.func12, Try.ntmps12
    go_wp2_with (first | ((with_reducible refine gate_callee (f := 26) rfl ?_); refine goesL_ (some 8) rfl rfl Try.func26 (by kernel_rfl) rfl #[] rfl (by (try simp only [List.map_toArray, List.map_cons, List.map_nil]); first | done | rfl | (simp only [List.length_drop, List.length_take]; rfl)) ?_; (with_reducible refine (ropewaylaw19_netAlive.calls k  false _ A2.out).mono ?_); rintro e w48 ⟨rfl, hb⟩; refine ⟨_, rfl, ?_⟩; have n0_ := Aside0.mk (below_step (by repeat (first | (with_reducible first | exact HB.out | apply below_alloc | apply pw_below_drewN | apply below_drew1) | exact HB.out)) hb); clear HB; have HB := n0_; clear n0_; (try clear hb); (try clear hb2); (try clear hk); (try clear hi)))
    go_ret
    exact ⟨by first | rfl | (simp [errW_none, errW_some] <;> rfl) | (simp [*, errW_none, errW_some] <;> rfl), by repeat (first | (with_reducible first | exact HB.out | apply below_alloc | apply pw_below_drewN | apply below_drew1) | exact HB.out)⟩

/-- THE ONE PURE STATEMENT of ropewaylaw19_NetFull: yours. -/
def ropewaylaw19_NetFull.Pure : Prop := ∀ (a0 : Int), (Lit.int .i64 a0).wf = true → ∃ k, ropewaylaw19_NetFull.f k a0 = some true
theorem ropewaylaw19_NetFull.walk (P : ropewaylaw19_NetFull.Pure) (a0 : Int) (w : World) (w0 : (Lit.int .i64 a0).wf = true) :
    Calls Try.prog 12 #[.int .i64 a0] w fun e w' => e = .returned (.bool true) ∧ Below w.heap.size w w' := by
  obtain ⟨k, h⟩ := P a0 w0
  refine (ropewaylaw19_NetFull.calls k a0 true w h).mono ?_
  rintro e w' ⟨rfl, hd⟩
  exact ⟨rfl, hd⟩

-- NOT PRINTED: function 13 (ropewaylaw19_NetOrder)

end Go.Proofs.Ytjcpamclggbbdaa.PNgt
