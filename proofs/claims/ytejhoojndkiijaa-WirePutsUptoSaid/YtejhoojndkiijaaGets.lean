/- The reference's Cut, whose two results share one row: by hand. Then the statement WireGets' function, as printed, over it. -/
import Derived.Test.YtejhoojndkiijaaPAllx6
namespace Go.Proofs.Ytejhoojndkiijaa.PAll
open Go.RowKit Go.Proofs.YtejhoojndkiijaaW.PrintWords Go.Proofs.YtejhoojndkiijaaW.PrintLast Go.Proofs.YtejhoojndkiijaaW.PrintMore
set_option linter.unusedVariables false
set_option linter.unusedSimpArgs false
attribute [local go_sem] max2_int min2_int max_two min_two max_three min_three max_four min_four   -- for this text's walks alone
theorem shared_string {P : Program} {w : World} {src dst e : TypeId} {v : Value} {xs : List Int} (hs : P.underlying src = some (.slice e)) (he : P.underlying e = some (.int .u8)) (hd : P.underlying dst = some .string)
    (h : ∃ A c, v = .slice A xs.length c ∧ Kd.C (Kd.int .u8) w A xs.length xs) : (convert src dst v).run P w = .ok (.string (strOfNums xs)) w := by
  obtain ⟨A, c, rfl, hc⟩ := h
  exact Kd.C_string (P := P) (A := A) (c := c) hs he hd hc
/-! ### ropewayref02_Cut: function 21 -/
def ropewayref02_Cut.f (k : Nat) (l0 : List Int) : Option (List Int × List Int × Int) := (ropewayref02_Get.f k l0).bind fun bt => if 0 ≤ bt.1 then (if bt.2.2 = 0 ∧ bt.1 ≤ 4000 ∧ bt.1 ≤ (bt.2.1.length : Int) then some (bt.2.1.take bt.1.toNat, bt.2.1.drop bt.1.toNat, 0) else some ([], [], 21)) else none
theorem ropewayref02_Cut.mono : ∀ a0 k, LeO (ropewayref02_Cut.f k a0) (ropewayref02_Cut.f (k + 1) a0) := by
  intro a0 k
  unfold ropewayref02_Cut.f
  exact LeO.bind (ropewayref02_Get.mono _ _) (fun _ => LeO.refl _)
set_option maxHeartbeats 8000000 in
set_option maxRecDepth 100000 in
theorem ropewayref02_Cut.calls (k : Nat) (A0 : Option Addr) (c0 : Nat) (l0 : List Int) (r1 : List Int) (r2 : List Int) (r3 : Int) (w : World) (hr0 : Kd.C (Kd.int .u8) w A0 l0.length l0) (hc0 : l0.length ≤ c0) (h : ropewayref02_Cut.f k l0 = some (r1, r2, r3)) :
    Calls Try.prog 21 #[.slice A0 l0.length c0] w fun e w' => ∃ v0_ v1_ : Value, e = .returned (.tuple #[v0_, v1_, .int .i64 r3]) ∧ (∃ A c, v0_ = .slice A r1.length c ∧ Kd.C (Kd.int .u8) w' A r1.length r1) ∧ (∃ A c, v1_ = .slice A r2.length c ∧ Kd.C (Kd.int .u8) w' A r2.length r2) ∧ Below w.heap.size w w' := by
  have HR0 := Aside0.mk hr0
  have HC0 := Aside0.mk hc0
  clear hr0 hc0
  unfold ropewayref02_Cut.f at h
  replace h := Option.bind_eq_some_iff.mp h
  obtain ⟨⟨n, rest, er⟩, hg, h⟩ := h
  have A2 := Aside0.mk hg
  clear hg
  simp only at h
  by_cases h0 : 0 ≤ n
  · rw [if_pos h0] at h
    by_cases he : er = 0
    · subst er
      by_cases h4 : n ≤ 4000
      · by_cases hl : n ≤ (rest.length : Int)
        · rw [if_pos ⟨rfl, h4, hl⟩] at h
          simp only [Option.some.injEq, Prod.mk.injEq] at h
          obtain ⟨rfl, rfl, rfl⟩ := h
          have c4 : decide (4000 < n) = false := decide_eq_false (by omega)
          have cl : decide ((rest.length : Int) < n) = false := decide_eq_false (by omega)
          have HL := Aside0.mk hl
          clear hl
          go_enter Try.func21, Try.ntmps21
          go_upto_region 4 with ((with_reducible refine gate_callee (f := 17) rfl ?_); refine goesL_ (some 10) rfl rfl Try.func17 (by kernel_rfl) rfl #[.slice A0 l0.length c0] rfl (by (try simp only [List.map_toArray, List.map_cons, List.map_nil]); first | done | rfl) ?_; (with_reducible refine (ropewayref02_Get.calls k _ _ l0 n rest 0 _ HR0.out HC0.out A2.out).mono ?_); rintro e w1 ⟨v0, rfl, ho, hb⟩; refine ⟨_, rfl, ?_⟩; have HO := Aside0.mk ho; have HB := Aside0.mk hb; clear ho hb; obtain ⟨Ao, co, eo⟩ := Kd.R_slice HO.out; subst eo)
          obtain ⟨i0, hi0, _, hsz0, _⟩ := info_parts info5
          have hro := (Kd.R_reads' HO.out).2.1
          have ct := cut_to (P := Try.prog) 23 5 .u64 Try.underlying23 hi0 Ao rest.length co n h0 HL.out hro
          have cf := cut_from (P := Try.prog) 23 5 .u64 Try.underlying23 hi0 1 hsz0 Ao rest.length co n h0 HL.out
          have HQ1 := Aside0.mk (Kd.Q_take (Kd.Q_of_R HO.out) (m := n.toNat) (by have := HL.out; omega))
          have HQ2 := Aside0.mk (Kd.Q_drop (Kd.Q_of_R HO.out) (k := n.toNat) (by have := HL.out; omega))
          obtain ⟨A2', hA2⟩ : ∃ A : Option Addr, (if co = n.toNat then Ao else Ao.map (·.add (n.toNat * 1))) = A := ⟨_, rfl⟩
          obtain ⟨c2', hc2⟩ : ∃ c : Nat, co - n.toNat = c := ⟨_, rfl⟩
          obtain ⟨m2', hm2⟩ : ∃ c : Nat, rest.length - n.toNat = c := ⟨_, rfl⟩
          rw [hA2, hc2, hm2] at cf
          have E1 := Aside0.mk hA2
          have E2 := Aside0.mk hc2
          have E3 := Aside0.mk hm2
          clear hA2 hc2 hm2 hi0 hsz0 hro h0 h4
          go_quiet (fail)
          go_wp2
          go_ret3
          refine ⟨.slice Ao n.toNat co, .slice A2' m2' c2', rfl, ?_, ?_, ?_⟩
          · obtain ⟨A, c, e, _, hc⟩ := Kd.Q_reads (Kd.Q_drewN HQ1.out nq)
            exact ⟨A, c, e, hc⟩
          · obtain ⟨A, c, e, _, hc⟩ := Kd.Q_reads (Kd.Q_drewN HQ2.out nq)
            rw [← E1.out, ← E2.out, ← E3.out]
            exact ⟨A, c, e, hc⟩
          · exact pw_below_drewN HB.out _
        · rw [if_neg (fun hh => by omega)] at h
          simp only [Option.some.injEq, Prod.mk.injEq] at h
          obtain ⟨rfl, rfl, rfl⟩ := h
          have c4 : decide (4000 < n) = false := decide_eq_false (by omega)
          have cl : decide ((rest.length : Int) < n) = true := decide_eq_true (by omega)
          clear hl
          go_enter Try.func21, Try.ntmps21
          go_wp2_with ((with_reducible refine gate_callee (f := 17) rfl ?_); refine goesL_ (some 10) rfl rfl Try.func17 (by kernel_rfl) rfl #[.slice A0 l0.length c0] rfl (by (try simp only [List.map_toArray, List.map_cons, List.map_nil]); first | done | rfl) ?_; (with_reducible refine (ropewayref02_Get.calls k _ _ l0 n rest 0 _ HR0.out HC0.out A2.out).mono ?_); rintro e w1 ⟨v0, rfl, ho, hb⟩; refine ⟨_, rfl, ?_⟩; have HO := Aside0.mk ho; have HB := Aside0.mk hb; clear ho hb; obtain ⟨Ao, co, eo⟩ := Kd.R_slice HO.out; subst eo)
          go_ret3
          exact ⟨_, _, rfl, ⟨_, _, rfl, Kd.C_nil _ _⟩, ⟨_, _, rfl, Kd.C_nil _ _⟩, HB.out⟩
      · rw [if_neg (fun hh => by omega)] at h
        simp only [Option.some.injEq, Prod.mk.injEq] at h
        obtain ⟨rfl, rfl, rfl⟩ := h
        have c4 : decide (4000 < n) = true := decide_eq_true (by omega)
        clear h4 h0
        go_enter Try.func21, Try.ntmps21
        go_wp2_with ((with_reducible refine gate_callee (f := 17) rfl ?_); refine goesL_ (some 10) rfl rfl Try.func17 (by kernel_rfl) rfl #[.slice A0 l0.length c0] rfl (by (try simp only [List.map_toArray, List.map_cons, List.map_nil]); first | done | rfl) ?_; (with_reducible refine (ropewayref02_Get.calls k _ _ l0 n rest 0 _ HR0.out HC0.out A2.out).mono ?_); rintro e w1 ⟨v0, rfl, ho, hb⟩; refine ⟨_, rfl, ?_⟩; have HO := Aside0.mk ho; have HB := Aside0.mk hb; clear ho hb; obtain ⟨Ao, co, eo⟩ := Kd.R_slice HO.out; subst eo)
        go_ret3
        exact ⟨_, _, rfl, ⟨_, _, rfl, Kd.C_nil _ _⟩, ⟨_, _, rfl, Kd.C_nil _ _⟩, HB.out⟩
    · rw [if_neg (fun hh => he hh.1)] at h
      simp only [Option.some.injEq, Prod.mk.injEq] at h
      obtain ⟨rfl, rfl, rfl⟩ := h
      have ce : (er != 0) = true := bne_iff_ne.mpr he
      have ce2 : (er == 0) = false := beq_eq_false_iff_ne.mpr he
      clear he h0
      go_enter Try.func21, Try.ntmps21
      go_wp2_with ((with_reducible refine gate_callee (f := 17) rfl ?_); refine goesL_ (some 10) rfl rfl Try.func17 (by kernel_rfl) rfl #[.slice A0 l0.length c0] rfl (by (try simp only [List.map_toArray, List.map_cons, List.map_nil]); first | done | rfl) ?_; (with_reducible refine (ropewayref02_Get.calls k _ _ l0 n rest er _ HR0.out HC0.out A2.out).mono ?_); rintro e w1 ⟨v0, rfl, ho, hb⟩; refine ⟨_, rfl, ?_⟩; have HO := Aside0.mk ho; have HB := Aside0.mk hb; clear ho hb; obtain ⟨Ao, co, eo⟩ := Kd.R_slice HO.out; subst eo)
      go_ret3
      exact ⟨_, _, rfl, ⟨_, _, rfl, Kd.C_nil _ _⟩, ⟨_, _, rfl, Kd.C_nil _ _⟩, HB.out⟩
  · rw [if_neg h0] at h
    cases h
/-! ### ropewaylaw02_WireGets: function 8 -/
mutual
def ropewaylaw02_WireGets.j0 : Nat → List Int → Int → Bool → Option (Bool)
  | 0, _, _, _ => none
  | k + 1, x0, x1, x45 => if x45 = true then (some false) else ((some (([] : List Int) : List Int)).bind fun y442 => (if y442.length + x0.length < 140737488355328 then ((wire_Gets.f k (y442 ++ x0) x1).bind fun bt448 => ((ropewayref02_Gets.f k x0 x1).bind fun bt455 => ((ropewayref02_SameNums.f k bt448.1 bt455.1).bind fun t462 => (if t462 = true then (if (strOfNums bt448.2.1).toList = (strOfNums bt455.2.1).toList then (ropewaylaw02_WireGets.j1 k x0 (bt448.2.2 != bt455.2.2)) else (ropewaylaw02_WireGets.j1 k x0 true)) else (ropewaylaw02_WireGets.j1 k x0 true))))) else (none)))
def ropewaylaw02_WireGets.j1 : Nat → List Int → Bool → Option (Bool)
  | 0, _, _ => none
  | k + 1, x0, x77 => if x77 = true then (some false) else ((some (([] : List Int) : List Int)).bind fun y463 => (if y463.length + x0.length < 140737488355328 then ((wire_Cut.f k (y463 ++ x0)).bind fun bt469 => ((ropewayref02_Cut.f k x0).bind fun bt476 => (if (strOfNums bt469.1).toList = (strOfNums bt476.1).toList then (if (strOfNums bt469.2.1).toList = (strOfNums bt476.2.1).toList then (some (bt469.2.2 == bt476.2.2)) else (some false)) else (some false)))) else (none)))
end
def ropewaylaw02_WireGets.f (k : Nat) (l0 : List Int) (a1 : Int) : Option (Bool) := (ropewaylaw02_wireAlive.f k).bind fun t425 => (if t425 = true then ((some (([] : List Int) : List Int)).bind fun y426 => (if y426.length + l0.length < 140737488355328 then ((wire_Get.f k (y426 ++ l0)).bind fun bt432 => ((ropewayref02_Get.f k l0).bind fun bt437 => (if bt432.1 = bt437.1 then (if (strOfNums bt432.2.1).toList = (strOfNums bt437.2.1).toList then (ropewaylaw02_WireGets.j0 k l0 a1 (bt432.2.2 != bt437.2.2)) else (ropewaylaw02_WireGets.j0 k l0 a1 true)) else (ropewaylaw02_WireGets.j0 k l0 a1 true)))) else (none))) else (some false))
theorem ropewaylaw02_WireGets.mono_l : ∀ k, (∀ y0 y1 y2, LeO (ropewaylaw02_WireGets.j0 k y0 y1 y2) (ropewaylaw02_WireGets.j0 (k + 1) y0 y1 y2)) ∧ (∀ y0 y1, LeO (ropewaylaw02_WireGets.j1 k y0 y1) (ropewaylaw02_WireGets.j1 (k + 1) y0 y1))
  | 0 => ⟨fun _ _ _ r h => by simp [ropewaylaw02_WireGets.j0] at h, fun _ _ r h => by simp [ropewaylaw02_WireGets.j1] at h⟩
  | k + 1 => by
    obtain ⟨ih0, ih1⟩ := ropewaylaw02_WireGets.mono_l k
    refine ⟨?_, ?_⟩
    · intro y0 y1 y2
      unfold ropewaylaw02_WireGets.j0
      repeat' first
      | (with_reducible exact ih0 _ _ _)
      | (with_reducible exact ih1 _ _)
      | (with_reducible exact ropewaylaw02_wireAlive.mono _)
      | (with_reducible exact ropewayref02_Cut.mono _ _)
      | (with_reducible exact ropewayref02_Get.mono _ _)
      | (with_reducible exact ropewayref02_Gets.mono _ _ _)
      | (with_reducible exact ropewayref02_SameNums.mono _ _ _)
      | (with_reducible exact wire_Cut.mono _ _)
      | (with_reducible exact wire_Get.mono _ _)
      | (with_reducible exact wire_Gets.mono _ _ _)
      | (with_reducible exact LeO.refl _)
      | (with_reducible exact LeO.none _)
      | (with_reducible refine LeO.ite ?_ ?_)
      | (with_reducible refine LeO.bind ?_ (fun _ => ?_))
      | exact ih0 _ _ _
      | exact ih1 _ _
      | exact ropewaylaw02_wireAlive.mono _
      | exact ropewayref02_Cut.mono _ _
      | exact ropewayref02_Get.mono _ _
      | exact ropewayref02_Gets.mono _ _ _
      | exact ropewayref02_SameNums.mono _ _ _
      | exact wire_Cut.mono _ _
      | exact wire_Get.mono _ _
      | exact wire_Gets.mono _ _ _
      | exact LeO.none _
      | refine LeO.ite ?_ ?_
      | refine LeO.bind ?_ (fun _ => ?_)
    · intro y0 y1
      unfold ropewaylaw02_WireGets.j1
      repeat' first
      | (with_reducible exact ih0 _ _ _)
      | (with_reducible exact ih1 _ _)
      | (with_reducible exact ropewaylaw02_wireAlive.mono _)
      | (with_reducible exact ropewayref02_Cut.mono _ _)
      | (with_reducible exact ropewayref02_Get.mono _ _)
      | (with_reducible exact ropewayref02_Gets.mono _ _ _)
      | (with_reducible exact ropewayref02_SameNums.mono _ _ _)
      | (with_reducible exact wire_Cut.mono _ _)
      | (with_reducible exact wire_Get.mono _ _)
      | (with_reducible exact wire_Gets.mono _ _ _)
      | (with_reducible exact LeO.refl _)
      | (with_reducible exact LeO.none _)
      | (with_reducible refine LeO.ite ?_ ?_)
      | (with_reducible refine LeO.bind ?_ (fun _ => ?_))
      | exact ih0 _ _ _
      | exact ih1 _ _
      | exact ropewaylaw02_wireAlive.mono _
      | exact ropewayref02_Cut.mono _ _
      | exact ropewayref02_Get.mono _ _
      | exact ropewayref02_Gets.mono _ _ _
      | exact ropewayref02_SameNums.mono _ _ _
      | exact wire_Cut.mono _ _
      | exact wire_Get.mono _ _
      | exact wire_Gets.mono _ _ _
      | exact LeO.none _
      | refine LeO.ite ?_ ?_
      | refine LeO.bind ?_ (fun _ => ?_)
theorem ropewaylaw02_WireGets.mono : ∀ a0 a1 k, LeO (ropewaylaw02_WireGets.f k a0 a1) (ropewaylaw02_WireGets.f (k + 1) a0 a1) := by
  intro a0 a1 k
  obtain ⟨ih0, ih1⟩ := ropewaylaw02_WireGets.mono_l k
  unfold ropewaylaw02_WireGets.f
  repeat' first
      | (with_reducible exact ih0 _ _ _)
      | (with_reducible exact ih1 _ _)
      | (with_reducible exact ropewaylaw02_wireAlive.mono _)
      | (with_reducible exact ropewayref02_Cut.mono _ _)
      | (with_reducible exact ropewayref02_Get.mono _ _)
      | (with_reducible exact ropewayref02_Gets.mono _ _ _)
      | (with_reducible exact ropewayref02_SameNums.mono _ _ _)
      | (with_reducible exact wire_Cut.mono _ _)
      | (with_reducible exact wire_Get.mono _ _)
      | (with_reducible exact wire_Gets.mono _ _ _)
      | (with_reducible exact LeO.refl _)
      | (with_reducible exact LeO.none _)
      | (with_reducible refine LeO.ite ?_ ?_)
      | (with_reducible refine LeO.bind ?_ (fun _ => ?_))
      | exact ih0 _ _ _
      | exact ih1 _ _
      | exact ropewaylaw02_wireAlive.mono _
      | exact ropewayref02_Cut.mono _ _
      | exact ropewayref02_Get.mono _ _
      | exact ropewayref02_Gets.mono _ _ _
      | exact ropewayref02_SameNums.mono _ _ _
      | exact wire_Cut.mono _ _
      | exact wire_Get.mono _ _
      | exact wire_Gets.mono _ _ _
      | exact LeO.none _
      | refine LeO.ite ?_ ?_
      | refine LeO.bind ?_ (fun _ => ?_)
set_option maxHeartbeats 8000000 in
set_option maxRecDepth 100000 in
theorem ropewaylaw02_WireGets.calls (k : Nat) (A0 : Option Addr) (c0 : Nat) (l0 : List Int) (a1 : Int) (r : Bool) (w : World) (hr0 : Kd.C (Kd.int .u8) w A0 l0.length l0) (hc0 : l0.length ≤ c0) (h : ropewaylaw02_WireGets.f k l0 a1 = some r) :
    Calls Try.prog 8 #[.slice A0 l0.length c0, .int .i64 a1] w fun e w' => e = .returned (.bool r) ∧ Below w.heap.size w w' := by
  have HR0 := Aside0.mk hr0
  have HC0 := Aside0.mk hc0
  clear hr0 hc0
  have HB := Aside0.mk (Below.refl w.heap.size w)
  have H : ((ropewaylaw02_wireAlive.f k).bind fun t425 => (if t425 = true then ((some (([] : List Int) : List Int)).bind fun y426 => (if y426.length + l0.length < 140737488355328 then ((wire_Get.f k (y426 ++ l0)).bind fun bt432 => ((ropewayref02_Get.f k l0).bind fun bt437 => (if bt432.1 = bt437.1 then (if (strOfNums bt432.2.1).toList = (strOfNums bt437.2.1).toList then (ropewaylaw02_WireGets.j0 k l0 a1 (bt432.2.2 != bt437.2.2)) else (ropewaylaw02_WireGets.j0 k l0 a1 true)) else (ropewaylaw02_WireGets.j0 k l0 a1 true)))) else (none))) else (some false))) = some r := h
  clear h
  replace H := Option.bind_eq_some_iff.mp H
  obtain ⟨t425, A30, H⟩ := H
  replace H : (if t425 = true then ((some (([] : List Int) : List Int)).bind fun y426 => (if y426.length + l0.length < 140737488355328 then ((wire_Get.f k (y426 ++ l0)).bind fun bt432 => ((ropewayref02_Get.f k l0).bind fun bt437 => (if bt432.1 = bt437.1 then (if (strOfNums bt432.2.1).toList = (strOfNums bt437.2.1).toList then (ropewaylaw02_WireGets.j0 k l0 a1 (bt432.2.2 != bt437.2.2)) else (ropewaylaw02_WireGets.j0 k l0 a1 true)) else (ropewaylaw02_WireGets.j0 k l0 a1 true)))) else (none))) else (some false)) = some r := H
  have A3 := Aside0.mk A30
  clear A30
  by_cases c4 : t425 = true
  · subst c4
    have H1 : ((some (([] : List Int) : List Int)).bind fun y426 => (if y426.length + l0.length < 140737488355328 then ((wire_Get.f k (y426 ++ l0)).bind fun bt432 => ((ropewayref02_Get.f k l0).bind fun bt437 => (if bt432.1 = bt437.1 then (if (strOfNums bt432.2.1).toList = (strOfNums bt437.2.1).toList then (ropewaylaw02_WireGets.j0 k l0 a1 (bt432.2.2 != bt437.2.2)) else (ropewaylaw02_WireGets.j0 k l0 a1 true)) else (ropewaylaw02_WireGets.j0 k l0 a1 true)))) else (none))) = some r := by rw [if_pos rfl] at H; exact H
    clear H
    have H := H1
    clear H1
    obtain ⟨y426, hy426⟩ : ∃ y_ : List Int, y_ = (([] : List Int)) := ⟨_, rfl⟩
    replace H : (if y426.length + l0.length < 140737488355328 then ((wire_Get.f k (y426 ++ l0)).bind fun bt432 => ((ropewayref02_Get.f k l0).bind fun bt437 => (if bt432.1 = bt437.1 then (if (strOfNums bt432.2.1).toList = (strOfNums bt437.2.1).toList then (ropewaylaw02_WireGets.j0 k l0 a1 (bt432.2.2 != bt437.2.2)) else (ropewaylaw02_WireGets.j0 k l0 a1 true)) else (ropewaylaw02_WireGets.j0 k l0 a1 true)))) else (none)) = some r := by first | (rw [hy426]; with_reducible exact H) | (have H2_ := (Option.bind_some _ _).symm.trans H; rw [hy426]; with_reducible exact H2_) | (have H2_ := (Option.bind_some _ _).symm.trans H; with_reducible exact H2_) | with_reducible exact H | (rw [hy426]; exact H) | exact H
    have Ny426 := Aside0.mk hy426
    clear hy426
    by_cases c5 : y426.length + l0.length < 140737488355328
    · rw [if_pos c5] at H
      have LMc5 := Aside0.mk c5
      clear c5
      obtain ⟨y429, hy429⟩ : ∃ y_ : List Int, y_ = (y426 ++ l0) := ⟨_, rfl⟩
      replace H : ((wire_Get.f k y429).bind fun bt432 => ((ropewayref02_Get.f k l0).bind fun bt437 => (if bt432.1 = bt437.1 then (if (strOfNums bt432.2.1).toList = (strOfNums bt437.2.1).toList then (ropewaylaw02_WireGets.j0 k l0 a1 (bt432.2.2 != bt437.2.2)) else (ropewaylaw02_WireGets.j0 k l0 a1 true)) else (ropewaylaw02_WireGets.j0 k l0 a1 true)))) = some r := by first | (rw [hy429]; with_reducible exact H) | (have H2_ := (Option.bind_some _ _).symm.trans H; rw [hy429]; with_reducible exact H2_) | (have H2_ := (Option.bind_some _ _).symm.trans H; with_reducible exact H2_) | with_reducible exact H | (rw [hy429]; exact H) | exact H
      have Ny429 := Aside0.mk hy429
      clear hy429
      replace H := Option.bind_eq_some_iff.mp H
      obtain ⟨⟨t432, t433, t434⟩, A60, H⟩ := H
      replace H : ((ropewayref02_Get.f k l0).bind fun bt437 => (if t432 = bt437.1 then (if (strOfNums t433).toList = (strOfNums bt437.2.1).toList then (ropewaylaw02_WireGets.j0 k l0 a1 (t434 != bt437.2.2)) else (ropewaylaw02_WireGets.j0 k l0 a1 true)) else (ropewaylaw02_WireGets.j0 k l0 a1 true))) = some r := H
      have A6 := Aside0.mk A60
      clear A60
      replace H := Option.bind_eq_some_iff.mp H
      obtain ⟨⟨t437, t438, t439⟩, A70, H⟩ := H
      replace H : (if t432 = t437 then (if (strOfNums t433).toList = (strOfNums t438).toList then (ropewaylaw02_WireGets.j0 k l0 a1 (t434 != t439)) else (ropewaylaw02_WireGets.j0 k l0 a1 true)) else (ropewaylaw02_WireGets.j0 k l0 a1 true)) = some r := H
      have A7 := Aside0.mk A70
      clear A70
      have HC8 := Aside0.mk H
      clear H
      go_enter Try.func8, Try.ntmps8
      go_upto_region 5 with (first | ((with_reducible refine gate_callee (f := 11) rfl ?_); refine goesL_ (some 15) rfl rfl Try.func11 (by kernel_rfl) rfl #[] rfl (by (try simp only [List.map_toArray, List.map_cons, List.map_nil]); first | done | rfl | (simp only [List.length_drop, List.length_take]; rfl)) ?_; (with_reducible refine (ropewaylaw02_wireAlive.calls k  true _ A3.out).mono ?_); rintro e w9 ⟨rfl, hb⟩; refine ⟨_, rfl, ?_⟩; have n0_ := Aside0.mk (below_step (by repeat (first | (with_reducible first | exact HB.out | apply below_alloc | apply pw_below_drewN | apply below_drew1) | exact HB.out)) hb); clear HB; have HB := n0_; clear n0_; (try clear hb); (try clear hb2); (try clear hk); (try clear hi)) | ((with_reducible refine gate_dst (N := 18) rfl ?_); refine Kd.R_lit (Kd.int .u8) _ 5 ?hg (N := 18) ?hd (xs := ([] : List Int)) (inner := []) (ok := fun _ => True) (okp := fun _ => True) ?hr ?hp (fun _ hk => hk) trivial (Below.refl _ _) (Nat.le_refl _) (by simp) ?_; (case hd => rfl); (case hg => rfl); (case hr => first | (go_simp; done) | (go_simp; rfl)); (case hp => exact (Reps.none _ _)); intro v427 w10 ho11 hb hg_ hnew_; clear hg_ hnew_; (first | rw [← Ny426.out] at ho11 | (simp only [Int.reduceToNat] at ho11; rw [← Ny426.out] at ho11)); have n0_ := Aside0.mk (Kd.R_lower ho11 (below_size (by repeat (first | (with_reducible first | exact HB.out | apply below_alloc | apply pw_below_drewN | apply below_drew1) | exact HB.out)))); have n1_ := Aside0.mk (below_step (by repeat (first | (with_reducible first | exact HB.out | apply below_alloc | apply pw_below_drewN | apply below_drew1) | exact HB.out)) hb); clear HB; have HO428 := n0_; have HB := n1_; clear n0_ n1_; clear hb ho11) | ((with_reducible refine gate_builtin (b := .append) (xs := #[.tmp 18, .tmp 19]) rfl ?_); at_builtin; refine Kd.R_append_rows (Kd.int .u8) (w0 := w) w.heap.size rfl (.tmp 18) (.tmp 19) 23 5 (.int .u8 0) 1 rfl Try.underlying23 info5 rfl (by decide) (by omega) v427 y426 l0 _ _ _ (fun _ => True) (fun _ => False) rfl rfl ?aO ?aR (fun _ _ h => h) (fun _ h => h.elim) ?aF ?aB ?aS ?aL ?_; (case aR => repeat (first | exact (Kd.C_below HR0.out HB.out) | (with_reducible refine Kd.C_alloc ?_ _) | (with_reducible refine Kd.C_drewN ?_ _) | (with_reducible refine Kd.C_drew ?_))); (case aB => exact (by repeat (first | (with_reducible first | exact HB.out | apply below_alloc | apply pw_below_drewN | apply below_drew1) | exact HB.out))); (case aF => exact (fun _ _ => trivial)); (case aO => exact (by (with_reducible repeat (first | apply Kd.R_alloc | apply Kd.R_drewN | apply Kd.R_drew)); exact HO428.out)); (case aS => exact (below_size (by repeat (first | (with_reducible first | exact HB.out | apply below_alloc | apply pw_below_drewN | apply below_drew1) | exact HB.out)))); (case aL => have := LMc5.out; omega); intro v430 w12 ho hb hg hat; rw [← Ny429.out] at ho; have n0_ := Aside0.mk (hb); have n1_ := Aside0.mk (ho); clear HB; clear HO428; have HB := n0_; have HO431 := n1_; clear n0_ n1_; clear ho hb hg hat; obtain ⟨Ao13, co13, eo13⟩ := Kd.R_slice HO431.out; subst eo13) | ((with_reducible refine gate_callee (f := 10) rfl ?_); refine goesL_ (some 21) rfl rfl Try.func10 (by kernel_rfl) rfl #[.slice Ao13 y429.length co13] rfl (by (try simp only [List.map_toArray, List.map_cons, List.map_nil]); first | done | rfl | (simp only [List.length_drop, List.length_take]; rfl)) ?_; (with_reducible refine (wire_Get.calls k _ _ y429 t432 t433 t434 _ ?side1 ?side2 A6.out).mono ?_); (case side1 => repeat (first | exact (Kd.R_reads' HO431.out).2.2 | (with_reducible refine Kd.C_alloc ?_ _) | (with_reducible refine Kd.C_drewN ?_ _) | (with_reducible refine Kd.C_drew ?_))); (case side2 => exact (Kd.R_reads' HO431.out).2.1); rintro e w14 ⟨v435, rfl, ho0, hb⟩; refine ⟨_, rfl, ?_⟩; have n0_ := Aside0.mk (Kd.R_elder' (by (with_reducible repeat (first | apply Kd.R_alloc | apply Kd.R_drewN | apply Kd.R_drew)); exact HO431.out) (Kd.R_base ho0) hb); have n1_ := Aside0.mk (Kd.R_lower (Kd.R_new' ho0 (Kd.R_lt (by (with_reducible repeat (first | apply Kd.R_alloc | apply Kd.R_drewN | apply Kd.R_drew)); exact HO431.out))) (below_size (by repeat (first | (with_reducible first | exact HB.out | apply below_alloc | apply pw_below_drewN | apply below_drew1) | exact HB.out)))); have n2_ := Aside0.mk (below_step (by repeat (first | (with_reducible first | exact HB.out | apply below_alloc | apply pw_below_drewN | apply below_drew1) | exact HB.out)) hb); clear HO431; clear HB; have HO431 := n0_; have HO436 := n1_; have HB := n2_; clear n0_ n1_ n2_; (try clear hb); (try clear hb2); (try clear hk); (try clear hi); (try clear ho0)) | ((with_reducible refine gate_callee (f := 17) rfl ?_); refine goesL_ (some 27) rfl rfl Try.func17 (by kernel_rfl) rfl #[.slice A0 l0.length c0] rfl (by (try simp only [List.map_toArray, List.map_cons, List.map_nil]); first | done | rfl | (simp only [List.length_drop, List.length_take]; rfl)) ?_; (with_reducible refine (ropewayref02_Get.calls k _ _ l0 t437 t438 t439 _ ?side1 ?side2 A7.out).mono ?_); (case side1 => repeat (first | exact (Kd.C_below HR0.out HB.out) | (with_reducible refine Kd.C_alloc ?_ _) | (with_reducible refine Kd.C_drewN ?_ _) | (with_reducible refine Kd.C_drew ?_))); (case side2 => exact HC0.out); rintro e w15 ⟨v440, rfl, ho0, hb⟩; refine ⟨_, rfl, ?_⟩; have n0_ := Aside0.mk (Kd.R_elder' (by (with_reducible repeat (first | apply Kd.R_alloc | apply Kd.R_drewN | apply Kd.R_drew)); exact HO431.out) (Kd.R_base ho0) hb); have n1_ := Aside0.mk (Kd.R_elder' (by (with_reducible repeat (first | apply Kd.R_alloc | apply Kd.R_drewN | apply Kd.R_drew)); exact HO436.out) (Kd.R_base ho0) hb); have n2_ := Aside0.mk (Kd.R_lower (Kd.R_new' (Kd.R_new' ho0 (Kd.R_lt (by (with_reducible repeat (first | apply Kd.R_alloc | apply Kd.R_drewN | apply Kd.R_drew)); exact HO431.out))) (Kd.R_lt (by (with_reducible repeat (first | apply Kd.R_alloc | apply Kd.R_drewN | apply Kd.R_drew)); exact HO436.out))) (below_size (by repeat (first | (with_reducible first | exact HB.out | apply below_alloc | apply pw_below_drewN | apply below_drew1) | exact HB.out)))); have n3_ := Aside0.mk (below_step (by repeat (first | (with_reducible first | exact HB.out | apply below_alloc | apply pw_below_drewN | apply below_drew1) | exact HB.out)) hb); clear HO431; clear HO436; clear HB; have HO431 := n0_; have HO436 := n1_; have HO441 := n2_; have HB := n3_; clear n0_ n1_ n2_ n3_; (try clear hb); (try clear hb2); (try clear hk); (try clear hi); (try clear ho0)))
      (try simp only [Act.put, List.setIfInBounds_toArray, List.set_cons_zero, List.set_cons_succ])
      go_cut [45] (fun v45 wc => ∃ (kq : Nat) (x45_7 : Bool), v45 = .bool x45_7 ∧ Aside0 (ropewaylaw02_WireGets.j0 kq l0 a1 x45_7 = some r) ∧ Aside0 (kq ≤ k) ∧ Aside0 (Below w.heap.size w wc))
      case first =>
        have H := HC8.out
        clear HC8
        by_cases c16 : t432 = t437
        · rw [if_pos c16] at H
          have c16b0 : (t432 == t437) = true := beq_iff_eq.mpr c16
          have c16b1 : (t432 != t437) = false := bne_eq_false_iff_eq.mpr c16
          clear c16
          (first | rw [c16b0] | (simp only [i64_w, i32_w]; rw [c16b0]) | skip)
          by_cases c17 : (strOfNums t433).toList = (strOfNums t438).toList
          · rw [if_pos c17] at H
            have c17b0 : ((strOfNums t433).toList == (strOfNums t438).toList) = true := beq_iff_eq.mpr c17
            have c17b1 : ((strOfNums t433).toList != (strOfNums t438).toList) = false := bne_eq_false_iff_eq.mpr c17
            clear c17
            have H' := Aside0.mk H
            clear H
            have hcv18 := own_string (P := Try.prog) Try.underlying23 Try.underlying5 Try.underlying9 (Kd.own_of_R HO436.out); have hcv18q := fun n_ => own_string (P := Try.prog) Try.underlying23 Try.underlying5 Try.underlying9 (Kd.own_of_R (Kd.R_drewN HO436.out n_))
            have hcv19 := own_string (P := Try.prog) Try.underlying23 Try.underlying5 Try.underlying9 (Kd.own_of_R HO441.out); have hcv19q := fun n_ => own_string (P := Try.prog) Try.underlying23 Try.underlying5 Try.underlying9 (Kd.own_of_R (Kd.R_drewN HO441.out n_))
            go_wp2
            go_meet
            case rel => exact ⟨_, ((t434 != t439)), (by first | rfl | (simp; done) | (simp [*]; done)), H', ⟨by first | omega | exact Nat.le_refl _⟩, ⟨by repeat (first | (with_reducible first | exact HB.out | apply below_alloc | apply pw_below_drewN | apply below_drew1) | exact HB.out)⟩⟩
          · rw [if_neg c17] at H
            have c17b0 : ((strOfNums t433).toList == (strOfNums t438).toList) = false := beq_eq_false_iff_ne.mpr c17
            have c17b1 : ((strOfNums t433).toList != (strOfNums t438).toList) = true := bne_iff_ne.mpr c17
            have H' := Aside0.mk H
            clear H
            have hcv20 := own_string (P := Try.prog) Try.underlying23 Try.underlying5 Try.underlying9 (Kd.own_of_R HO436.out); have hcv20q := fun n_ => own_string (P := Try.prog) Try.underlying23 Try.underlying5 Try.underlying9 (Kd.own_of_R (Kd.R_drewN HO436.out n_))
            have hcv21 := own_string (P := Try.prog) Try.underlying23 Try.underlying5 Try.underlying9 (Kd.own_of_R HO441.out); have hcv21q := fun n_ => own_string (P := Try.prog) Try.underlying23 Try.underlying5 Try.underlying9 (Kd.own_of_R (Kd.R_drewN HO441.out n_))
            go_wp2
            go_meet
            case rel => exact ⟨_, (true), (by first | rfl | (simp; done) | (simp [*]; done)), H', ⟨by first | omega | exact Nat.le_refl _⟩, ⟨by repeat (first | (with_reducible first | exact HB.out | apply below_alloc | apply pw_below_drewN | apply below_drew1) | exact HB.out)⟩⟩
        · rw [if_neg c16] at H
          have c16b0 : (t432 == t437) = false := beq_eq_false_iff_ne.mpr c16
          have c16b1 : (t432 != t437) = true := bne_iff_ne.mpr c16
          (first | rw [c16b0] | (simp only [i64_w, i32_w]; rw [c16b0]) | skip)
          have H' := Aside0.mk H
          clear H
          go_wp2
          go_meet
          case rel => exact ⟨_, (true), (by first | rfl | (simp; done) | (simp [*]; done)), H', ⟨by first | omega | exact Nat.le_refl _⟩, ⟨by repeat (first | (with_reducible first | exact HB.out | apply below_alloc | apply pw_below_drewN | apply below_drew1) | exact HB.out)⟩⟩
      case rest =>
        clear HC8
        try clear c1
        try clear hcv1
        try clear p2
        try clear hcv2
        try clear c4
        try clear c5
        try clear c8
        try clear c10
        try clear c11
        try clear c16
        try clear c16b0
        try clear c16b1
        try clear c17
        try clear c17b0
        try clear c17b1
        try clear hcv18
        try clear hcv19
        try clear hcv20
        try clear hcv21
        obtain ⟨kq, x45_7, rfl, HA, HJ7, HB⟩ := hcut
        cases kq with
        | zero => exact absurd HA.out (by simp [ropewaylaw02_WireGets.j0])
        | succ kj7 =>
          have H := HA.out
          clear HA
          simp only [ropewaylaw02_WireGets.j0] at H
          by_cases c22 : x45_7 = true
          · subst c22
            have H1 : (some false) = some r := by rw [if_pos rfl] at H; exact H
            clear H
            have H := H1
            clear H1
            obtain rfl := Option.some.inj H
            go_wp2
            go_ret
            exact ⟨by first | rfl | (simp [errW_none, errW_some] <;> rfl) | (simp [*, errW_none, errW_some] <;> rfl), by repeat (first | (with_reducible first | exact HB.out | apply below_alloc | apply pw_below_drewN | apply below_drew1) | exact HB.out)⟩
          · replace c22 := Bool.eq_false_iff.mpr c22
            subst c22
            have H1 : ((some (([] : List Int) : List Int)).bind fun y442 => (if y442.length + l0.length < 140737488355328 then ((wire_Gets.f kj7 (y442 ++ l0) a1).bind fun bt448 => ((ropewayref02_Gets.f kj7 l0 a1).bind fun bt455 => ((ropewayref02_SameNums.f kj7 bt448.1 bt455.1).bind fun t462 => (if t462 = true then (if (strOfNums bt448.2.1).toList = (strOfNums bt455.2.1).toList then (ropewaylaw02_WireGets.j1 kj7 l0 (bt448.2.2 != bt455.2.2)) else (ropewaylaw02_WireGets.j1 kj7 l0 true)) else (ropewaylaw02_WireGets.j1 kj7 l0 true))))) else (none))) = some r := by rw [if_neg (show ¬ (false = true) by decide)] at H; exact H
            clear H
            have H := H1
            clear H1
            obtain ⟨y442, hy442⟩ : ∃ y_ : List Int, y_ = (([] : List Int)) := ⟨_, rfl⟩
            replace H : (if y442.length + l0.length < 140737488355328 then ((wire_Gets.f kj7 (y442 ++ l0) a1).bind fun bt448 => ((ropewayref02_Gets.f kj7 l0 a1).bind fun bt455 => ((ropewayref02_SameNums.f kj7 bt448.1 bt455.1).bind fun t462 => (if t462 = true then (if (strOfNums bt448.2.1).toList = (strOfNums bt455.2.1).toList then (ropewaylaw02_WireGets.j1 kj7 l0 (bt448.2.2 != bt455.2.2)) else (ropewaylaw02_WireGets.j1 kj7 l0 true)) else (ropewaylaw02_WireGets.j1 kj7 l0 true))))) else (none)) = some r := by first | (rw [hy442]; with_reducible exact H) | (have H2_ := (Option.bind_some _ _).symm.trans H; rw [hy442]; with_reducible exact H2_) | (have H2_ := (Option.bind_some _ _).symm.trans H; with_reducible exact H2_) | with_reducible exact H | (rw [hy442]; exact H) | exact H
            have Ny442 := Aside0.mk hy442
            clear hy442
            by_cases c23 : y442.length + l0.length < 140737488355328
            · rw [if_pos c23] at H
              have LMc23 := Aside0.mk c23
              clear c23
              obtain ⟨y445, hy445⟩ : ∃ y_ : List Int, y_ = (y442 ++ l0) := ⟨_, rfl⟩
              replace H : ((wire_Gets.f kj7 y445 a1).bind fun bt448 => ((ropewayref02_Gets.f kj7 l0 a1).bind fun bt455 => ((ropewayref02_SameNums.f kj7 bt448.1 bt455.1).bind fun t462 => (if t462 = true then (if (strOfNums bt448.2.1).toList = (strOfNums bt455.2.1).toList then (ropewaylaw02_WireGets.j1 kj7 l0 (bt448.2.2 != bt455.2.2)) else (ropewaylaw02_WireGets.j1 kj7 l0 true)) else (ropewaylaw02_WireGets.j1 kj7 l0 true))))) = some r := by first | (rw [hy445]; with_reducible exact H) | (have H2_ := (Option.bind_some _ _).symm.trans H; rw [hy445]; with_reducible exact H2_) | (have H2_ := (Option.bind_some _ _).symm.trans H; with_reducible exact H2_) | with_reducible exact H | (rw [hy445]; exact H) | exact H
              have Ny445 := Aside0.mk hy445
              clear hy445
              replace H := Option.bind_eq_some_iff.mp H
              obtain ⟨⟨t448, t449, t450⟩, A240, H⟩ := H
              replace H : ((ropewayref02_Gets.f kj7 l0 a1).bind fun bt455 => ((ropewayref02_SameNums.f kj7 t448 bt455.1).bind fun t462 => (if t462 = true then (if (strOfNums t449).toList = (strOfNums bt455.2.1).toList then (ropewaylaw02_WireGets.j1 kj7 l0 (t450 != bt455.2.2)) else (ropewaylaw02_WireGets.j1 kj7 l0 true)) else (ropewaylaw02_WireGets.j1 kj7 l0 true)))) = some r := H
              have A24 := Aside0.mk A240
              clear A240
              replace H := Option.bind_eq_some_iff.mp H
              obtain ⟨⟨t455, t456, t457⟩, A250, H⟩ := H
              replace H : ((ropewayref02_SameNums.f kj7 t448 t455).bind fun t462 => (if t462 = true then (if (strOfNums t449).toList = (strOfNums t456).toList then (ropewaylaw02_WireGets.j1 kj7 l0 (t450 != t457)) else (ropewaylaw02_WireGets.j1 kj7 l0 true)) else (ropewaylaw02_WireGets.j1 kj7 l0 true))) = some r := H
              have A25 := Aside0.mk A250
              clear A250
              have HC26 := Aside0.mk H
              clear H
              go_upto_region 9 with (first | ((with_reducible refine gate_dst (N := 47) rfl ?_); refine Kd.R_lit (Kd.int .u8) _ 5 ?hg (N := 47) ?hd (xs := ([] : List Int)) (inner := []) (ok := fun _ => True) (okp := fun _ => True) ?hr ?hp (fun _ hk => hk) trivial (Below.refl _ _) (Nat.le_refl _) (by simp) ?_; (case hd => rfl); (case hg => rfl); (case hr => first | (go_simp; done) | (go_simp; rfl)); (case hp => exact (Reps.none _ _)); intro v443 w27 ho28 hb hg_ hnew_; clear hg_ hnew_; (first | rw [← Ny442.out] at ho28 | (simp only [Int.reduceToNat] at ho28; rw [← Ny442.out] at ho28)); have n0_ := Aside0.mk (Kd.R_lower ho28 (below_size (by repeat (first | (with_reducible first | exact HB.out | apply below_alloc | apply pw_below_drewN | apply below_drew1) | exact HB.out)))); have n1_ := Aside0.mk (below_step (by repeat (first | (with_reducible first | exact HB.out | apply below_alloc | apply pw_below_drewN | apply below_drew1) | exact HB.out)) hb); clear HB; have HO444 := n0_; have HB := n1_; clear n0_ n1_; clear hb ho28) | ((with_reducible refine gate_builtin (b := .append) (xs := #[.tmp 47, .tmp 48]) rfl ?_); at_builtin; refine Kd.R_append_rows (Kd.int .u8) (w0 := w) w.heap.size rfl (.tmp 47) (.tmp 48) 23 5 (.int .u8 0) 1 rfl Try.underlying23 info5 rfl (by decide) (by omega) v443 y442 l0 _ _ _ (fun _ => True) (fun _ => False) rfl rfl ?aO ?aR (fun _ _ h => h) (fun _ h => h.elim) ?aF ?aB ?aS ?aL ?_; (case aR => repeat (first | exact (Kd.C_below HR0.out HB.out) | (with_reducible refine Kd.C_alloc ?_ _) | (with_reducible refine Kd.C_drewN ?_ _) | (with_reducible refine Kd.C_drew ?_))); (case aB => exact (by repeat (first | (with_reducible first | exact HB.out | apply below_alloc | apply pw_below_drewN | apply below_drew1) | exact HB.out))); (case aF => exact (fun _ _ => trivial)); (case aO => exact (by (with_reducible repeat (first | apply Kd.R_alloc | apply Kd.R_drewN | apply Kd.R_drew)); exact HO444.out)); (case aS => exact (below_size (by repeat (first | (with_reducible first | exact HB.out | apply below_alloc | apply pw_below_drewN | apply below_drew1) | exact HB.out)))); (case aL => have := LMc23.out; omega); intro v446 w29 ho hb hg hat; rw [← Ny445.out] at ho; have n0_ := Aside0.mk (hb); have n1_ := Aside0.mk (ho); clear HB; clear HO444; have HB := n0_; have HO447 := n1_; clear n0_ n1_; clear ho hb hg hat; obtain ⟨Ao30, co30, eo30⟩ := Kd.R_slice HO447.out; subst eo30) | ((with_reducible refine gate_callee (f := 18) rfl ?_); refine goesL_ (some 51) rfl rfl Try.func18 (by kernel_rfl) rfl #[.slice Ao30 y445.length co30, .int .i64 a1] rfl (by (try simp only [List.map_toArray, List.map_cons, List.map_nil]); first | done | rfl | (simp only [List.length_drop, List.length_take]; rfl)) ?_; (with_reducible refine (wire_Gets.calls kj7 _ _ y445 a1 t448 t449 t450 _ ?side1 ?side2 A24.out).mono ?_); (case side1 => repeat (first | exact (Kd.R_reads' HO447.out).2.2 | (with_reducible refine Kd.C_alloc ?_ _) | (with_reducible refine Kd.C_drewN ?_ _) | (with_reducible refine Kd.C_drew ?_))); (case side2 => exact (Kd.R_reads' HO447.out).2.1); rintro e w31 ⟨v451, v453, rfl, ho0, ho1, hb⟩; refine ⟨_, rfl, ?_⟩; have n0_ := Aside0.mk (Kd.R_elder' (by (with_reducible repeat (first | apply Kd.R_alloc | apply Kd.R_drewN | apply Kd.R_drew)); exact HO447.out) (Kd.R_base ho1) hb); have n1_ := Aside0.mk (Kd.R_lower ho0 (below_size (by repeat (first | (with_reducible first | exact HB.out | apply below_alloc | apply pw_below_drewN | apply below_drew1) | exact HB.out)))); have n2_ := Aside0.mk (Kd.R_lower (Kd.R_new' ho1 (Kd.R_lt (by (with_reducible repeat (first | apply Kd.R_alloc | apply Kd.R_drewN | apply Kd.R_drew)); exact HO447.out))) (below_size (by repeat (first | (with_reducible first | exact HB.out | apply below_alloc | apply pw_below_drewN | apply below_drew1) | exact HB.out)))); have n3_ := Aside0.mk (below_step (by repeat (first | (with_reducible first | exact HB.out | apply below_alloc | apply pw_below_drewN | apply below_drew1) | exact HB.out)) hb); clear HO447; clear HB; have HO447 := n0_; have HO452 := n1_; have HO454 := n2_; have HB := n3_; clear n0_ n1_ n2_ n3_; (try clear hb); (try clear hb2); (try clear hk); (try clear hi); (try clear ho0); (try clear ho1)) | ((with_reducible refine gate_callee (f := 19) rfl ?_); refine goesL_ (some 58) rfl rfl Try.func19 (by kernel_rfl) rfl #[.slice A0 l0.length c0, .int .i64 a1] rfl (by (try simp only [List.map_toArray, List.map_cons, List.map_nil]); first | done | rfl | (simp only [List.length_drop, List.length_take]; rfl)) ?_; (with_reducible refine (ropewayref02_Gets.calls kj7 _ _ l0 a1 t455 t456 t457 _ ?side1 ?side2 A25.out).mono ?_); (case side1 => repeat (first | exact (Kd.C_below HR0.out HB.out) | (with_reducible refine Kd.C_alloc ?_ _) | (with_reducible refine Kd.C_drewN ?_ _) | (with_reducible refine Kd.C_drew ?_))); (case side2 => exact HC0.out); rintro e w32 ⟨v458, v460, rfl, ho0, ho1, hb⟩; refine ⟨_, rfl, ?_⟩; have n0_ := Aside0.mk (Kd.R_elder' (by (with_reducible repeat (first | apply Kd.R_alloc | apply Kd.R_drewN | apply Kd.R_drew)); exact HO447.out) (Kd.R_base ho1) hb); have n1_ := Aside0.mk (Kd.R_elder' (by (with_reducible repeat (first | apply Kd.R_alloc | apply Kd.R_drewN | apply Kd.R_drew)); exact HO452.out) (Kd.R_base ho0) hb); have n2_ := Aside0.mk (Kd.R_elder' (by (with_reducible repeat (first | apply Kd.R_alloc | apply Kd.R_drewN | apply Kd.R_drew)); exact HO454.out) (Kd.R_base ho1) hb); have n3_ := Aside0.mk (Kd.R_lower (Kd.R_new' ho0 (Kd.R_lt (by (with_reducible repeat (first | apply Kd.R_alloc | apply Kd.R_drewN | apply Kd.R_drew)); exact HO452.out))) (below_size (by repeat (first | (with_reducible first | exact HB.out | apply below_alloc | apply pw_below_drewN | apply below_drew1) | exact HB.out)))); have n4_ := Aside0.mk (Kd.R_lower (Kd.R_new' (Kd.R_new' ho1 (Kd.R_lt (by (with_reducible repeat (first | apply Kd.R_alloc | apply Kd.R_drewN | apply Kd.R_drew)); exact HO447.out))) (Kd.R_lt (by (with_reducible repeat (first | apply Kd.R_alloc | apply Kd.R_drewN | apply Kd.R_drew)); exact HO454.out))) (below_size (by repeat (first | (with_reducible first | exact HB.out | apply below_alloc | apply pw_below_drewN | apply below_drew1) | exact HB.out)))); have n5_ := Aside0.mk (below_step (by repeat (first | (with_reducible first | exact HB.out | apply below_alloc | apply pw_below_drewN | apply below_drew1) | exact HB.out)) hb); clear HO447; clear HO452; clear HO454; clear HB; have HO447 := n0_; have HO452 := n1_; have HO454 := n2_; have HO459 := n3_; have HO461 := n4_; have HB := n5_; clear n0_ n1_ n2_ n3_ n4_ n5_; (try clear hb); (try clear hb2); (try clear hk); (try clear hi); (try clear ho0); (try clear ho1)))
              (try simp only [Act.put, List.setIfInBounds_toArray, List.set_cons_zero, List.set_cons_succ])
              go_cut [77] (fun v77 wc => ∃ (kq : Nat) (x77_25 : Bool), v77 = .bool x77_25 ∧ Aside0 (ropewaylaw02_WireGets.j1 kq l0 x77_25 = some r) ∧ Aside0 (kq ≤ kj7) ∧ Aside0 (Below w.heap.size w wc))
              case first =>
                have H := HC26.out
                clear HC26
                replace H := Option.bind_eq_some_iff.mp H
                obtain ⟨t462, A330, H⟩ := H
                replace H : (if t462 = true then (if (strOfNums t449).toList = (strOfNums t456).toList then (ropewaylaw02_WireGets.j1 kj7 l0 (t450 != t457)) else (ropewaylaw02_WireGets.j1 kj7 l0 true)) else (ropewaylaw02_WireGets.j1 kj7 l0 true)) = some r := H
                have A33 := Aside0.mk A330
                clear A330
                by_cases c34 : t462 = true
                · subst c34
                  have H1 : (if (strOfNums t449).toList = (strOfNums t456).toList then (ropewaylaw02_WireGets.j1 kj7 l0 (t450 != t457)) else (ropewaylaw02_WireGets.j1 kj7 l0 true)) = some r := by rw [if_pos rfl] at H; exact H
                  clear H
                  have H := H1
                  clear H1
                  by_cases c35 : (strOfNums t449).toList = (strOfNums t456).toList
                  · rw [if_pos c35] at H
                    have c35b0 : ((strOfNums t449).toList == (strOfNums t456).toList) = true := beq_iff_eq.mpr c35
                    have c35b1 : ((strOfNums t449).toList != (strOfNums t456).toList) = false := bne_eq_false_iff_eq.mpr c35
                    clear c35
                    (first | rw [c35b0] | (simp only [i64_w, i32_w]; rw [c35b0]) | skip)
                    have H' := Aside0.mk H
                    clear H
                    obtain ⟨Ao36, co36, eo36⟩ := Kd.R_slice HO452.out
                    subst eo36
                    obtain ⟨Ao37, co37, eo37⟩ := Kd.R_slice HO459.out
                    subst eo37
                    go_wp2_with (first | ((with_reducible refine gate_callee (f := 20) rfl ?_); refine goesL_ (some 64) rfl rfl Try.func20 (by kernel_rfl) rfl #[.slice Ao36 t448.length co36, .slice Ao37 t455.length co37] rfl (by (try simp only [List.map_toArray, List.map_cons, List.map_nil]); first | done | rfl | (simp only [List.length_drop, List.length_take]; rfl)) ?_; (with_reducible refine (ropewayref02_SameNums.calls kj7 _ _ t448 _ _ t455 true _ ?side1 ?side2 ?side3 ?side4 A33.out).mono ?_); (case side1 => repeat (first | exact (Kd.R_reads' HO452.out).2.2 | (with_reducible refine Kd.C_alloc ?_ _) | (with_reducible refine Kd.C_drewN ?_ _) | (with_reducible refine Kd.C_drew ?_))); (case side2 => exact (Kd.R_reads' HO452.out).2.1); (case side3 => repeat (first | exact (Kd.R_reads' HO459.out).2.2 | (with_reducible refine Kd.C_alloc ?_ _) | (with_reducible refine Kd.C_drewN ?_ _) | (with_reducible refine Kd.C_drew ?_))); (case side4 => exact (Kd.R_reads' HO459.out).2.1); rintro e w' ⟨rfl, ⟨nd, rfl⟩⟩; refine ⟨_, rfl, ?_⟩; have hcv38 := own_string (P := Try.prog) Try.underlying23 Try.underlying5 Try.underlying9 (Kd.own_of_R HO454.out); have hcv38q := fun n_ => own_string (P := Try.prog) Try.underlying23 Try.underlying5 Try.underlying9 (Kd.own_of_R (Kd.R_drewN HO454.out n_)); have hcv39 := own_string (P := Try.prog) Try.underlying23 Try.underlying5 Try.underlying9 (Kd.own_of_R HO461.out); have hcv39q := fun n_ => own_string (P := Try.prog) Try.underlying23 Try.underlying5 Try.underlying9 (Kd.own_of_R (Kd.R_drewN HO461.out n_))))
                    go_meet
                    case rel => exact ⟨_, ((t450 != t457)), (by first | rfl | (simp; done) | (simp [*]; done)), H', ⟨by have := HJ7.out; first | omega | exact Nat.le_refl _⟩, ⟨by repeat (first | (with_reducible first | exact HB.out | apply below_alloc | apply pw_below_drewN | apply below_drew1) | exact HB.out)⟩⟩
                  · rw [if_neg c35] at H
                    have c35b0 : ((strOfNums t449).toList == (strOfNums t456).toList) = false := beq_eq_false_iff_ne.mpr c35
                    have c35b1 : ((strOfNums t449).toList != (strOfNums t456).toList) = true := bne_iff_ne.mpr c35
                    (first | rw [c35b0] | (simp only [i64_w, i32_w]; rw [c35b0]) | skip)
                    have H' := Aside0.mk H
                    clear H
                    obtain ⟨Ao40, co40, eo40⟩ := Kd.R_slice HO452.out
                    subst eo40
                    obtain ⟨Ao41, co41, eo41⟩ := Kd.R_slice HO459.out
                    subst eo41
                    go_wp2_with (first | ((with_reducible refine gate_callee (f := 20) rfl ?_); refine goesL_ (some 64) rfl rfl Try.func20 (by kernel_rfl) rfl #[.slice Ao40 t448.length co40, .slice Ao41 t455.length co41] rfl (by (try simp only [List.map_toArray, List.map_cons, List.map_nil]); first | done | rfl | (simp only [List.length_drop, List.length_take]; rfl)) ?_; (with_reducible refine (ropewayref02_SameNums.calls kj7 _ _ t448 _ _ t455 true _ ?side1 ?side2 ?side3 ?side4 A33.out).mono ?_); (case side1 => repeat (first | exact (Kd.R_reads' HO452.out).2.2 | (with_reducible refine Kd.C_alloc ?_ _) | (with_reducible refine Kd.C_drewN ?_ _) | (with_reducible refine Kd.C_drew ?_))); (case side2 => exact (Kd.R_reads' HO452.out).2.1); (case side3 => repeat (first | exact (Kd.R_reads' HO459.out).2.2 | (with_reducible refine Kd.C_alloc ?_ _) | (with_reducible refine Kd.C_drewN ?_ _) | (with_reducible refine Kd.C_drew ?_))); (case side4 => exact (Kd.R_reads' HO459.out).2.1); rintro e w' ⟨rfl, ⟨nd, rfl⟩⟩; refine ⟨_, rfl, ?_⟩; have hcv42 := own_string (P := Try.prog) Try.underlying23 Try.underlying5 Try.underlying9 (Kd.own_of_R HO454.out); have hcv42q := fun n_ => own_string (P := Try.prog) Try.underlying23 Try.underlying5 Try.underlying9 (Kd.own_of_R (Kd.R_drewN HO454.out n_)); have hcv43 := own_string (P := Try.prog) Try.underlying23 Try.underlying5 Try.underlying9 (Kd.own_of_R HO461.out); have hcv43q := fun n_ => own_string (P := Try.prog) Try.underlying23 Try.underlying5 Try.underlying9 (Kd.own_of_R (Kd.R_drewN HO461.out n_))))
                    go_meet
                    case rel => exact ⟨_, (true), (by first | rfl | (simp; done) | (simp [*]; done)), H', ⟨by have := HJ7.out; first | omega | exact Nat.le_refl _⟩, ⟨by repeat (first | (with_reducible first | exact HB.out | apply below_alloc | apply pw_below_drewN | apply below_drew1) | exact HB.out)⟩⟩
                · replace c34 := Bool.eq_false_iff.mpr c34
                  subst c34
                  have H1 : (ropewaylaw02_WireGets.j1 kj7 l0 true) = some r := by rw [if_neg (show ¬ (false = true) by decide)] at H; exact H
                  clear H
                  have H := H1
                  clear H1
                  have H' := Aside0.mk H
                  clear H
                  obtain ⟨Ao44, co44, eo44⟩ := Kd.R_slice HO452.out
                  subst eo44
                  obtain ⟨Ao45, co45, eo45⟩ := Kd.R_slice HO459.out
                  subst eo45
                  go_wp2_with (first | ((with_reducible refine gate_callee (f := 20) rfl ?_); refine goesL_ (some 64) rfl rfl Try.func20 (by kernel_rfl) rfl #[.slice Ao44 t448.length co44, .slice Ao45 t455.length co45] rfl (by (try simp only [List.map_toArray, List.map_cons, List.map_nil]); first | done | rfl | (simp only [List.length_drop, List.length_take]; rfl)) ?_; (with_reducible refine (ropewayref02_SameNums.calls kj7 _ _ t448 _ _ t455 false _ ?side1 ?side2 ?side3 ?side4 A33.out).mono ?_); (case side1 => repeat (first | exact (Kd.R_reads' HO452.out).2.2 | (with_reducible refine Kd.C_alloc ?_ _) | (with_reducible refine Kd.C_drewN ?_ _) | (with_reducible refine Kd.C_drew ?_))); (case side2 => exact (Kd.R_reads' HO452.out).2.1); (case side3 => repeat (first | exact (Kd.R_reads' HO459.out).2.2 | (with_reducible refine Kd.C_alloc ?_ _) | (with_reducible refine Kd.C_drewN ?_ _) | (with_reducible refine Kd.C_drew ?_))); (case side4 => exact (Kd.R_reads' HO459.out).2.1); rintro e w' ⟨rfl, ⟨nd, rfl⟩⟩; refine ⟨_, rfl, ?_⟩))
                  go_meet
                  case rel => exact ⟨_, (true), (by first | rfl | (simp; done) | (simp [*]; done)), H', ⟨by have := HJ7.out; first | omega | exact Nat.le_refl _⟩, ⟨by repeat (first | (with_reducible first | exact HB.out | apply below_alloc | apply pw_below_drewN | apply below_drew1) | exact HB.out)⟩⟩
              case rest =>
                clear HC26
                try clear c1
                try clear hcv1
                try clear c2
                try clear p2
                try clear hcv2
                try clear c3
                try clear hcv3
                try clear c4
                try clear hcv4
                try clear c5
                try clear c8
                try clear c10
                try clear c11
                try clear c16
                try clear c16b0
                try clear c16b1
                try clear c17
                try clear c17b0
                try clear c17b1
                try clear c18
                try clear hcv18
                try clear c19
                try clear hcv19
                try clear c20
                try clear hcv20
                try clear hcv21
                try clear c22
                try clear c23
                try clear c34
                try clear c35
                try clear c35b0
                try clear c35b1
                try clear hcv38
                try clear hcv39
                try clear hcv42
                try clear hcv43
                try clear p2
                obtain ⟨kq, x77_25, rfl, HA, HJ25, HB⟩ := hcut
                cases kq with
                | zero => exact absurd HA.out (by simp [ropewaylaw02_WireGets.j1])
                | succ kj25 =>
                  have H := HA.out
                  clear HA
                  simp only [ropewaylaw02_WireGets.j1] at H
                  by_cases c46 : x77_25 = true
                  · subst c46
                    have H1 : (some false) = some r := by rw [if_pos rfl] at H; exact H
                    clear H
                    have H := H1
                    clear H1
                    obtain rfl := Option.some.inj H
                    go_wp2
                    go_ret
                    exact ⟨by first | rfl | (simp [errW_none, errW_some] <;> rfl) | (simp [*, errW_none, errW_some] <;> rfl), by repeat (first | (with_reducible first | exact HB.out | apply below_alloc | apply pw_below_drewN | apply below_drew1) | exact HB.out)⟩
                  · replace c46 := Bool.eq_false_iff.mpr c46
                    subst c46
                    have H1 : ((some (([] : List Int) : List Int)).bind fun y463 => (if y463.length + l0.length < 140737488355328 then ((wire_Cut.f kj25 (y463 ++ l0)).bind fun bt469 => ((ropewayref02_Cut.f kj25 l0).bind fun bt476 => (if (strOfNums bt469.1).toList = (strOfNums bt476.1).toList then (if (strOfNums bt469.2.1).toList = (strOfNums bt476.2.1).toList then (some (bt469.2.2 == bt476.2.2)) else (some false)) else (some false)))) else (none))) = some r := by rw [if_neg (show ¬ (false = true) by decide)] at H; exact H
                    clear H
                    have H := H1
                    clear H1
                    obtain ⟨y463, hy463⟩ : ∃ y_ : List Int, y_ = (([] : List Int)) := ⟨_, rfl⟩
                    replace H : (if y463.length + l0.length < 140737488355328 then ((wire_Cut.f kj25 (y463 ++ l0)).bind fun bt469 => ((ropewayref02_Cut.f kj25 l0).bind fun bt476 => (if (strOfNums bt469.1).toList = (strOfNums bt476.1).toList then (if (strOfNums bt469.2.1).toList = (strOfNums bt476.2.1).toList then (some (bt469.2.2 == bt476.2.2)) else (some false)) else (some false)))) else (none)) = some r := by first | (rw [hy463]; with_reducible exact H) | (have H2_ := (Option.bind_some _ _).symm.trans H; rw [hy463]; with_reducible exact H2_) | (have H2_ := (Option.bind_some _ _).symm.trans H; with_reducible exact H2_) | with_reducible exact H | (rw [hy463]; exact H) | exact H
                    have Ny463 := Aside0.mk hy463
                    clear hy463
                    by_cases c47 : y463.length + l0.length < 140737488355328
                    · rw [if_pos c47] at H
                      have LMc47 := Aside0.mk c47
                      clear c47
                      obtain ⟨y466, hy466⟩ : ∃ y_ : List Int, y_ = (y463 ++ l0) := ⟨_, rfl⟩
                      replace H : ((wire_Cut.f kj25 y466).bind fun bt469 => ((ropewayref02_Cut.f kj25 l0).bind fun bt476 => (if (strOfNums bt469.1).toList = (strOfNums bt476.1).toList then (if (strOfNums bt469.2.1).toList = (strOfNums bt476.2.1).toList then (some (bt469.2.2 == bt476.2.2)) else (some false)) else (some false)))) = some r := by first | (rw [hy466]; with_reducible exact H) | (have H2_ := (Option.bind_some _ _).symm.trans H; rw [hy466]; with_reducible exact H2_) | (have H2_ := (Option.bind_some _ _).symm.trans H; with_reducible exact H2_) | with_reducible exact H | (rw [hy466]; exact H) | exact H
                      have Ny466 := Aside0.mk hy466
                      clear hy466
                      replace H := Option.bind_eq_some_iff.mp H
                      obtain ⟨⟨t469, t470, t471⟩, A480, H⟩ := H
                      replace H : ((ropewayref02_Cut.f kj25 l0).bind fun bt476 => (if (strOfNums t469).toList = (strOfNums bt476.1).toList then (if (strOfNums t470).toList = (strOfNums bt476.2.1).toList then (some (t471 == bt476.2.2)) else (some false)) else (some false))) = some r := H
                      have A48 := Aside0.mk A480
                      clear A480
                      replace H := Option.bind_eq_some_iff.mp H
                      obtain ⟨⟨t476, t477, t478⟩, A490, H⟩ := H
                      replace H : (if (strOfNums t469).toList = (strOfNums t476).toList then (if (strOfNums t470).toList = (strOfNums t477).toList then (some (t471 == t478)) else (some false)) else (some false)) = some r := H
                      have A49 := Aside0.mk A490
                      clear A490
                      by_cases c50 : (strOfNums t469).toList = (strOfNums t476).toList
                      · rw [if_pos c50] at H
                        have c50b0 : ((strOfNums t469).toList == (strOfNums t476).toList) = true := beq_iff_eq.mpr c50
                        have c50b1 : ((strOfNums t469).toList != (strOfNums t476).toList) = false := bne_eq_false_iff_eq.mpr c50
                        clear c50
                        by_cases c51 : (strOfNums t470).toList = (strOfNums t477).toList
                        · rw [if_pos c51] at H
                          have c51b0 : ((strOfNums t470).toList == (strOfNums t477).toList) = true := beq_iff_eq.mpr c51
                          have c51b1 : ((strOfNums t470).toList != (strOfNums t477).toList) = false := bne_eq_false_iff_eq.mpr c51
                          clear c51
                          obtain rfl := Option.some.inj H
                          go_wp2_with (first | ((with_reducible refine gate_dst (N := 79) rfl ?_); refine Kd.R_lit (Kd.int .u8) _ 5 ?hg (N := 79) ?hd (xs := ([] : List Int)) (inner := []) (ok := fun _ => True) (okp := fun _ => True) ?hr ?hp (fun _ hk => hk) trivial (Below.refl _ _) (Nat.le_refl _) (by simp) ?_; (case hd => rfl); (case hg => rfl); (case hr => first | (go_simp; done) | (go_simp; rfl)); (case hp => exact (Reps.none _ _)); intro v464 w52 ho53 hb hg_ hnew_; clear hg_ hnew_; (first | rw [← Ny463.out] at ho53 | (simp only [Int.reduceToNat] at ho53; rw [← Ny463.out] at ho53)); have n0_ := Aside0.mk (Kd.R_lower ho53 (below_size (by repeat (first | (with_reducible first | exact HB.out | apply below_alloc | apply pw_below_drewN | apply below_drew1) | exact HB.out)))); have n1_ := Aside0.mk (below_step (by repeat (first | (with_reducible first | exact HB.out | apply below_alloc | apply pw_below_drewN | apply below_drew1) | exact HB.out)) hb); clear HB; have HO465 := n0_; have HB := n1_; clear n0_ n1_; clear hb ho53) | ((with_reducible refine gate_builtin (b := .append) (xs := #[.tmp 79, .tmp 80]) rfl ?_); at_builtin; refine Kd.R_append_rows (Kd.int .u8) (w0 := w) w.heap.size rfl (.tmp 79) (.tmp 80) 23 5 (.int .u8 0) 1 rfl Try.underlying23 info5 rfl (by decide) (by omega) v464 y463 l0 _ _ _ (fun _ => True) (fun _ => False) rfl rfl ?aO ?aR (fun _ _ h => h) (fun _ h => h.elim) ?aF ?aB ?aS ?aL ?_; (case aR => repeat (first | exact (Kd.C_below HR0.out HB.out) | (with_reducible refine Kd.C_alloc ?_ _) | (with_reducible refine Kd.C_drewN ?_ _) | (with_reducible refine Kd.C_drew ?_))); (case aB => exact (by repeat (first | (with_reducible first | exact HB.out | apply below_alloc | apply pw_below_drewN | apply below_drew1) | exact HB.out))); (case aF => exact (fun _ _ => trivial)); (case aO => exact (by (with_reducible repeat (first | apply Kd.R_alloc | apply Kd.R_drewN | apply Kd.R_drew)); exact HO465.out)); (case aS => exact (below_size (by repeat (first | (with_reducible first | exact HB.out | apply below_alloc | apply pw_below_drewN | apply below_drew1) | exact HB.out)))); (case aL => have := LMc47.out; omega); intro v467 w54 ho hb hg hat; rw [← Ny466.out] at ho; have n0_ := Aside0.mk (hb); have n1_ := Aside0.mk (ho); clear HB; clear HO465; have HB := n0_; have HO468 := n1_; clear n0_ n1_; clear ho hb hg hat; obtain ⟨Ao55, co55, eo55⟩ := Kd.R_slice HO468.out; subst eo55) | ((with_reducible refine gate_callee (f := 16) rfl ?_); refine goesL_ (some 82) rfl rfl Try.func16 (by kernel_rfl) rfl #[.slice Ao55 y466.length co55] rfl (by (try simp only [List.map_toArray, List.map_cons, List.map_nil]); first | done | rfl | (simp only [List.length_drop, List.length_take]; rfl)) ?_; (with_reducible refine (wire_Cut.calls kj25 _ _ y466 t469 t470 t471 _ ?side1 ?side2 A48.out).mono ?_); (case side1 => repeat (first | exact (Kd.R_reads' HO468.out).2.2 | (with_reducible refine Kd.C_alloc ?_ _) | (with_reducible refine Kd.C_drewN ?_ _) | (with_reducible refine Kd.C_drew ?_))); (case side2 => exact (Kd.R_reads' HO468.out).2.1); rintro e w56 ⟨v472, v474, rfl, ho0, ho1, hb⟩; refine ⟨_, rfl, ?_⟩; have n0_ := Aside0.mk (Kd.R_mono (Kd.R_told (Kd.R_told (Kd.R_old (by (with_reducible repeat (first | apply Kd.R_alloc | apply Kd.R_drewN | apply Kd.R_drew)); exact HO468.out) hb) (Kd.R_base ho0)) (Kd.R_base ho1)) (fun _ h_ => h_.1)); have n1_ := Aside0.mk (Kd.R_lower (Kd.R_new' ho0 (Kd.R_lt (by (with_reducible repeat (first | apply Kd.R_alloc | apply Kd.R_drewN | apply Kd.R_drew)); exact HO468.out))) (below_size (by repeat (first | (with_reducible first | exact HB.out | apply below_alloc | apply pw_below_drewN | apply below_drew1) | exact HB.out)))); have n2_ := Aside0.mk (Kd.R_lower (Kd.R_new' ho1 (Kd.R_lt (by (with_reducible repeat (first | apply Kd.R_alloc | apply Kd.R_drewN | apply Kd.R_drew)); exact HO468.out))) (below_size (by repeat (first | (with_reducible first | exact HB.out | apply below_alloc | apply pw_below_drewN | apply below_drew1) | exact HB.out)))); have n3_ := Aside0.mk (below_step (by repeat (first | (with_reducible first | exact HB.out | apply below_alloc | apply pw_below_drewN | apply below_drew1) | exact HB.out)) hb); clear HO468; clear HB; have HO468 := n0_; have HO473 := n1_; have HO475 := n2_; have HB := n3_; clear n0_ n1_ n2_ n3_; (try clear hb); (try clear hb2); (try clear hk); (try clear hi); (try clear ho0); (try clear ho1)) | ((with_reducible refine gate_callee (f := 21) rfl ?_); refine goesL_ (some 88) rfl rfl Try.func21 (by kernel_rfl) rfl #[.slice A0 l0.length c0] rfl (by (try simp only [List.map_toArray, List.map_cons, List.map_nil]); first | done | rfl | (simp only [List.length_drop, List.length_take]; rfl)) ?_; (with_reducible refine (ropewayref02_Cut.calls kj25 _ _ l0 t476 t477 t478 _ ?side1 ?side2 A49.out).mono ?_); (case side1 => repeat (first | exact (Kd.C_below HR0.out HB.out) | (with_reducible refine Kd.C_alloc ?_ _) | (with_reducible refine Kd.C_drewN ?_ _) | (with_reducible refine Kd.C_drew ?_))); (case side2 => exact HC0.out); rintro e w57 ⟨v479, v481, rfl, ho0, ho1, hb⟩; refine ⟨_, rfl, ?_⟩; have n0_ := Aside0.mk (Kd.R_below (by (with_reducible repeat (first | apply Kd.R_alloc | apply Kd.R_drewN | apply Kd.R_drew)); exact HO468.out) hb); have n1_ := Aside0.mk (Kd.R_below (by (with_reducible repeat (first | apply Kd.R_alloc | apply Kd.R_drewN | apply Kd.R_drew)); exact HO473.out) hb); have n2_ := Aside0.mk (Kd.R_below (by (with_reducible repeat (first | apply Kd.R_alloc | apply Kd.R_drewN | apply Kd.R_drew)); exact HO475.out) hb); have n3_ := Aside0.mk ho0; have n4_ := Aside0.mk ho1; have n5_ := Aside0.mk (below_step (by repeat (first | (with_reducible first | exact HB.out | apply below_alloc | apply pw_below_drewN | apply below_drew1) | exact HB.out)) hb); clear HO468; clear HO473; clear HO475; clear HB; have HO468 := n0_; have HO473 := n1_; have HO475 := n2_; have HO480 := n3_; have HO482 := n4_; have HB := n5_; clear n0_ n1_ n2_ n3_ n4_ n5_; (try clear hb); (try clear hb2); (try clear hk); (try clear hi); (try clear ho0); (try clear ho1); have hcv58 := own_string (P := Try.prog) Try.underlying23 Try.underlying5 Try.underlying9 (Kd.own_of_R HO473.out); have hcv58q := fun n_ => own_string (P := Try.prog) Try.underlying23 Try.underlying5 Try.underlying9 (Kd.own_of_R (Kd.R_drewN HO473.out n_)); have hcv59 := shared_string (P := Try.prog) Try.underlying23 Try.underlying5 Try.underlying9 HO480.out; have hcv60 := own_string (P := Try.prog) Try.underlying23 Try.underlying5 Try.underlying9 (Kd.own_of_R HO475.out); have hcv60q := fun n_ => own_string (P := Try.prog) Try.underlying23 Try.underlying5 Try.underlying9 (Kd.own_of_R (Kd.R_drewN HO475.out n_)); have hcv61 := shared_string (P := Try.prog) Try.underlying23 Try.underlying5 Try.underlying9 HO482.out))
                          go_ret
                          exact ⟨by first | rfl | (simp [errW_none, errW_some] <;> rfl) | (simp [*, errW_none, errW_some] <;> rfl), by repeat (first | (with_reducible first | exact HB.out | apply below_alloc | apply pw_below_drewN | apply below_drew1) | exact HB.out)⟩
                        · rw [if_neg c51] at H
                          have c51b0 : ((strOfNums t470).toList == (strOfNums t477).toList) = false := beq_eq_false_iff_ne.mpr c51
                          have c51b1 : ((strOfNums t470).toList != (strOfNums t477).toList) = true := bne_iff_ne.mpr c51
                          obtain rfl := Option.some.inj H
                          go_wp2_with (first | ((with_reducible refine gate_dst (N := 79) rfl ?_); refine Kd.R_lit (Kd.int .u8) _ 5 ?hg (N := 79) ?hd (xs := ([] : List Int)) (inner := []) (ok := fun _ => True) (okp := fun _ => True) ?hr ?hp (fun _ hk => hk) trivial (Below.refl _ _) (Nat.le_refl _) (by simp) ?_; (case hd => rfl); (case hg => rfl); (case hr => first | (go_simp; done) | (go_simp; rfl)); (case hp => exact (Reps.none _ _)); intro v464 w62 ho63 hb hg_ hnew_; clear hg_ hnew_; (first | rw [← Ny463.out] at ho63 | (simp only [Int.reduceToNat] at ho63; rw [← Ny463.out] at ho63)); have n0_ := Aside0.mk (Kd.R_lower ho63 (below_size (by repeat (first | (with_reducible first | exact HB.out | apply below_alloc | apply pw_below_drewN | apply below_drew1) | exact HB.out)))); have n1_ := Aside0.mk (below_step (by repeat (first | (with_reducible first | exact HB.out | apply below_alloc | apply pw_below_drewN | apply below_drew1) | exact HB.out)) hb); clear HB; have HO465 := n0_; have HB := n1_; clear n0_ n1_; clear hb ho63) | ((with_reducible refine gate_builtin (b := .append) (xs := #[.tmp 79, .tmp 80]) rfl ?_); at_builtin; refine Kd.R_append_rows (Kd.int .u8) (w0 := w) w.heap.size rfl (.tmp 79) (.tmp 80) 23 5 (.int .u8 0) 1 rfl Try.underlying23 info5 rfl (by decide) (by omega) v464 y463 l0 _ _ _ (fun _ => True) (fun _ => False) rfl rfl ?aO ?aR (fun _ _ h => h) (fun _ h => h.elim) ?aF ?aB ?aS ?aL ?_; (case aR => repeat (first | exact (Kd.C_below HR0.out HB.out) | (with_reducible refine Kd.C_alloc ?_ _) | (with_reducible refine Kd.C_drewN ?_ _) | (with_reducible refine Kd.C_drew ?_))); (case aB => exact (by repeat (first | (with_reducible first | exact HB.out | apply below_alloc | apply pw_below_drewN | apply below_drew1) | exact HB.out))); (case aF => exact (fun _ _ => trivial)); (case aO => exact (by (with_reducible repeat (first | apply Kd.R_alloc | apply Kd.R_drewN | apply Kd.R_drew)); exact HO465.out)); (case aS => exact (below_size (by repeat (first | (with_reducible first | exact HB.out | apply below_alloc | apply pw_below_drewN | apply below_drew1) | exact HB.out)))); (case aL => have := LMc47.out; omega); intro v467 w64 ho hb hg hat; rw [← Ny466.out] at ho; have n0_ := Aside0.mk (hb); have n1_ := Aside0.mk (ho); clear HB; clear HO465; have HB := n0_; have HO468 := n1_; clear n0_ n1_; clear ho hb hg hat; obtain ⟨Ao65, co65, eo65⟩ := Kd.R_slice HO468.out; subst eo65) | ((with_reducible refine gate_callee (f := 16) rfl ?_); refine goesL_ (some 82) rfl rfl Try.func16 (by kernel_rfl) rfl #[.slice Ao65 y466.length co65] rfl (by (try simp only [List.map_toArray, List.map_cons, List.map_nil]); first | done | rfl | (simp only [List.length_drop, List.length_take]; rfl)) ?_; (with_reducible refine (wire_Cut.calls kj25 _ _ y466 t469 t470 t471 _ ?side1 ?side2 A48.out).mono ?_); (case side1 => repeat (first | exact (Kd.R_reads' HO468.out).2.2 | (with_reducible refine Kd.C_alloc ?_ _) | (with_reducible refine Kd.C_drewN ?_ _) | (with_reducible refine Kd.C_drew ?_))); (case side2 => exact (Kd.R_reads' HO468.out).2.1); rintro e w66 ⟨v472, v474, rfl, ho0, ho1, hb⟩; refine ⟨_, rfl, ?_⟩; have n0_ := Aside0.mk (Kd.R_mono (Kd.R_told (Kd.R_told (Kd.R_old (by (with_reducible repeat (first | apply Kd.R_alloc | apply Kd.R_drewN | apply Kd.R_drew)); exact HO468.out) hb) (Kd.R_base ho0)) (Kd.R_base ho1)) (fun _ h_ => h_.1)); have n1_ := Aside0.mk (Kd.R_lower (Kd.R_new' ho0 (Kd.R_lt (by (with_reducible repeat (first | apply Kd.R_alloc | apply Kd.R_drewN | apply Kd.R_drew)); exact HO468.out))) (below_size (by repeat (first | (with_reducible first | exact HB.out | apply below_alloc | apply pw_below_drewN | apply below_drew1) | exact HB.out)))); have n2_ := Aside0.mk (Kd.R_lower (Kd.R_new' ho1 (Kd.R_lt (by (with_reducible repeat (first | apply Kd.R_alloc | apply Kd.R_drewN | apply Kd.R_drew)); exact HO468.out))) (below_size (by repeat (first | (with_reducible first | exact HB.out | apply below_alloc | apply pw_below_drewN | apply below_drew1) | exact HB.out)))); have n3_ := Aside0.mk (below_step (by repeat (first | (with_reducible first | exact HB.out | apply below_alloc | apply pw_below_drewN | apply below_drew1) | exact HB.out)) hb); clear HO468; clear HB; have HO468 := n0_; have HO473 := n1_; have HO475 := n2_; have HB := n3_; clear n0_ n1_ n2_ n3_; (try clear hb); (try clear hb2); (try clear hk); (try clear hi); (try clear ho0); (try clear ho1)) | ((with_reducible refine gate_callee (f := 21) rfl ?_); refine goesL_ (some 88) rfl rfl Try.func21 (by kernel_rfl) rfl #[.slice A0 l0.length c0] rfl (by (try simp only [List.map_toArray, List.map_cons, List.map_nil]); first | done | rfl | (simp only [List.length_drop, List.length_take]; rfl)) ?_; (with_reducible refine (ropewayref02_Cut.calls kj25 _ _ l0 t476 t477 t478 _ ?side1 ?side2 A49.out).mono ?_); (case side1 => repeat (first | exact (Kd.C_below HR0.out HB.out) | (with_reducible refine Kd.C_alloc ?_ _) | (with_reducible refine Kd.C_drewN ?_ _) | (with_reducible refine Kd.C_drew ?_))); (case side2 => exact HC0.out); rintro e w67 ⟨v479, v481, rfl, ho0, ho1, hb⟩; refine ⟨_, rfl, ?_⟩; have n0_ := Aside0.mk (Kd.R_below (by (with_reducible repeat (first | apply Kd.R_alloc | apply Kd.R_drewN | apply Kd.R_drew)); exact HO468.out) hb); have n1_ := Aside0.mk (Kd.R_below (by (with_reducible repeat (first | apply Kd.R_alloc | apply Kd.R_drewN | apply Kd.R_drew)); exact HO473.out) hb); have n2_ := Aside0.mk (Kd.R_below (by (with_reducible repeat (first | apply Kd.R_alloc | apply Kd.R_drewN | apply Kd.R_drew)); exact HO475.out) hb); have n3_ := Aside0.mk ho0; have n4_ := Aside0.mk ho1; have n5_ := Aside0.mk (below_step (by repeat (first | (with_reducible first | exact HB.out | apply below_alloc | apply pw_below_drewN | apply below_drew1) | exact HB.out)) hb); clear HO468; clear HO473; clear HO475; clear HB; have HO468 := n0_; have HO473 := n1_; have HO475 := n2_; have HO480 := n3_; have HO482 := n4_; have HB := n5_; clear n0_ n1_ n2_ n3_ n4_ n5_; (try clear hb); (try clear hb2); (try clear hk); (try clear hi); (try clear ho0); (try clear ho1); have hcv68 := own_string (P := Try.prog) Try.underlying23 Try.underlying5 Try.underlying9 (Kd.own_of_R HO473.out); have hcv68q := fun n_ => own_string (P := Try.prog) Try.underlying23 Try.underlying5 Try.underlying9 (Kd.own_of_R (Kd.R_drewN HO473.out n_)); have hcv69 := shared_string (P := Try.prog) Try.underlying23 Try.underlying5 Try.underlying9 HO480.out; have hcv70 := own_string (P := Try.prog) Try.underlying23 Try.underlying5 Try.underlying9 (Kd.own_of_R HO475.out); have hcv70q := fun n_ => own_string (P := Try.prog) Try.underlying23 Try.underlying5 Try.underlying9 (Kd.own_of_R (Kd.R_drewN HO475.out n_)); have hcv71 := shared_string (P := Try.prog) Try.underlying23 Try.underlying5 Try.underlying9 HO482.out))
                          go_ret
                          exact ⟨by first | rfl | (simp [errW_none, errW_some] <;> rfl) | (simp [*, errW_none, errW_some] <;> rfl), by repeat (first | (with_reducible first | exact HB.out | apply below_alloc | apply pw_below_drewN | apply below_drew1) | exact HB.out)⟩
                      · rw [if_neg c50] at H
                        have c50b0 : ((strOfNums t469).toList == (strOfNums t476).toList) = false := beq_eq_false_iff_ne.mpr c50
                        have c50b1 : ((strOfNums t469).toList != (strOfNums t476).toList) = true := bne_iff_ne.mpr c50
                        obtain rfl := Option.some.inj H
                        go_wp2_with (first | ((with_reducible refine gate_dst (N := 79) rfl ?_); refine Kd.R_lit (Kd.int .u8) _ 5 ?hg (N := 79) ?hd (xs := ([] : List Int)) (inner := []) (ok := fun _ => True) (okp := fun _ => True) ?hr ?hp (fun _ hk => hk) trivial (Below.refl _ _) (Nat.le_refl _) (by simp) ?_; (case hd => rfl); (case hg => rfl); (case hr => first | (go_simp; done) | (go_simp; rfl)); (case hp => exact (Reps.none _ _)); intro v464 w72 ho73 hb hg_ hnew_; clear hg_ hnew_; (first | rw [← Ny463.out] at ho73 | (simp only [Int.reduceToNat] at ho73; rw [← Ny463.out] at ho73)); have n0_ := Aside0.mk (Kd.R_lower ho73 (below_size (by repeat (first | (with_reducible first | exact HB.out | apply below_alloc | apply pw_below_drewN | apply below_drew1) | exact HB.out)))); have n1_ := Aside0.mk (below_step (by repeat (first | (with_reducible first | exact HB.out | apply below_alloc | apply pw_below_drewN | apply below_drew1) | exact HB.out)) hb); clear HB; have HO465 := n0_; have HB := n1_; clear n0_ n1_; clear hb ho73) | ((with_reducible refine gate_builtin (b := .append) (xs := #[.tmp 79, .tmp 80]) rfl ?_); at_builtin; refine Kd.R_append_rows (Kd.int .u8) (w0 := w) w.heap.size rfl (.tmp 79) (.tmp 80) 23 5 (.int .u8 0) 1 rfl Try.underlying23 info5 rfl (by decide) (by omega) v464 y463 l0 _ _ _ (fun _ => True) (fun _ => False) rfl rfl ?aO ?aR (fun _ _ h => h) (fun _ h => h.elim) ?aF ?aB ?aS ?aL ?_; (case aR => repeat (first | exact (Kd.C_below HR0.out HB.out) | (with_reducible refine Kd.C_alloc ?_ _) | (with_reducible refine Kd.C_drewN ?_ _) | (with_reducible refine Kd.C_drew ?_))); (case aB => exact (by repeat (first | (with_reducible first | exact HB.out | apply below_alloc | apply pw_below_drewN | apply below_drew1) | exact HB.out))); (case aF => exact (fun _ _ => trivial)); (case aO => exact (by (with_reducible repeat (first | apply Kd.R_alloc | apply Kd.R_drewN | apply Kd.R_drew)); exact HO465.out)); (case aS => exact (below_size (by repeat (first | (with_reducible first | exact HB.out | apply below_alloc | apply pw_below_drewN | apply below_drew1) | exact HB.out)))); (case aL => have := LMc47.out; omega); intro v467 w74 ho hb hg hat; rw [← Ny466.out] at ho; have n0_ := Aside0.mk (hb); have n1_ := Aside0.mk (ho); clear HB; clear HO465; have HB := n0_; have HO468 := n1_; clear n0_ n1_; clear ho hb hg hat; obtain ⟨Ao75, co75, eo75⟩ := Kd.R_slice HO468.out; subst eo75) | ((with_reducible refine gate_callee (f := 16) rfl ?_); refine goesL_ (some 82) rfl rfl Try.func16 (by kernel_rfl) rfl #[.slice Ao75 y466.length co75] rfl (by (try simp only [List.map_toArray, List.map_cons, List.map_nil]); first | done | rfl | (simp only [List.length_drop, List.length_take]; rfl)) ?_; (with_reducible refine (wire_Cut.calls kj25 _ _ y466 t469 t470 t471 _ ?side1 ?side2 A48.out).mono ?_); (case side1 => repeat (first | exact (Kd.R_reads' HO468.out).2.2 | (with_reducible refine Kd.C_alloc ?_ _) | (with_reducible refine Kd.C_drewN ?_ _) | (with_reducible refine Kd.C_drew ?_))); (case side2 => exact (Kd.R_reads' HO468.out).2.1); rintro e w76 ⟨v472, v474, rfl, ho0, ho1, hb⟩; refine ⟨_, rfl, ?_⟩; have n0_ := Aside0.mk (Kd.R_mono (Kd.R_told (Kd.R_told (Kd.R_old (by (with_reducible repeat (first | apply Kd.R_alloc | apply Kd.R_drewN | apply Kd.R_drew)); exact HO468.out) hb) (Kd.R_base ho0)) (Kd.R_base ho1)) (fun _ h_ => h_.1)); have n1_ := Aside0.mk (Kd.R_lower (Kd.R_new' ho0 (Kd.R_lt (by (with_reducible repeat (first | apply Kd.R_alloc | apply Kd.R_drewN | apply Kd.R_drew)); exact HO468.out))) (below_size (by repeat (first | (with_reducible first | exact HB.out | apply below_alloc | apply pw_below_drewN | apply below_drew1) | exact HB.out)))); have n2_ := Aside0.mk (Kd.R_lower (Kd.R_new' ho1 (Kd.R_lt (by (with_reducible repeat (first | apply Kd.R_alloc | apply Kd.R_drewN | apply Kd.R_drew)); exact HO468.out))) (below_size (by repeat (first | (with_reducible first | exact HB.out | apply below_alloc | apply pw_below_drewN | apply below_drew1) | exact HB.out)))); have n3_ := Aside0.mk (below_step (by repeat (first | (with_reducible first | exact HB.out | apply below_alloc | apply pw_below_drewN | apply below_drew1) | exact HB.out)) hb); clear HO468; clear HB; have HO468 := n0_; have HO473 := n1_; have HO475 := n2_; have HB := n3_; clear n0_ n1_ n2_ n3_; (try clear hb); (try clear hb2); (try clear hk); (try clear hi); (try clear ho0); (try clear ho1)) | ((with_reducible refine gate_callee (f := 21) rfl ?_); refine goesL_ (some 88) rfl rfl Try.func21 (by kernel_rfl) rfl #[.slice A0 l0.length c0] rfl (by (try simp only [List.map_toArray, List.map_cons, List.map_nil]); first | done | rfl | (simp only [List.length_drop, List.length_take]; rfl)) ?_; (with_reducible refine (ropewayref02_Cut.calls kj25 _ _ l0 t476 t477 t478 _ ?side1 ?side2 A49.out).mono ?_); (case side1 => repeat (first | exact (Kd.C_below HR0.out HB.out) | (with_reducible refine Kd.C_alloc ?_ _) | (with_reducible refine Kd.C_drewN ?_ _) | (with_reducible refine Kd.C_drew ?_))); (case side2 => exact HC0.out); rintro e w77 ⟨v479, v481, rfl, ho0, ho1, hb⟩; refine ⟨_, rfl, ?_⟩; have n0_ := Aside0.mk (Kd.R_below (by (with_reducible repeat (first | apply Kd.R_alloc | apply Kd.R_drewN | apply Kd.R_drew)); exact HO468.out) hb); have n1_ := Aside0.mk (Kd.R_below (by (with_reducible repeat (first | apply Kd.R_alloc | apply Kd.R_drewN | apply Kd.R_drew)); exact HO473.out) hb); have n2_ := Aside0.mk (Kd.R_below (by (with_reducible repeat (first | apply Kd.R_alloc | apply Kd.R_drewN | apply Kd.R_drew)); exact HO475.out) hb); have n3_ := Aside0.mk ho0; have n4_ := Aside0.mk ho1; have n5_ := Aside0.mk (below_step (by repeat (first | (with_reducible first | exact HB.out | apply below_alloc | apply pw_below_drewN | apply below_drew1) | exact HB.out)) hb); clear HO468; clear HO473; clear HO475; clear HB; have HO468 := n0_; have HO473 := n1_; have HO475 := n2_; have HO480 := n3_; have HO482 := n4_; have HB := n5_; clear n0_ n1_ n2_ n3_ n4_ n5_; (try clear hb); (try clear hb2); (try clear hk); (try clear hi); (try clear ho0); (try clear ho1); have hcv78 := own_string (P := Try.prog) Try.underlying23 Try.underlying5 Try.underlying9 (Kd.own_of_R HO473.out); have hcv78q := fun n_ => own_string (P := Try.prog) Try.underlying23 Try.underlying5 Try.underlying9 (Kd.own_of_R (Kd.R_drewN HO473.out n_)); have hcv79 := shared_string (P := Try.prog) Try.underlying23 Try.underlying5 Try.underlying9 HO480.out))
                        go_ret
                        exact ⟨by first | rfl | (simp [errW_none, errW_some] <;> rfl) | (simp [*, errW_none, errW_some] <;> rfl), by repeat (first | (with_reducible first | exact HB.out | apply below_alloc | apply pw_below_drewN | apply below_drew1) | exact HB.out)⟩
                    · rw [if_neg c47] at H
                      exact absurd H (by simp)
            · rw [if_neg c23] at H
              exact absurd H (by simp)
    · rw [if_neg c5] at H
      exact absurd H (by simp)
  · replace c4 := Bool.eq_false_iff.mpr c4
    subst c4
    have H1 : (some false) = some r := by rw [if_neg (show ¬ (false = true) by decide)] at H; exact H
    clear H
    have H := H1
    clear H1
    obtain rfl := Option.some.inj H
    go_enter Try.func8, Try.ntmps8
    go_wp2_with (first | ((with_reducible refine gate_callee (f := 11) rfl ?_); refine goesL_ (some 15) rfl rfl Try.func11 (by kernel_rfl) rfl #[] rfl (by (try simp only [List.map_toArray, List.map_cons, List.map_nil]); first | done | rfl | (simp only [List.length_drop, List.length_take]; rfl)) ?_; (with_reducible refine (ropewaylaw02_wireAlive.calls k  false _ A3.out).mono ?_); rintro e w80 ⟨rfl, hb⟩; refine ⟨_, rfl, ?_⟩; have n0_ := Aside0.mk (below_step (by repeat (first | (with_reducible first | exact HB.out | apply below_alloc | apply pw_below_drewN | apply below_drew1) | exact HB.out)) hb); clear HB; have HB := n0_; clear n0_; (try clear hb); (try clear hb2); (try clear hk); (try clear hi)))
    go_ret
    exact ⟨by first | rfl | (simp [errW_none, errW_some] <;> rfl) | (simp [*, errW_none, errW_some] <;> rfl), by repeat (first | (with_reducible first | exact HB.out | apply below_alloc | apply pw_below_drewN | apply below_drew1) | exact HB.out)⟩

/-- THE ONE PURE STATEMENT of ropewaylaw02_WireGets: yours. -/
def ropewaylaw02_WireGets.Pure : Prop := ∀ (l0 : List Int) (a1 : Int), l0.length ≤ maxLen → l0.length * 1 ≤ 140737488351232 → (∀ x ∈ l0, (Lit.int .u8 x).wf = true) → (Lit.int .i64 a1).wf = true → ∃ k, ropewaylaw02_WireGets.f k l0 a1 = some true
theorem ropewaylaw02_WireGets.walk (P : ropewaylaw02_WireGets.Pure) (a0 : Option Addr) (len0 cap0 : Nat) (z0 : List Int) (a1 : Int) (w : World) (w0 : (a0 = none ∧ len0 = 0 ∧ cap0 = 0 ∧ z0 = []) ∨ ∃ x, a0 = some x ∧ len0 ≤ cap0 ∧ cap0 ≤ maxLen ∧ z0.length = cap0 ∧ (∀ i, i < z0.length → w.cell? (x.add i) = some (.int .u8 (z0.getD i 0))) ∧ ∀ n ∈ z0, (Lit.int .u8 n).wf = true) (y0 : len0 * 1 ≤ 140737488351232) (w1 : (Lit.int .i64 a1).wf = true) :
    Calls Try.prog 8 #[.slice a0 len0 cap0, .int .i64 a1] w fun e w' => e = .returned (.bool true) ∧ Below w.heap.size w w' := by
  obtain ⟨l0, rfl, hr0, hm0, hw0, hc0⟩ := ReadsInt.ofRowC w0
  obtain ⟨k, h⟩ := P l0 a1 hm0 y0 hw0 w1
  refine (ropewaylaw02_WireGets.calls k _ _ l0 a1 true w (Kd.C_of_reads (d := (0 : Int)) (h1 := fun _ => rfl) hr0) hc0 h).mono ?_
  rintro e w' ⟨rfl, hd⟩
  exact ⟨rfl, hd⟩


end Go.Proofs.Ytejhoojndkiijaa.PAll
