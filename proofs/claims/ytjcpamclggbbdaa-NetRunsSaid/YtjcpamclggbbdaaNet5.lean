/- The net's Len, At, Spoil, as contracts. -/
import Derived.Test.YtjcpamclggbbdaaNet4
namespace Go.Proofs.Ytjcpamclggbbdaa.PNgt
open Go.RowKit Go.Proofs.YtjcpamclggbbdaaW.PrintWords Go.Proofs.YtjcpamclggbbdaaW.PrintLast Go.Proofs.YtjcpamclggbbdaaW.PrintMore
attribute [local go_sem] max2_int min2_int max_two min_two max_three min_three max_four min_four
set_option linter.unusedVariables false
set_option linter.unusedSimpArgs false
def net_Net_Len.f (l : List S72) : Option (Int × List S72) := some ((l.length : Int), l)
theorem net_Net_Len.calls (g : Nat) (s0_0 : List S72) (r1 : Int) (r2 : List S72) (w0 w : World) (hI : IsS70 w0 w g s0_0) (hB : Below w0.heap.size w0 w) (h : net_Net_Len.f s0_0 = some (r1, r2)) :
    Calls Try.prog 27 #[.pointer (some ⟨g, 0, none⟩)] w fun e w' => e = .returned (.int .i64 r1) ∧ IsS70 w0 w' g r2 ∧ Below w0.heap.size w0 w' ∧ KeepBut w w' g none := by
  simp only [net_Net_Len.f, Option.some.injEq, Prod.mk.injEq] at h
  obtain ⟨rfl, rfl⟩ := h
  obtain ⟨A, c, h1, h2, h3⟩ := id hI
  refine (netLen g A _ c w h1).mono ?_
  rintro e w' ⟨rfl, rfl⟩
  exact ⟨rfl, hI, hB, KeepBut.refl _ _ _⟩
def net_Net_At.f (l : List S72) (i : Int) : Option (List Int × Bool × List S72) :=
  if 0 ≤ i ∧ i < (l.length : Int) then (if (rd_T72 l i).f0.length < 140737488355328 then some ((rd_T72 l i).f0, true, l) else none) else some ([], false, l)
theorem net_Net_At.calls (g : Nat) (s0_0 : List S72) (a1 : Int) (r1 : List Int) (r2 : Bool) (r3 : List S72) (w0 w : World) (hI : IsS70 w0 w g s0_0) (hB : Below w0.heap.size w0 w) (h : net_Net_At.f s0_0 a1 = some (r1, r2, r3)) :
    Calls Try.prog 25 #[.pointer (some ⟨g, 0, none⟩), .int .i64 a1] w fun e w' => ∃ v0_ : Value, e = .returned (.tuple #[v0_, .bool r2]) ∧ Kd.R (Kd.int .u8) 5 w' w.heap.size (fun _ => True) v0_ r1 ∧ IsS70 w0 w' g r3 ∧ Below w0.heap.size w0 w' ∧ KeepBut w w' g none := by
  unfold net_Net_At.f at h
  obtain ⟨A, c, h1, h2, h3⟩ := id hI
  split at h
  · rename_i hi
    split at h
    case isFalse => cases h
    case isTrue hl =>
    simp only [Option.some.injEq, Prod.mk.injEq] at h
    obtain ⟨rfl, rfl, rfl⟩ := h
    refine (netAt_yes g A c s0_0 a1 w h1 (Kd.R_reads' h2).2.2 hi.1 hi.2 hl).mono ?_
    rintro e w' ⟨u, rfl, hu, hb⟩
    exact ⟨u, rfl, hu, IsS70.below hI hb, hB.trans (hb.mono hB.size), KeepBut.of_below hb _ _⟩
  · rename_i hi
    simp only [Option.some.injEq, Prod.mk.injEq] at h
    obtain ⟨rfl, rfl, rfl⟩ := h
    refine (netAt_no g A _ c a1 w h1 hi).mono ?_
    rintro e w' ⟨rfl, rfl⟩
    exact ⟨_, rfl, Kd.R_nil _ _ _ _ _, hI, hB, KeepBut.refl _ _ _⟩
def net_Net_Spoil.f (l : List S72) (i at_ mask : Int) : Option (Bool × List S72) :=
  if 0 ≤ i ∧ i < (l.length : Int) then
    (if (rd_T72 l i).f1 = true then some (false, l)
     else (crc_Burst.f 40 (rd_T72 l i).f0 at_ mask).bind fun x => (slices_Equal_byte_byte.f (x.length + 5) x (rd_T72 l i).f0).bind fun q => if q = true then some (false, l) else some (true, l.set i.toNat (S72.mk x true)))
  else some (false, l)
theorem netSet {g blk cap i : Nat} {l : List S72} {x : List Int} {u : Value} {w : World} {base : Nat} (h : NetAt w g (.slice (some ⟨blk, 0, none⟩) l.length cap)) (hR : k72.R 72 w base (fun _ => True) (.slice (some ⟨blk, 0, none⟩) l.length cap) l) (hi : i < l.length)
    (hu : Kd.R (Kd.int .u8) 5 w base (fun k => k ≠ blk) u x) :
    NetAt ((w.setCell ⟨blk, i * 2, none⟩ u).setCell ⟨blk, i * 2 + 1, none⟩ (.bool true)) g (.slice (some ⟨blk, 0, none⟩) l.length cap) ∧
      k72.R 72 ((w.setCell ⟨blk, i * 2, none⟩ u).setCell ⟨blk, i * 2 + 1, none⟩ (.bool true)) base (fun _ => True) (.slice (some ⟨blk, 0, none⟩) (l.set i (S72.mk x true)).length cap) (l.set i (S72.mk x true)) ∧ base ≤ blk := by
  obtain ⟨hok, inner, ⟨hil, hown⟩, hreps⟩ := hR
  rcases hown with ⟨h1, _⟩ | ⟨g', cap', cur, hv, hbase, hb, hnc, hm, hcs, htake⟩
  · injection h1 with h2
    cases h2
  injection hv with e1 e2 e3
  injection e1 with e1
  injection e1 with e1
  subst e1 e3
  have hsz2 : k72.sz = 2 := rfl
  rw [hsz2] at hil hcs htake hreps
  have hne : g ≠ blk := by
    rintro rfl
    unfold NetAt at h
    rw [h] at hb
    injection hb with hb
    injection hb with _ hb
    exact absurd hb (by decide)
  have hw : (w.setCell ⟨blk, i * 2, none⟩ u).setCell ⟨blk, i * 2 + 1, none⟩ (.bool true) = w.setCells blk (i * 2) [u, .bool true] := rfl
  have hcl : cur.toList.length = cap * 2 := by rw [← hcs]; simp
  obtain ⟨cur1, hb1, hs1, ht1⟩ := cells_kept (vs := [u, .bool true]) (o := i * 2) hb (by simp only [List.length_cons, List.length_nil, hcs]; omega)
  have hfar : ∀ k, k ≠ blk → (w.setCells blk (i * 2) [u, .bool true]).heap[k]? = w.heap[k]? := fun k hk => setCells_far _ _ _ hk
  rw [hw]
  generalize w.setCells blk (i * 2) [u, .bool true] = w2 at hb1 hfar ⊢
  refine ⟨(hfar g hne).trans h, ⟨fun _ _ => trivial, inner.take (i * 2) ++ [u, .bool true] ++ inner.drop (i * 2 + 2), ⟨?_, .inr ⟨blk, cap, cur1, rfl, hbase, hb1, by rw [List.length_set]; omega, hm, by rw [hs1, hcs, hsz2], ?_⟩⟩, ?_⟩, hbase⟩
  · rw [List.length_append, List.length_append, List.length_take, List.length_drop, hil, List.length_set]
    simp only [List.length_cons, List.length_nil, hsz2]
    omega
  · have hl1 : (cur.toList.take (i * 2)).length = i * 2 := by rw [List.length_take, hcl]; omega
    have hl2 : (cur.toList.take (i * 2) ++ [u, Value.bool true]).length = i * 2 + 2 := by rw [List.length_append, hl1]; rfl
    rw [ht1, List.length_set, hsz2, List.take_append, List.take_of_length_le (by rw [hl2]; omega), hl2, ← htake, List.take_take, List.drop_take]
    have e : min (i * 2) (l.length * 2) = i * 2 := by omega
    rw [e]
    rfl
  · have hM : k72.M w2 base (fun k => True ∧ some k ≠ (Value.slice (some ⟨blk, 0, none⟩) (l.set i (S72.mk x true)).length cap).ownBlock) (S72.mk x true) [u, .bool true] := by
      refine k72_mkM _ _ _ (S72.mk x true) (Kd.R_mono (Kd.R_step hu (fun k hk _ => hfar k hk)) (fun k hk => ⟨trivial, fun e => hk ?_⟩))
      simpa [Value.ownBlock] using e
    have hr2 : Reps (k72.M w2 base (fun k => True ∧ some k ≠ (Value.slice (some ⟨blk, 0, none⟩) (l.set i (S72.mk x true)).length cap).ownBlock)) 2 l inner := by
      refine hreps.imp_ (fun p c hp => ?_)
      refine k72.M_mono (fun k hk => hk) (Kd.M_step hp (fun k hk hlt => hfar k (fun e => hk.2 (by rw [e]; rfl))))
    exact Kd.reps_set hr2 hi hM rfl
theorem cell_below_ {w w1 : World} {a : Addr} {v : Value} (h : w.cell? a = some v) (hb : Below w.heap.size w w1) : w1.cell? a = some v := by
  have hlt := World.block_lt_of_cell? w a h
  have := hb.block a.block hlt
  simpa [World.cell?, this] using h
set_option maxHeartbeats 8000000 in
theorem spoil_no (g : Nat) (A : Option Addr) (n c : Nat) (a1 a2 a3 : Int) (w : World) (h : NetAt w g (.slice A n c)) (hi : ¬ (0 ≤ a1 ∧ a1 < (n : Int))) :
    Calls Try.prog 29 #[.pointer (some ⟨g, 0, none⟩), .int .i64 a1, .int .i64 a2, .int .u32 a3] w fun e w' => e = .returned (.bool false) ∧ w' = w := by
  have e2 : decide (0 ≤ a1 ∧ a1 < (n : Int)) = false := decide_eq_false hi
  have HT := Aside0.mk (netThere g A n c a1 w h)
  rw [e2] at HT
  clear h hi e2
  go_enter Try.func29, Try.ntmps29
  go_wp2_with (first | ((with_reducible refine gate_callee (f := 40) rfl ?_); refine goesL_ (some 12) rfl rfl Try.func40 (by kernel_rfl) rfl #[.pointer (some ⟨g, 0, none⟩), .int .i64 a1] rfl (by (try simp only [List.map_toArray, List.map_cons, List.map_nil]); first | done | rfl) ?_; (with_reducible refine HT.out.mono ?_); rintro e w1 ⟨rfl, rfl⟩; refine ⟨_, rfl, ?_⟩))
  go_ret
  exact ⟨rfl, rfl⟩
set_option maxHeartbeats 8000000 in
theorem spoil_was (g : Nat) (A : Option Addr) (c : Nat) (l : List S72) (a1 a2 a3 : Int) (w : World) (h : NetAt w g (.slice A l.length c)) (hC : Kd.C k72 w A l.length l) (h0 : 0 ≤ a1) (h1 : a1 < (l.length : Int)) (hs : (rd_T72 l a1).f1 = true) :
    Calls Try.prog 29 #[.pointer (some ⟨g, 0, none⟩), .int .i64 a1, .int .i64 a2, .int .u32 a3] w fun e w' => e = .returned (.bool false) ∧ w' = w := by
  have e2 : decide (0 ≤ a1 ∧ a1 < (l.length : Int)) = true := decide_eq_true ⟨h0, h1⟩
  have HT := Aside0.mk (netThere g A l.length c a1 w h)
  rw [e2] at HT
  obtain ⟨ad, A0, c0, rfl, x0, x1, hl, hF⟩ := at_T72 hC a1 h0 h1
  rw [hs] at x1
  have d0 : decide (0 ≤ a1) = true := decide_eq_true h0
  have d1 : decide (a1 < (l.length : Int)) = true := decide_eq_true h1
  have b0 := eq_true h0
  have b1 := eq_true h1
  have k0 := h.c0
  clear e2 hC hF hl h h0 h1 hs
  go_enter Try.func29, Try.ntmps29
  go_wp2_with (first | ((with_reducible refine gate_callee (f := 40) rfl ?_); refine goesL_ (some 12) rfl rfl Try.func40 (by kernel_rfl) rfl #[.pointer (some ⟨g, 0, none⟩), .int .i64 a1] rfl (by (try simp only [List.map_toArray, List.map_cons, List.map_nil]); first | done | rfl) ?_; (with_reducible refine HT.out.mono ?_); rintro e w1 ⟨rfl, rfl⟩; refine ⟨_, rfl, ?_⟩))
  go_ret
  exact ⟨rfl, rfl⟩
def SpoilPost (w w' : World) (blk ia : Nat) (x : List Int) (q : Bool) : Prop := ∃ w2 u, Below w.heap.size w w2 ∧ Kd.R (Kd.int .u8) 5 w2 w.heap.size (fun _ => True) u x ∧ w' = if q = true then w2 else (w2.setCell ⟨blk, ia * 2, none⟩ u).setCell ⟨blk, ia * 2 + 1, none⟩ (.bool true)
theorem drawn_below_ {w w' : World} (h : Drawn0 w w') : Below w.heap.size w w' := by
  obtain ⟨nd, rfl⟩ := h
  exact pw_below_drewN (Below.refl _ _) nd
set_option maxHeartbeats 8000000 in
theorem spoil_yes (g blk c ia base : Nat) (l : List S72) (a2 a3 : Int) (x : List Int) (q : Bool) (w : World) (h : NetAt w g (.slice (some ⟨blk, 0, none⟩) l.length c)) (hR : k72.R 72 w base (fun _ => True) (.slice (some ⟨blk, 0, none⟩) l.length c) l) (hi : ia < l.length) (hs : (rd_T72 l (ia : Int)).f1 = false)
    (hx : crc_Burst.f 40 (rd_T72 l (ia : Int)).f0 a2 a3 = some x) (hq' : slices_Equal_byte_byte.f (x.length + 5) x (rd_T72 l (ia : Int)).f0 = some q) :
    Calls Try.prog 29 #[.pointer (some ⟨g, 0, none⟩), .int .i64 (ia : Int), .int .i64 a2, .int .u32 a3] w fun e w' => e = .returned (.bool (!q)) ∧ SpoilPost w w' blk ia x q := by
  have h0 : 0 ≤ (ia : Int) := by omega
  have h1 : (ia : Int) < (l.length : Int) := by omega
  have e2 : decide (0 ≤ (ia : Int) ∧ (ia : Int) < (l.length : Int)) = true := decide_eq_true ⟨h0, h1⟩
  obtain ⟨a1, ha1⟩ : ∃ a1 : Int, a1 = (ia : Int) := ⟨_, rfl⟩
  have HT := Aside0.mk (netThere g _ l.length c (ia : Int) w h)
  rw [e2] at HT
  obtain ⟨ad, A0, c0, hA, x0, x1, hl, hF⟩ := at_T72 (Kd.R_reads' hR).2.2 (ia : Int) h0 h1
  obtain rfl : (⟨blk, 0, none⟩ : Addr) = ad := Option.some.inj hA
  rw [hs] at x1
  rw [Int.toNat_natCast, Addr.add_lit, Nat.zero_add] at x0 x1
  have HZ : Aside0 (∀ w2, Below w.heap.size w w2 → ∀ k, w2.frozen? ⟨blk, k, none⟩ = false) := ⟨fun w2 hb k => by
    obtain ⟨cells, hc⟩ := Kd.R_typed hR blk rfl
    exact blk_frozen (blk_below hc hb) _⟩
  have HBu := Aside0.mk (crc_Burst.calls 40 A0 c0 _ a2 a3 x w hF hl hx)
  have HN := Aside0.mk h
  have HX0 := Aside0.mk x0
  have HX1 := Aside0.mk (show w.cell? ⟨blk, ia * 2 + 1, none⟩ = _ from x1)
  have HF := Aside0.mk hF
  have HLc := Aside0.mk hl
  have hQ := Aside0.mk hq'
  have d0 : decide (0 ≤ (ia : Int)) = true := decide_eq_true h0
  have d1 : decide ((ia : Int) < (l.length : Int)) = true := decide_eq_true h1
  have b1 := eq_true hi
  have k0 := h.c0
  clear e2 h0 h1 hA h hR hi hs hx hq' hl hF ha1 a1
  cases q
  · go_enter Try.func29, Try.ntmps29
    go_wp2_with (first | ((with_reducible refine gate_callee (f := 40) rfl ?_); refine goesL_ (some 12) rfl rfl Try.func40 (by kernel_rfl) rfl #[.pointer (some ⟨g, 0, none⟩), .int .i64 (ia : Int)] rfl (by (try simp only [List.map_toArray, List.map_cons, List.map_nil]); first | done | rfl) ?_; (with_reducible refine HT.out.mono ?_); rintro e w1 ⟨rfl, rfl⟩; refine ⟨_, rfl, ?_⟩) | (go_at_call 22; (with_reducible refine HBu.out.mono ?_); rintro e w2 ⟨u, rfl, hu, hb⟩; have HU := Aside0.mk hu; have HB2 := Aside0.mk hb; have hn2 := NetAt.below HN.out hb; have HN2 := Aside0.mk hn2; have k1 := NetAt.c0 hn2; have y0 := cell_below_ HX0.out hb; have y1 := cell_below_ HX1.out hb; have z0 := HZ.out w2 hb (ia * 2); have z1 := HZ.out w2 hb (ia * 2 + 1); obtain ⟨Au, cu, eu⟩ := Kd.R_slice hu; subst eu; have HEq := Aside0.mk (slices_Equal_byte_byte.calls (x.length + 5) Au cu x A0 c0 _ _ w2 (Kd.R_reads' hu).2.2 (Kd.R_reads' hu).2.1 (Kd.C_below HF.out hb) HLc.out hQ.out); clear hu hb hn2) | (go_at_call 36; (with_reducible refine HEq.out.mono ?_); rintro e w3 ⟨rfl, hd⟩; have hb3 := drawn_below_ hd; have HB3 := Aside0.mk (HB2.out.trans (hb3.mono HB2.out.size)); have HU3 := Aside0.mk (Kd.R_below HU.out hb3); have k3 := NetAt.c0 (NetAt.below HN2.out hb3); have y3 := cell_below_ HX0.out HB3.out; have y4 := cell_below_ HX1.out HB3.out; have z3 := HZ.out w3 HB3.out (ia * 2); have z4 := HZ.out w3 HB3.out (ia * 2 + 1); clear hd hb3))
    go_ret
    exact ⟨rfl, _, _, HB3.out, HU3.out, rfl⟩
  · go_enter Try.func29, Try.ntmps29
    go_wp2_with (first | ((with_reducible refine gate_callee (f := 40) rfl ?_); refine goesL_ (some 12) rfl rfl Try.func40 (by kernel_rfl) rfl #[.pointer (some ⟨g, 0, none⟩), .int .i64 (ia : Int)] rfl (by (try simp only [List.map_toArray, List.map_cons, List.map_nil]); first | done | rfl) ?_; (with_reducible refine HT.out.mono ?_); rintro e w1 ⟨rfl, rfl⟩; refine ⟨_, rfl, ?_⟩) | (go_at_call 22; (with_reducible refine HBu.out.mono ?_); rintro e w2 ⟨u, rfl, hu, hb⟩; have HU := Aside0.mk hu; have HB2 := Aside0.mk hb; have hn2 := NetAt.below HN.out hb; have HN2 := Aside0.mk hn2; have k1 := NetAt.c0 hn2; have y0 := cell_below_ HX0.out hb; have y1 := cell_below_ HX1.out hb; have z0 := HZ.out w2 hb (ia * 2); have z1 := HZ.out w2 hb (ia * 2 + 1); obtain ⟨Au, cu, eu⟩ := Kd.R_slice hu; subst eu; have HEq := Aside0.mk (slices_Equal_byte_byte.calls (x.length + 5) Au cu x A0 c0 _ _ w2 (Kd.R_reads' hu).2.2 (Kd.R_reads' hu).2.1 (Kd.C_below HF.out hb) HLc.out hQ.out); clear hu hb hn2) | (go_at_call 36; (with_reducible refine HEq.out.mono ?_); rintro e w3 ⟨rfl, hd⟩; have hb3 := drawn_below_ hd; have HB3 := Aside0.mk (HB2.out.trans (hb3.mono HB2.out.size)); have HU3 := Aside0.mk (Kd.R_below HU.out hb3); have k3 := NetAt.c0 (NetAt.below HN2.out hb3); have y3 := cell_below_ HX0.out HB3.out; have y4 := cell_below_ HX1.out HB3.out; have z3 := HZ.out w3 HB3.out (ia * 2); have z4 := HZ.out w3 HB3.out (ia * 2 + 1); clear hd hb3))
    go_ret
    exact ⟨rfl, _, _, HB3.out, HU3.out, rfl⟩
theorem net_Net_Spoil.calls (g : Nat) (s0_0 : List S72) (a1 : Int) (a2 : Int) (a3 : Int) (r1 : Bool) (r2 : List S72) (w0 w : World) (hI : IsS70 w0 w g s0_0) (hB : Below w0.heap.size w0 w) (h : net_Net_Spoil.f s0_0 a1 a2 a3 = some (r1, r2)) :
    Calls Try.prog 29 #[.pointer (some ⟨g, 0, none⟩), .int .i64 a1, .int .i64 a2, .int .u32 a3] w fun e w' => e = .returned (.bool r1) ∧ IsS70 w0 w' g r2 ∧ Below w0.heap.size w0 w' ∧ KeepT w w' g := by
  unfold net_Net_Spoil.f at h
  obtain ⟨A, c, h1, h2, h3⟩ := id hI
  split at h
  · rename_i hi
    split at h
    · rename_i hs
      simp only [Option.some.injEq, Prod.mk.injEq] at h
      obtain ⟨rfl, rfl⟩ := h
      refine (spoil_was g A c s0_0 a1 a2 a3 w h1 (Kd.R_reads' h2).2.2 hi.1 hi.2 hs).mono ?_
      rintro e w' ⟨rfl, rfl⟩
      exact ⟨rfl, hI, hB, KeepT.refl _ _⟩
    · rename_i hs
      have hs' : (rd_T72 s0_0 a1).f1 = false := by simpa using hs
      obtain ⟨x, hx, h⟩ := Option.bind_eq_some_iff.mp h
      obtain ⟨q, hq, h⟩ := Option.bind_eq_some_iff.mp h
      obtain ⟨ia, rfl⟩ : ∃ n : Nat, a1 = (n : Int) := ⟨a1.toNat, by omega⟩
      have hia : ia < s0_0.length := by omega
      obtain ⟨blk, rfl, hbb, hblt⟩ := blk_of_R h2 (by omega)
      refine (spoil_yes g blk c ia _ s0_0 a2 a3 x q w h1 h2 hia hs' hx hq).mono ?_
      rintro e w' ⟨rfl, w2, u, hb, hu, hw'⟩
      cases q
      · simp only [Bool.false_eq_true, if_false, Option.some.injEq, Prod.mk.injEq] at h hw'
        obtain ⟨rfl, rfl⟩ := h
        subst hw'
        have hu2 : Kd.R (Kd.int .u8) 5 w2 w0.heap.size (fun k => k ≠ blk) u x := Kd.R_lower (Kd.R_mono (Kd.R_bound hu) (fun k hk e => by have := hk.2.1; omega)) hB.size
        obtain ⟨k1, k2, k3⟩ := netSet (NetAt.below h1 hb) (Kd.R_below h2 hb) hia hu2
        rw [Int.toNat_natCast]
        refine ⟨rfl, ⟨_, _, ?_, k2, h3⟩, ?_, ?_⟩
        · rw [List.length_set]
          exact k1
        · exact ((hB.trans (hb.mono hB.size)).setCell (p := ⟨blk, ia * 2, none⟩) hbb _).setCell (p := ⟨blk, ia * 2 + 1, none⟩) hbb _
        · refine ⟨Nat.le_trans hb.size (by simp [World.setCell]), fun i cs t fr hi' ht hb' => ?_⟩
          have hib : i ≠ blk := by
            rintro rfl
            obtain ⟨cells, hc⟩ := Kd.R_typed h2 i rfl
            rw [hc] at hb'
            injection hb' with hb'
            injection hb' with _ hb'
            exact ht hb'.symm
          exact (Below.heap_setCell _ ⟨blk, ia * 2 + 1, none⟩ _ i hib).trans ((Below.heap_setCell _ ⟨blk, ia * 2, none⟩ _ i hib).trans (hb.block i (blk_lt hb')))
      · simp only [if_true, Option.some.injEq, Prod.mk.injEq] at h hw'
        obtain ⟨rfl, rfl⟩ := h
        subst hw'
        exact ⟨rfl, IsS70.below hI hb, hB.trans (hb.mono hB.size), KeepT.of_below hb g⟩
  · rename_i hi
    simp only [Option.some.injEq, Prod.mk.injEq] at h
    obtain ⟨rfl, rfl⟩ := h
    refine (spoil_no g A _ c a1 a2 a3 w h1 hi).mono ?_
    rintro e w' ⟨rfl, rfl⟩
    exact ⟨rfl, hI, hB, KeepT.refl _ _⟩
end Go.Proofs.Ytjcpamclggbbdaa.PNgt
