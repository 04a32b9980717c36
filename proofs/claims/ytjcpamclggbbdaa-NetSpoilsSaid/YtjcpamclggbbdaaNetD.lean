/- Printed by a program of ours (wip/tool/ppn.py, over the kit's printer, and wip/tool/netfix.py): walks of functions that use a net, or that a net's functions use. -/
import Derived.Test.YtjcpamclggbbdaaNetB
import Derived.Test.YtjcpamclggbbdaaPNgtx3
import Derived.Test.YtjcpamclggbbdaaPNgtx4
namespace Go.Proofs.Ytjcpamclggbbdaa.PNgt
open Go.RowKit Go.Proofs.YtjcpamclggbbdaaW.PrintWords Go.Proofs.YtjcpamclggbbdaaW.PrintLast Go.Proofs.YtjcpamclggbbdaaW.PrintMore
attribute [local go_sem] max2_int min2_int max_two min_two max_three min_three max_four min_four   -- for this text's walks alone
set_option linter.unusedVariables false
set_option linter.unusedSimpArgs false

/-! ### ropewaylaw19_NetSpoils: function 14 -/
mutual
def ropewaylaw19_NetSpoils.j0 : Nat → List (List Int) → List (S52) → Bool → Option (Bool)
  | 0, _, _, _ => none
  | k + 1, x0, x1, x34 => if x34 = true then (some true) else ((net_New.f).bind fun t242 => (ropewaylaw19_NetSpoils.l0 k x0 x1 x0 (x0.length : Int) 0 t242))
def ropewaylaw19_NetSpoils.l0 : Nat → List (List Int) → List (S52) → List (List Int) → Int → Int → List S72 → Option (Bool)
  | 0, _, _, _, _, _, _ => none
  | k + 1, x0, x1, x36, x37, x38, x244000 => if x38 < x37 then (if 0 ≤ x38 then (if x38 < (x36.length : Int) then (if ((rd_L1 x36 x38).length : Int) > 500 then (some true) else ((crc_Seal.f k (rd_L1 x36 x38)).bind fun t245 => ((net_Net_Put.f x244000 t245).bind fun bt248 => (ropewaylaw19_NetSpoils.l0 k x0 x1 x36 x37 (wrap64 (x38 + 1)) bt248.2)))) else (none)) else (none)) else (ropewaylaw19_NetSpoils.l1 k x0 x1 (x1.length : Int) 0 x244000)
def ropewaylaw19_NetSpoils.l1 : Nat → List (List Int) → List (S52) → Int → Int → List S72 → Option (Bool)
  | 0, _, _, _, _, _ => none
  | k + 1, x0, x50, x51, x52, x244000 => if x52 < x51 then (if 0 ≤ x52 then (if x52 < (x50.length : Int) then (if ((rd_T52 x50 x52).f0) = 2 then ((net_Net_Double.f x244000 ((rd_T52 x50 x52).f1)).bind fun bt252 => (ropewaylaw19_NetSpoils.j3 k x0 x50 x51 x52 bt252.2 ((rd_T52 x50 x52).f0) ((rd_T52 x50 x52).f1) ((rd_T52 x50 x52).f2) ((rd_T52 x50 x52).f3) ((rd_T52 x50 x52).f4))) else (ropewaylaw19_NetSpoils.j3 k x0 x50 x51 x52 x244000 ((rd_T52 x50 x52).f0) ((rd_T52 x50 x52).f1) ((rd_T52 x50 x52).f2) ((rd_T52 x50 x52).f3) ((rd_T52 x50 x52).f4))) else (none)) else (none)) else (some true)
def ropewaylaw19_NetSpoils.j3 : Nat → List (List Int) → List (S52) → Int → Int → List S72 → Int → Int → Int → Int → List Int → Option (Bool)
  | 0, _, _, _, _, _, _, _, _, _, _ => none
  | k + 1, x0, x50, x51, x52, x244000, x252000, x252001, x252002, x252003, x252004 => if x252000 = 3 then ((net_Net_At.f x244000 x252001).bind fun bt254 => ((crc_Open.f k bt254.1).bind fun bt259 => ((net_Net_Spoil.f bt254.2.2 x252001 x252002 x252003).bind fun bt263 => (if bt263.1 = true then ((net_Net_At.f bt263.2 x252001).bind fun bt265 => ((crc_Open.f k bt265.1).bind fun bt270 => (if bt259.2 = 0 then (if bt270.2 = 0 then (some false) else (ropewaylaw19_NetSpoils.j4 k x0 x50 x51 x52 bt265.2.2 x252000 x252001 x252002 x252003 x252004)) else (some false)))) else (ropewaylaw19_NetSpoils.j4 k x0 x50 x51 x52 bt263.2 x252000 x252001 x252002 x252003 x252004))))) else (ropewaylaw19_NetSpoils.j4 k x0 x50 x51 x52 x244000 x252000 x252001 x252002 x252003 x252004)
def ropewaylaw19_NetSpoils.j4 : Nat → List (List Int) → List (S52) → Int → Int → List S72 → Int → Int → Int → Int → List Int → Option (Bool)
  | 0, _, _, _, _, _, _, _, _, _, _ => none
  | k + 1, x0, x50, x51, x52, x244000, x252000, x252001, x252002, x252003, x252004 => if x252000 = 1 then ((net_Net_Take.f x244000 x252001).bind fun bt274 => ((crc_Open.f k bt274.1).bind fun bt279 => (if bt274.2.1 = true then (ropewaylaw19_NetSpoils.j5 k x0 bt279.1 (bt279.2 != 0) x50 x51 x52 bt274.2.2) else (ropewaylaw19_NetSpoils.j5 k x0 bt279.1 true x50 x51 x52 bt274.2.2)))) else (ropewaylaw19_NetSpoils.l1 k x0 x50 x51 (wrap64 (x52 + 1)) x244000)
def ropewaylaw19_NetSpoils.j5 : Nat → List (List Int) → List Int → Bool → List (S52) → Int → Int → List S72 → Option (Bool)
  | 0, _, _, _, _, _, _, _ => none
  | k + 1, x0, x20, x22, x50, x51, x52, x244000 => ropewaylaw19_NetSpoils.l2 k x0 x20 x22 x50 x51 x52 x0 (x0.length : Int) 0 x244000
def ropewaylaw19_NetSpoils.l2 : Nat → List (List Int) → List Int → Bool → List (S52) → Int → Int → List (List Int) → Int → Int → List S72 → Option (Bool)
  | 0, _, _, _, _, _, _, _, _, _, _ => none
  | k + 1, x0, x20, x22, x50, x51, x52, x125, x126, x127, x244000 => if x127 < x126 then (if 0 ≤ x127 then (if x127 < (x125.length : Int) then (if x22 = true then (ropewaylaw19_NetSpoils.l2 k x0 x20 true x50 x51 x52 x125 x126 (wrap64 (x127 + 1)) x244000) else (ropewaylaw19_NetSpoils.l2 k x0 x20 ((strOfNums (rd_L1 x125 x127)).toList == (strOfNums x20).toList) x50 x51 x52 x125 x126 (wrap64 (x127 + 1)) x244000)) else (none)) else (none)) else (if x22 = true then (ropewaylaw19_NetSpoils.l1 k x0 x50 x51 (wrap64 (x52 + 1)) x244000) else (some false))
end
def ropewaylaw19_NetSpoils.f (k : Nat) (l0 : List (List Int)) (l1 : List (S52)) : Option (Bool) := (ropewaylaw19_netAlive.f k).bind fun t241 => (if t241 = true then (if (l0.length : Int) > 60 then (ropewaylaw19_NetSpoils.j0 k l0 l1 true) else (ropewaylaw19_NetSpoils.j0 k l0 l1 (decide ((l1.length : Int) > 200)))) else (some false))
theorem ropewaylaw19_NetSpoils.mono_l : ∀ k, (∀ y0 y1 y2, LeO (ropewaylaw19_NetSpoils.j0 k y0 y1 y2) (ropewaylaw19_NetSpoils.j0 (k + 1) y0 y1 y2)) ∧ (∀ y0 y1 y2 y3 y4 y5, LeO (ropewaylaw19_NetSpoils.l0 k y0 y1 y2 y3 y4 y5) (ropewaylaw19_NetSpoils.l0 (k + 1) y0 y1 y2 y3 y4 y5)) ∧ (∀ y0 y1 y2 y3 y4, LeO (ropewaylaw19_NetSpoils.l1 k y0 y1 y2 y3 y4) (ropewaylaw19_NetSpoils.l1 (k + 1) y0 y1 y2 y3 y4)) ∧ (∀ y0 y1 y2 y3 y4 y5 y6 y7 y8 y9, LeO (ropewaylaw19_NetSpoils.j3 k y0 y1 y2 y3 y4 y5 y6 y7 y8 y9) (ropewaylaw19_NetSpoils.j3 (k + 1) y0 y1 y2 y3 y4 y5 y6 y7 y8 y9)) ∧ (∀ y0 y1 y2 y3 y4 y5 y6 y7 y8 y9, LeO (ropewaylaw19_NetSpoils.j4 k y0 y1 y2 y3 y4 y5 y6 y7 y8 y9) (ropewaylaw19_NetSpoils.j4 (k + 1) y0 y1 y2 y3 y4 y5 y6 y7 y8 y9)) ∧ (∀ y0 y1 y2 y3 y4 y5 y6, LeO (ropewaylaw19_NetSpoils.j5 k y0 y1 y2 y3 y4 y5 y6) (ropewaylaw19_NetSpoils.j5 (k + 1) y0 y1 y2 y3 y4 y5 y6)) ∧ (∀ y0 y1 y2 y3 y4 y5 y6 y7 y8 y9, LeO (ropewaylaw19_NetSpoils.l2 k y0 y1 y2 y3 y4 y5 y6 y7 y8 y9) (ropewaylaw19_NetSpoils.l2 (k + 1) y0 y1 y2 y3 y4 y5 y6 y7 y8 y9))
  | 0 => ⟨fun _ _ _ r h => by simp [ropewaylaw19_NetSpoils.j0] at h, fun _ _ _ _ _ _ r h => by simp [ropewaylaw19_NetSpoils.l0] at h, fun _ _ _ _ _ r h => by simp [ropewaylaw19_NetSpoils.l1] at h, fun _ _ _ _ _ _ _ _ _ _ r h => by simp [ropewaylaw19_NetSpoils.j3] at h, fun _ _ _ _ _ _ _ _ _ _ r h => by simp [ropewaylaw19_NetSpoils.j4] at h, fun _ _ _ _ _ _ _ r h => by simp [ropewaylaw19_NetSpoils.j5] at h, fun _ _ _ _ _ _ _ _ _ _ r h => by simp [ropewaylaw19_NetSpoils.l2] at h⟩
  | k + 1 => by
    obtain ⟨ih0, ih1, ih2, ih3, ih4, ih5, ih6⟩ := ropewaylaw19_NetSpoils.mono_l k
    refine ⟨?_, ?_, ?_, ?_, ?_, ?_, ?_⟩
    · intro y0 y1 y2
      unfold ropewaylaw19_NetSpoils.j0
      repeat' first
      | (with_reducible exact ih0 _ _ _)
      | (with_reducible exact ih1 _ _ _ _ _ _)
      | (with_reducible exact ih2 _ _ _ _ _)
      | (with_reducible exact ih3 _ _ _ _ _ _ _ _ _ _)
      | (with_reducible exact ih4 _ _ _ _ _ _ _ _ _ _)
      | (with_reducible exact ih5 _ _ _ _ _ _ _)
      | (with_reducible exact ih6 _ _ _ _ _ _ _ _ _ _)
      | (with_reducible exact crc_Open.mono _ _)
      | (with_reducible exact crc_Seal.mono _ _)
      | (with_reducible exact ropewaylaw19_netAlive.mono _)
      | (with_reducible exact LeO.refl _)
      | (with_reducible exact LeO.none _)
      | (with_reducible refine LeO.ite ?_ ?_)
      | (with_reducible refine LeO.bind ?_ (fun _ => ?_))
      | exact ih0 _ _ _
      | exact ih1 _ _ _ _ _ _
      | exact ih2 _ _ _ _ _
      | exact ih3 _ _ _ _ _ _ _ _ _ _
      | exact ih4 _ _ _ _ _ _ _ _ _ _
      | exact ih5 _ _ _ _ _ _ _
      | exact ih6 _ _ _ _ _ _ _ _ _ _
      | exact crc_Open.mono _ _
      | exact crc_Seal.mono _ _
      | exact ropewaylaw19_netAlive.mono _
      | exact LeO.none _
      | refine LeO.ite ?_ ?_
      | refine LeO.bind ?_ (fun _ => ?_)
    · intro y0 y1 y2 y3 y4 y5
      unfold ropewaylaw19_NetSpoils.l0
      repeat' first
      | (with_reducible exact ih0 _ _ _)
      | (with_reducible exact ih1 _ _ _ _ _ _)
      | (with_reducible exact ih2 _ _ _ _ _)
      | (with_reducible exact ih3 _ _ _ _ _ _ _ _ _ _)
      | (with_reducible exact ih4 _ _ _ _ _ _ _ _ _ _)
      | (with_reducible exact ih5 _ _ _ _ _ _ _)
      | (with_reducible exact ih6 _ _ _ _ _ _ _ _ _ _)
      | (with_reducible exact crc_Open.mono _ _)
      | (with_reducible exact crc_Seal.mono _ _)
      | (with_reducible exact ropewaylaw19_netAlive.mono _)
      | (with_reducible exact LeO.refl _)
      | (with_reducible exact LeO.none _)
      | (with_reducible refine LeO.ite ?_ ?_)
      | (with_reducible refine LeO.bind ?_ (fun _ => ?_))
      | exact ih0 _ _ _
      | exact ih1 _ _ _ _ _ _
      | exact ih2 _ _ _ _ _
      | exact ih3 _ _ _ _ _ _ _ _ _ _
      | exact ih4 _ _ _ _ _ _ _ _ _ _
      | exact ih5 _ _ _ _ _ _ _
      | exact ih6 _ _ _ _ _ _ _ _ _ _
      | exact crc_Open.mono _ _
      | exact crc_Seal.mono _ _
      | exact ropewaylaw19_netAlive.mono _
      | exact LeO.none _
      | refine LeO.ite ?_ ?_
      | refine LeO.bind ?_ (fun _ => ?_)
    · intro y0 y1 y2 y3 y4
      unfold ropewaylaw19_NetSpoils.l1
      repeat' first
      | (with_reducible exact ih0 _ _ _)
      | (with_reducible exact ih1 _ _ _ _ _ _)
      | (with_reducible exact ih2 _ _ _ _ _)
      | (with_reducible exact ih3 _ _ _ _ _ _ _ _ _ _)
      | (with_reducible exact ih4 _ _ _ _ _ _ _ _ _ _)
      | (with_reducible exact ih5 _ _ _ _ _ _ _)
      | (with_reducible exact ih6 _ _ _ _ _ _ _ _ _ _)
      | (with_reducible exact crc_Open.mono _ _)
      | (with_reducible exact crc_Seal.mono _ _)
      | (with_reducible exact ropewaylaw19_netAlive.mono _)
      | (with_reducible exact LeO.refl _)
      | (with_reducible exact LeO.none _)
      | (with_reducible refine LeO.ite ?_ ?_)
      | (with_reducible refine LeO.bind ?_ (fun _ => ?_))
      | exact ih0 _ _ _
      | exact ih1 _ _ _ _ _ _
      | exact ih2 _ _ _ _ _
      | exact ih3 _ _ _ _ _ _ _ _ _ _
      | exact ih4 _ _ _ _ _ _ _ _ _ _
      | exact ih5 _ _ _ _ _ _ _
      | exact ih6 _ _ _ _ _ _ _ _ _ _
      | exact crc_Open.mono _ _
      | exact crc_Seal.mono _ _
      | exact ropewaylaw19_netAlive.mono _
      | exact LeO.none _
      | refine LeO.ite ?_ ?_
      | refine LeO.bind ?_ (fun _ => ?_)
    · intro y0 y1 y2 y3 y4 y5 y6 y7 y8 y9
      unfold ropewaylaw19_NetSpoils.j3
      repeat' first
      | (with_reducible exact ih0 _ _ _)
      | (with_reducible exact ih1 _ _ _ _ _ _)
      | (with_reducible exact ih2 _ _ _ _ _)
      | (with_reducible exact ih3 _ _ _ _ _ _ _ _ _ _)
      | (with_reducible exact ih4 _ _ _ _ _ _ _ _ _ _)
      | (with_reducible exact ih5 _ _ _ _ _ _ _)
      | (with_reducible exact ih6 _ _ _ _ _ _ _ _ _ _)
      | (with_reducible exact crc_Open.mono _ _)
      | (with_reducible exact crc_Seal.mono _ _)
      | (with_reducible exact ropewaylaw19_netAlive.mono _)
      | (with_reducible exact LeO.refl _)
      | (with_reducible exact LeO.none _)
      | (with_reducible refine LeO.ite ?_ ?_)
      | (with_reducible refine LeO.bind ?_ (fun _ => ?_))
      | exact ih0 _ _ _
      | exact ih1 _ _ _ _ _ _
      | exact ih2 _ _ _ _ _
      | exact ih3 _ _ _ _ _ _ _ _ _ _
      | exact ih4 _ _ _ _ _ _ _ _ _ _
      | exact ih5 _ _ _ _ _ _ _
      | exact ih6 _ _ _ _ _ _ _ _ _ _
      | exact crc_Open.mono _ _
      | exact crc_Seal.mono _ _
      | exact ropewaylaw19_netAlive.mono _
      | exact LeO.none _
      | refine LeO.ite ?_ ?_
      | refine LeO.bind ?_ (fun _ => ?_)
    · intro y0 y1 y2 y3 y4 y5 y6 y7 y8 y9
      unfold ropewaylaw19_NetSpoils.j4
      repeat' first
      | (with_reducible exact ih0 _ _ _)
      | (with_reducible exact ih1 _ _ _ _ _ _)
      | (with_reducible exact ih2 _ _ _ _ _)
      | (with_reducible exact ih3 _ _ _ _ _ _ _ _ _ _)
      | (with_reducible exact ih4 _ _ _ _ _ _ _ _ _ _)
      | (with_reducible exact ih5 _ _ _ _ _ _ _)
      | (with_reducible exact ih6 _ _ _ _ _ _ _ _ _ _)
      | (with_reducible exact crc_Open.mono _ _)
      | (with_reducible exact crc_Seal.mono _ _)
      | (with_reducible exact ropewaylaw19_netAlive.mono _)
      | (with_reducible exact LeO.refl _)
      | (with_reducible exact LeO.none _)
      | (with_reducible refine LeO.ite ?_ ?_)
      | (with_reducible refine LeO.bind ?_ (fun _ => ?_))
      | exact ih0 _ _ _
      | exact ih1 _ _ _ _ _ _
      | exact ih2 _ _ _ _ _
      | exact ih3 _ _ _ _ _ _ _ _ _ _
      | exact ih4 _ _ _ _ _ _ _ _ _ _
      | exact ih5 _ _ _ _ _ _ _
      | exact ih6 _ _ _ _ _ _ _ _ _ _
      | exact crc_Open.mono _ _
      | exact crc_Seal.mono _ _
      | exact ropewaylaw19_netAlive.mono _
      | exact LeO.none _
      | refine LeO.ite ?_ ?_
      | refine LeO.bind ?_ (fun _ => ?_)
    · intro y0 y1 y2 y3 y4 y5 y6
      unfold ropewaylaw19_NetSpoils.j5
      repeat' first
      | (with_reducible exact ih0 _ _ _)
      | (with_reducible exact ih1 _ _ _ _ _ _)
      | (with_reducible exact ih2 _ _ _ _ _)
      | (with_reducible exact ih3 _ _ _ _ _ _ _ _ _ _)
      | (with_reducible exact ih4 _ _ _ _ _ _ _ _ _ _)
      | (with_reducible exact ih5 _ _ _ _ _ _ _)
      | (with_reducible exact ih6 _ _ _ _ _ _ _ _ _ _)
      | (with_reducible exact crc_Open.mono _ _)
      | (with_reducible exact crc_Seal.mono _ _)
      | (with_reducible exact ropewaylaw19_netAlive.mono _)
      | (with_reducible exact LeO.refl _)
      | (with_reducible exact LeO.none _)
      | (with_reducible refine LeO.ite ?_ ?_)
      | (with_reducible refine LeO.bind ?_ (fun _ => ?_))
      | exact ih0 _ _ _
      | exact ih1 _ _ _ _ _ _
      | exact ih2 _ _ _ _ _
      | exact ih3 _ _ _ _ _ _ _ _ _ _
      | exact ih4 _ _ _ _ _ _ _ _ _ _
      | exact ih5 _ _ _ _ _ _ _
      | exact ih6 _ _ _ _ _ _ _ _ _ _
      | exact crc_Open.mono _ _
      | exact crc_Seal.mono _ _
      | exact ropewaylaw19_netAlive.mono _
      | exact LeO.none _
      | refine LeO.ite ?_ ?_
      | refine LeO.bind ?_ (fun _ => ?_)
    · intro y0 y1 y2 y3 y4 y5 y6 y7 y8 y9
      unfold ropewaylaw19_NetSpoils.l2
      repeat' first
      | (with_reducible exact ih0 _ _ _)
      | (with_reducible exact ih1 _ _ _ _ _ _)
      | (with_reducible exact ih2 _ _ _ _ _)
      | (with_reducible exact ih3 _ _ _ _ _ _ _ _ _ _)
      | (with_reducible exact ih4 _ _ _ _ _ _ _ _ _ _)
      | (with_reducible exact ih5 _ _ _ _ _ _ _)
      | (with_reducible exact ih6 _ _ _ _ _ _ _ _ _ _)
      | (with_reducible exact crc_Open.mono _ _)
      | (with_reducible exact crc_Seal.mono _ _)
      | (with_reducible exact ropewaylaw19_netAlive.mono _)
      | (with_reducible exact LeO.refl _)
      | (with_reducible exact LeO.none _)
      | (with_reducible refine LeO.ite ?_ ?_)
      | (with_reducible refine LeO.bind ?_ (fun _ => ?_))
      | exact ih0 _ _ _
      | exact ih1 _ _ _ _ _ _
      | exact ih2 _ _ _ _ _
      | exact ih3 _ _ _ _ _ _ _ _ _ _
      | exact ih4 _ _ _ _ _ _ _ _ _ _
      | exact ih5 _ _ _ _ _ _ _
      | exact ih6 _ _ _ _ _ _ _ _ _ _
      | exact crc_Open.mono _ _
      | exact crc_Seal.mono _ _
      | exact ropewaylaw19_netAlive.mono _
      | exact LeO.none _
      | refine LeO.ite ?_ ?_
      | refine LeO.bind ?_ (fun _ => ?_)
theorem ropewaylaw19_NetSpoils.mono : ∀ a0 a1 k, LeO (ropewaylaw19_NetSpoils.f k a0 a1) (ropewaylaw19_NetSpoils.f (k + 1) a0 a1) := by
  intro a0 a1 k
  obtain ⟨ih0, ih1, ih2, ih3, ih4, ih5, ih6⟩ := ropewaylaw19_NetSpoils.mono_l k
  unfold ropewaylaw19_NetSpoils.f
  repeat' first
      | (with_reducible exact ih0 _ _ _)
      | (with_reducible exact ih1 _ _ _ _ _ _)
      | (with_reducible exact ih2 _ _ _ _ _)
      | (with_reducible exact ih3 _ _ _ _ _ _ _ _ _ _)
      | (with_reducible exact ih4 _ _ _ _ _ _ _ _ _ _)
      | (with_reducible exact ih5 _ _ _ _ _ _ _)
      | (with_reducible exact ih6 _ _ _ _ _ _ _ _ _ _)
      | (with_reducible exact crc_Open.mono _ _)
      | (with_reducible exact crc_Seal.mono _ _)
      | (with_reducible exact ropewaylaw19_netAlive.mono _)
      | (with_reducible exact LeO.refl _)
      | (with_reducible exact LeO.none _)
      | (with_reducible refine LeO.ite ?_ ?_)
      | (with_reducible refine LeO.bind ?_ (fun _ => ?_))
      | exact ih0 _ _ _
      | exact ih1 _ _ _ _ _ _
      | exact ih2 _ _ _ _ _
      | exact ih3 _ _ _ _ _ _ _ _ _ _
      | exact ih4 _ _ _ _ _ _ _ _ _ _
      | exact ih5 _ _ _ _ _ _ _
      | exact ih6 _ _ _ _ _ _ _ _ _ _
      | exact crc_Open.mono _ _
      | exact crc_Seal.mono _ _
      | exact ropewaylaw19_netAlive.mono _
      | exact LeO.none _
      | refine LeO.ite ?_ ?_
      | refine LeO.bind ?_ (fun _ => ?_)
set_option maxHeartbeats 8000000 in
set_option maxRecDepth 100000 in
theorem ropewaylaw19_NetSpoils.calls (k : Nat) (A0 : Option Addr) (c0 : Nat) (l0 : List (List Int)) (A1 : Option Addr) (c1 : Nat) (l1 : List (S52)) (r : Bool) (w : World) (hr0 : Kd.C (Kd.slice 5 (Kd.int .u8)) w A0 l0.length l0) (hc0 : l0.length ≤ c0) (hr1 : Kd.C k52 w A1 l1.length l1) (hc1 : l1.length ≤ c1) (h : ropewaylaw19_NetSpoils.f k l0 l1 = some r) :
    Calls Try.prog 14 #[.slice A0 l0.length c0, .slice A1 l1.length c1] w fun e w' => e = .returned (.bool r) ∧ Below w.heap.size w w' := by
  have hu52 := Try.underlying52
  have HR0 := Aside0.mk hr0
  have HC0 := Aside0.mk hc0
  clear hr0 hc0
  have HR1 := Aside0.mk hr1
  have HC1 := Aside0.mk hc1
  clear hr1 hc1
  have HB := Aside0.mk (Below.refl w.heap.size w)
  have H : ((ropewaylaw19_netAlive.f k).bind fun t241 => (if t241 = true then (if (l0.length : Int) > 60 then (ropewaylaw19_NetSpoils.j0 k l0 l1 true) else (ropewaylaw19_NetSpoils.j0 k l0 l1 (decide ((l1.length : Int) > 200)))) else (some false))) = some r := h
  clear h
  replace H := Option.bind_eq_some_iff.mp H
  obtain ⟨t241, A30, H⟩ := H
  replace H : (if t241 = true then (if (l0.length : Int) > 60 then (ropewaylaw19_NetSpoils.j0 k l0 l1 true) else (ropewaylaw19_NetSpoils.j0 k l0 l1 (decide ((l1.length : Int) > 200)))) else (some false)) = some r := H
  have A3 := Aside0.mk A30
  clear A30
  by_cases c4 : t241 = true
  · subst c4
    have H1 : (if (l0.length : Int) > 60 then (ropewaylaw19_NetSpoils.j0 k l0 l1 true) else (ropewaylaw19_NetSpoils.j0 k l0 l1 (decide ((l1.length : Int) > 200)))) = some r := by rw [if_pos rfl] at H; exact H
    clear H
    have H := H1
    clear H1
    have HC5 := Aside0.mk H
    clear H
    go_enter Try.func14, Try.ntmps14
    go_upto_region 3 with (first | ((with_reducible refine gate_callee (f := 26) rfl ?_); refine goesL_ (some 25) rfl rfl Try.func26 (by kernel_rfl) rfl #[] rfl (by (try simp only [List.map_toArray, List.map_cons, List.map_nil]); first | done | rfl | (simp only [List.length_drop, List.length_take]; rfl)) ?_; (with_reducible refine (ropewaylaw19_netAlive.calls k  true _ A3.out).mono ?_); rintro e w6 ⟨rfl, hb⟩; refine ⟨_, rfl, ?_⟩; have n0_ := Aside0.mk (below_step (by repeat (first | (with_reducible first | exact HB.out | apply below_alloc | apply pw_below_drewN | apply below_drew1) | exact HB.out)) hb); clear HB; have HB := n0_; clear n0_; (try clear hb); (try clear hb2); (try clear hk); (try clear hi)))
    (try simp only [Act.put, List.setIfInBounds_toArray, List.set_cons_zero, List.set_cons_succ])
    go_cut [34] (fun v34 wc => ∃ (kq : Nat) (x34_4 : Bool), v34 = .bool x34_4 ∧ Aside0 (ropewaylaw19_NetSpoils.j0 kq l0 l1 x34_4 = some r) ∧ Aside0 (kq ≤ k) ∧ Aside0 (Below w.heap.size w wc))
    case first =>
      have H := HC5.out
      clear HC5
      by_cases c7 : (l0.length : Int) > 60
      · rw [if_pos c7] at H
        have c7b0 : decide (60 < (l0.length : Int)) = true := decide_eq_true c7
        have c7b1 : decide (60 < l0.length) = true := decide_eq_true (by omega)
        clear c7
        (first | rw [c7b0] | (simp only [i64_w, i32_w]; rw [c7b0]) | skip)
        have H' := Aside0.mk H
        clear H
        go_wp2
        go_meet
        case rel => exact ⟨_, (true), (by first | rfl | (simp; done) | (simp [*]; done)), H', ⟨by first | omega | exact Nat.le_refl _⟩, ⟨by repeat (first | (with_reducible first | exact HB.out | apply below_alloc | apply pw_below_drewN | apply below_drew1) | exact HB.out)⟩⟩
      · rw [if_neg c7] at H
        have c7b0 : decide (60 < (l0.length : Int)) = false := decide_eq_false c7
        have c7b1 : decide (60 < l0.length) = false := decide_eq_false (by omega)
        clear c7
        (first | rw [c7b0] | (simp only [i64_w, i32_w]; rw [c7b0]) | skip)
        have H' := Aside0.mk H
        clear H
        go_wp2
        go_meet
        case rel => exact ⟨_, (decide ((l1.length : Int) > 200)), (by first | rfl | (simp; done) | (simp [*]; done)), H', ⟨by first | omega | exact Nat.le_refl _⟩, ⟨by repeat (first | (with_reducible first | exact HB.out | apply below_alloc | apply pw_below_drewN | apply below_drew1) | exact HB.out)⟩⟩
    case rest =>
      clear HC5
      try clear c1
      try clear c2
      try clear p2
      try clear c4
      try clear c7
      try clear c7b0
      try clear c7b1
      obtain ⟨kq, x34_4, rfl, HA, HJ4, HB⟩ := hcut
      cases kq with
      | zero => exact absurd HA.out (by simp [ropewaylaw19_NetSpoils.j0])
      | succ kj4 =>
        have H := HA.out
        clear HA
        simp only [ropewaylaw19_NetSpoils.j0] at H
        by_cases c8 : x34_4 = true
        · subst c8
          have H1 : (some true) = some r := by rw [if_pos rfl] at H; exact H
          clear H
          have H := H1
          clear H1
          obtain rfl := Option.some.inj H
          go_wp2
          go_ret
          exact ⟨by first | rfl | (simp [errW_none, errW_some] <;> rfl) | (simp [*, errW_none, errW_some] <;> rfl), by repeat (first | (with_reducible first | exact HB.out | apply below_alloc | apply pw_below_drewN | apply below_drew1) | exact HB.out)⟩
        · replace c8 := Bool.eq_false_iff.mpr c8
          subst c8
          have H1 : ((net_New.f).bind fun t242 => (ropewaylaw19_NetSpoils.l0 kj4 l0 l1 l0 (l0.length : Int) 0 t242)) = some r := by rw [if_neg (show ¬ (false = true) by decide)] at H; exact H
          clear H
          have H := H1
          clear H1
          replace H := Option.bind_eq_some_iff.mp H
          obtain ⟨t242, A90, H⟩ := H
          replace H : (ropewaylaw19_NetSpoils.l0 kj4 l0 l1 l0 (l0.length : Int) 0 t242) = some r := H
          have A9 := Aside0.mk A90
          clear A90
          have H' := Aside0.mk H
          clear H
          go_wp2_with (first | ((with_reducible refine gate_callee (f := 24) rfl ?_); refine goesL_ (some 35) rfl rfl Try.func24 (by kernel_rfl) rfl #[] rfl (by (try simp only [List.map_toArray, List.map_cons, List.map_nil]); first | done | rfl | (simp only [List.length_drop, List.length_take]; rfl)) ?_; (with_reducible refine (net_New.calls  t242 w _ ?side1 A9.out).mono ?_); (case side1 => repeat (first | (with_reducible first | exact HB.out | apply below_alloc | apply pw_below_drewN | apply below_drew1) | exact HB.out)); rintro e w10 ⟨g243, rfl, hi, hb, hb2⟩; refine ⟨_, rfl, ?_⟩; have n0_ := Aside0.mk (hb); have n1_ := Aside0.mk (hi); clear HB; have HB := n0_; have HI243 := n1_; clear n0_ n1_; (try clear hb); (try clear hb2); (try clear hk); (try clear hi)))
          go_loopg [38] kj4 (fun kq v38 w' => ∃ (x38_2 : Int) (x244000_2 : List S72), v38 = .int .i64 x38_2 ∧ Aside0 (ropewaylaw19_NetSpoils.l0 kq l0 l1 l0 (l0.length : Int) x38_2 x244000_2 = some r) ∧ Aside0 (kq ≤ kj4) ∧ Aside0 (IsS70 w w' g243 x244000_2) ∧ Aside0 (Below w.heap.size w w'))
          case atStart => exact ⟨(0), (t242), (by first | rfl | (simp; done) | (simp [*]; done)), H', ⟨Nat.le_refl _⟩, ⟨by repeat (first | (with_reducible first | exact HI243.out | apply IsS70.alloc | apply IsS70.drewN | apply IsS70.drew) | exact HI243.out)⟩, ⟨by repeat (first | (with_reducible first | exact HB.out | apply below_alloc | apply pw_below_drewN | apply below_drew1 | refine below_set ?_ (IsS70.ge HI243.out)) | exact HB.out)⟩⟩
          case round =>
            clear H'
            try clear c1
            try clear c2
            try clear p2
            try clear c4
            try clear c7
            try clear c7b0
            try clear c7b1
            try clear c8
            try clear p2
            obtain ⟨x38_2, x244000_2, rfl, HA, HK2, HI243, HB⟩ := hrel
            cases gk with
            | zero => exact absurd HA.out (by simp [ropewaylaw19_NetSpoils.l0])
            | succ k2 =>
              have H := HA.out
              clear HA
              simp only [ropewaylaw19_NetSpoils.l0] at H
              by_cases c11 : x38_2 < (l0.length : Int)
              · rw [if_pos c11] at H
                have c11b0 : decide (x38_2 < (l0.length : Int)) = true := decide_eq_true c11
                clear c11
                by_cases c12 : 0 ≤ x38_2
                · rw [if_pos c12] at H
                  have c12b0 : decide (0 ≤ x38_2) = true := decide_eq_true c12
                  clear c12
                  by_cases c13 : x38_2 < (l0.length : Int)
                  · rw [if_pos c13] at H
                    have c13b0 : decide (x38_2 < (l0.length : Int)) = true := decide_eq_true c13
                    clear c13
                    by_cases c14 : ((rd_L1 l0 x38_2).length : Int) > 500
                    · rw [if_pos c14] at H
                      have c14b0 : decide (500 < ((rd_L1 l0 x38_2).length : Int)) = true := decide_eq_true c14
                      have c14b1 : decide (500 < (rd_L1 l0 x38_2).length) = true := decide_eq_true (by omega)
                      clear c14
                      obtain rfl := Option.some.inj H
                      have p244 : 0 ≤ (x38_2 : Int) := of_decide_eq_true (by first | (with_reducible assumption) | assumption)
                      have q244 : x38_2 < (l0.length : Int) := of_decide_eq_true (by first | (with_reducible assumption) | assumption)
                      obtain ⟨ad244, A244_0, c244_0, e244, hx244_0, hl244_0, hi244_0⟩ := at_L1 HR0.out x38_2 p244 q244
                      cases e244
                      replace hx244_0 := (HB.out.cell (World.block_lt_of_cell? w _ hx244_0)).trans hx244_0
                      have HR244_0 := Aside0.mk hi244_0
                      have HC244_0 := Aside0.mk hl244_0
                      clear hi244_0 hl244_0
                      replace p244 := eq_true p244
                      replace q244 := eq_true q244
                      go_wp2
                      go_ret
                      exact ⟨by first | rfl | (simp [errW_none, errW_some] <;> rfl) | (simp [*, errW_none, errW_some] <;> rfl), by repeat (first | (with_reducible first | exact HB.out | apply below_alloc | apply pw_below_drewN | apply below_drew1 | refine below_set ?_ (IsS70.ge HI243.out)) | exact HB.out)⟩
                    · rw [if_neg c14] at H
                      have c14b0 : decide (500 < ((rd_L1 l0 x38_2).length : Int)) = false := decide_eq_false c14
                      have c14b1 : decide (500 < (rd_L1 l0 x38_2).length) = false := decide_eq_false (by omega)
                      clear c14
                      replace H := Option.bind_eq_some_iff.mp H
                      obtain ⟨t245, A150, H⟩ := H
                      replace H : ((net_Net_Put.f x244000_2 t245).bind fun bt248 => (ropewaylaw19_NetSpoils.l0 k2 l0 l1 l0 (l0.length : Int) (wrap64 (x38_2 + 1)) bt248.2)) = some r := H
                      have A15 := Aside0.mk A150
                      clear A150
                      replace H := Option.bind_eq_some_iff.mp H
                      obtain ⟨⟨t248, t249⟩, A160, H⟩ := H
                      replace H : (ropewaylaw19_NetSpoils.l0 k2 l0 l1 l0 (l0.length : Int) (wrap64 (x38_2 + 1)) t249) = some r := H
                      have A16 := Aside0.mk A160
                      clear A160
                      have H' := Aside0.mk H
                      clear H
                      have p244 : 0 ≤ (x38_2 : Int) := of_decide_eq_true (by first | (with_reducible assumption) | assumption)
                      have q244 : x38_2 < (l0.length : Int) := of_decide_eq_true (by first | (with_reducible assumption) | assumption)
                      obtain ⟨ad244, A244_0, c244_0, e244, hx244_0, hl244_0, hi244_0⟩ := at_L1 HR0.out x38_2 p244 q244
                      cases e244
                      replace hx244_0 := (HB.out.cell (World.block_lt_of_cell? w _ hx244_0)).trans hx244_0
                      have HR244_0 := Aside0.mk hi244_0
                      have HC244_0 := Aside0.mk hl244_0
                      clear hi244_0 hl244_0
                      replace p244 := eq_true p244
                      replace q244 := eq_true q244
                      go_wp2_with (first | ((with_reducible refine gate_callee (f := 20) rfl ?_); refine goesL_ (some 47) rfl rfl Try.func20 (by kernel_rfl) rfl #[.slice A244_0 (rd_L1 l0 x38_2).length c244_0] rfl (by (try simp only [List.map_toArray, List.map_cons, List.map_nil]); first | done | rfl | (simp only [List.length_drop, List.length_take]; rfl)) ?_; (with_reducible refine (crc_Seal.calls k2 (fun k_ => k_ < w.heap.size) _ _ (rd_L1 l0 x38_2) t245 _ ?side1 A15.out).mono ?_); (case side1 => exact Kd.V_mk HC244_0.out (Kd.F_below (Kd.C_F (Kd.heap_int .u8) HR244_0.out) (by repeat (first | (with_reducible first | exact HB.out | apply below_alloc | apply pw_below_drewN | apply below_drew1 | refine below_set ?_ (IsS70.ge HI243.out)) | exact HB.out)))); rintro e w17 ⟨v246, rfl, ho0, hb⟩; refine ⟨_, rfl, ?_⟩; have n0_ := Aside0.mk (Kd.R_lower (Kd.R_mono (ok' := fun k_ => True) ho0 (fun _ hk_ => trivial)) (below_size (by repeat (first | (with_reducible first | exact HB.out | apply below_alloc | apply pw_below_drewN | apply below_drew1 | refine below_set ?_ (IsS70.ge HI243.out)) | exact HB.out)))); have n1_ := Aside0.mk (IsS70.below (by repeat (first | (with_reducible first | exact HI243.out | apply IsS70.alloc | apply IsS70.drewN | apply IsS70.drew) | exact HI243.out)) hb); have n2_ := Aside0.mk (below_step (by repeat (first | (with_reducible first | exact HB.out | apply below_alloc | apply pw_below_drewN | apply below_drew1 | refine below_set ?_ (IsS70.ge HI243.out)) | exact HB.out)) hb); clear HI243; clear HB; have HO247 := n0_; have HI243 := n1_; have HB := n2_; clear n0_ n1_ n2_; (try clear hb); (try clear hb2); (try clear hk); (try clear hi); (try clear ho0); obtain ⟨Ao18, co18, eo18⟩ := Kd.R_slice HO247.out; subst eo18) | ((with_reducible refine gate_callee (f := 30) rfl ?_); refine goesL_ (some 48) rfl rfl Try.func30 (by kernel_rfl) rfl #[.pointer (some ⟨g243, 0, none⟩), .slice Ao18 t245.length co18] rfl (by (try simp only [List.map_toArray, List.map_cons, List.map_nil]); first | done | rfl | (simp only [List.length_drop, List.length_take]; rfl)) ?_; (with_reducible refine (net_Net_Put.calls g243 x244000_2 _ _ t245 t248 t249 w _ ?side1 ?side2 ?side3 ?side4 ?side5 A16.out).mono ?_); (case side1 => repeat (first | (with_reducible first | exact HI243.out | apply IsS70.alloc | apply IsS70.drewN | apply IsS70.drew) | exact HI243.out)); (case side2 => repeat (first | (with_reducible first | exact HB.out | apply below_alloc | apply pw_below_drewN | apply below_drew1 | refine below_set ?_ (IsS70.ge HI243.out)) | exact HB.out)); (case side3 => repeat (first | exact (Kd.R_reads' HO247.out).2.2 | (with_reducible refine Kd.C_alloc ?_ _) | (with_reducible refine Kd.C_drewN ?_ _) | (with_reducible refine Kd.C_drew ?_))); (case side4 => exact (Kd.R_reads' HO247.out).2.1); (case side5 => exact far_slice (IsS70.own_ne HI243.out HO247.out (by decide))); rintro e w19 ⟨rfl, hi, hb, hk⟩; refine ⟨_, rfl, ?_⟩; have n0_ := Aside0.mk (Kd.R_mono (R_keepT (IsS70.apart (show IsS70 w _ g243 x244000_2 from by repeat (first | (with_reducible first | exact HI243.out | apply IsS70.alloc | apply IsS70.drewN | apply IsS70.drew) | exact HI243.out)) (by (with_reducible repeat (first | apply Kd.R_alloc | apply Kd.R_drewN | apply Kd.R_drew)); exact HO247.out) (by decide)) hk (fun _ h => h.2)) (fun _ h => h.1)); have n1_ := Aside0.mk (hb); have n2_ := Aside0.mk (hi); clear HO247; clear HB; clear HI243; have HO247 := n0_; have HB := n1_; have HI243 := n2_; clear n0_ n1_ n2_; (try clear hb); (try clear hb2); (try clear hk); (try clear hi)))
                      go_roundg k2
                      case measure => have := HJ4.out; have := HK2.out; omega
                      case rel => exact ⟨(wrap64 (x38_2 + 1)), (t249), (by first | rfl | (simp; done) | (simp [*]; done)), H', ⟨by have := HJ4.out; have := HK2.out; omega⟩, ⟨by repeat (first | (with_reducible first | exact HI243.out | apply IsS70.alloc | apply IsS70.drewN | apply IsS70.drew) | exact HI243.out)⟩, ⟨by repeat (first | (with_reducible first | exact HB.out | apply below_alloc | apply pw_below_drewN | apply below_drew1 | refine below_set ?_ (IsS70.ge HI243.out)) | exact HB.out)⟩⟩
                  · rw [if_neg c13] at H
                    exact absurd H (by simp)
                · rw [if_neg c12] at H
                  exact absurd H (by simp)
              · rw [if_neg c11] at H
                have c11b0 : decide (x38_2 < (l0.length : Int)) = false := decide_eq_false c11
                clear c11
                have H' := Aside0.mk H
                clear H
                go_wp2
                go_loopg [52] k2 (fun kq v52 w' => ∃ (x52_3 : Int) (x244000_3 : List S72), v52 = .int .i64 x52_3 ∧ Aside0 (ropewaylaw19_NetSpoils.l1 kq l0 l1 (l1.length : Int) x52_3 x244000_3 = some r) ∧ Aside0 (kq ≤ k2) ∧ Aside0 (IsS70 w w' g243 x244000_3) ∧ Aside0 (Below w.heap.size w w'))
                case atStart => exact ⟨(0), (x244000_2), (by first | rfl | (simp; done) | (simp [*]; done)), H', ⟨Nat.le_refl _⟩, ⟨by repeat (first | (with_reducible first | exact HI243.out | apply IsS70.alloc | apply IsS70.drewN | apply IsS70.drew) | exact HI243.out)⟩, ⟨by repeat (first | (with_reducible first | exact HB.out | apply below_alloc | apply pw_below_drewN | apply below_drew1 | refine below_set ?_ (IsS70.ge HI243.out)) | exact HB.out)⟩⟩
                case round =>
                  clear H'
                  try clear c1
                  try clear c2
                  try clear p2
                  try clear q2
                  try clear hx2
                  try clear c3
                  try clear c4
                  try clear p6
                  try clear c7
                  try clear c7b0
                  try clear c7b1
                  try clear c8
                  try clear c11
                  try clear c11b0
                  try clear c12
                  try clear c12b0
                  try clear c13
                  try clear c13b0
                  try clear c14
                  try clear c14b0
                  try clear c14b1
                  try clear hx244_0
                  try clear p2
                  try clear p244
                  try clear q244
                  obtain ⟨x52_3, x244000_3, rfl, HA, HK3, HI243, HB⟩ := hrel
                  cases gk with
                  | zero => exact absurd HA.out (by simp [ropewaylaw19_NetSpoils.l1])
                  | succ k3 =>
                    have H := HA.out
                    clear HA
                    simp only [ropewaylaw19_NetSpoils.l1] at H
                    by_cases c20 : x52_3 < (l1.length : Int)
                    · rw [if_pos c20] at H
                      have c20b0 : decide (x52_3 < (l1.length : Int)) = true := decide_eq_true c20
                      clear c20
                      by_cases c21 : 0 ≤ x52_3
                      · rw [if_pos c21] at H
                        have c21b0 : decide (0 ≤ x52_3) = true := decide_eq_true c21
                        clear c21
                        by_cases c22 : x52_3 < (l1.length : Int)
                        · rw [if_pos c22] at H
                          have c22b0 : decide (x52_3 < (l1.length : Int)) = true := decide_eq_true c22
                          clear c22
                          have HC23 := Aside0.mk H
                          clear H
                          have p250 : 0 ≤ (x52_3 : Int) := of_decide_eq_true (by first | (with_reducible assumption) | assumption)
                          have q250 : x52_3 < (l1.length : Int) := of_decide_eq_true (by first | (with_reducible assumption) | assumption)
                          obtain ⟨ad250, A250_4, c250_4, e250, hx250_0, hx250_1, hx250_2, hx250_3, hx250_4, hl250_4, hi250_4⟩ := at_T52 HR1.out x52_3 p250 q250
                          cases e250
                          replace hx250_0 := (HB.out.cell (World.block_lt_of_cell? w _ hx250_0)).trans hx250_0
                          replace hx250_1 := (HB.out.cell (World.block_lt_of_cell? w _ hx250_1)).trans hx250_1
                          replace hx250_2 := (HB.out.cell (World.block_lt_of_cell? w _ hx250_2)).trans hx250_2
                          replace hx250_3 := (HB.out.cell (World.block_lt_of_cell? w _ hx250_3)).trans hx250_3
                          replace hx250_4 := (HB.out.cell (World.block_lt_of_cell? w _ hx250_4)).trans hx250_4
                          have HR250_4 := Aside0.mk hi250_4
                          have HC250_4 := Aside0.mk hl250_4
                          clear hi250_4 hl250_4
                          replace p250 := eq_true p250
                          replace q250 := eq_true q250
                          go_upto_if 58 with (first | ((with_reducible refine gate_dst (N := 9) rfl ?_); (try (refine gate_guard (by rfl) ?_; dsimp only)); refine box_event ?hg (N := 9) ?hd (cs := #[.int .i64 0, .int .i64 0, .int .i64 0, .int .u32 0, .slice none 0 0]) (t := 52) ?hr ?_; (case hd => rfl); (case hg => rfl); (case hr => first | (go_simp; done) | (go_simp; rfl)); intro gb251 hg w24 hbox hb; have n0_ := Aside0.mk (IsS70.below (by repeat (first | (with_reducible first | exact HI243.out | apply IsS70.alloc | apply IsS70.drewN | apply IsS70.drew) | exact HI243.out)) hb); have n1_ := Aside0.mk (below_step (by repeat (first | (with_reducible first | exact HB.out | apply below_alloc | apply pw_below_drewN | apply below_drew1 | refine below_set ?_ (IsS70.ge HI243.out)) | exact HB.out)) hb); have n2_ := Aside0.mk (hbox); have n3_ := Aside0.mk ((by rw [hg]; exact (below_size (by repeat (first | (with_reducible first | exact HB.out | apply below_alloc | apply pw_below_drewN | apply below_drew1 | refine below_set ?_ (IsS70.ge HI243.out)) | exact HB.out))) : w.heap.size ≤ gb251)); have n4_ := Aside0.mk ((by rw [hg]; exact (below_size (by repeat (first | (with_reducible first | exact HB.out | apply below_alloc | apply pw_below_drewN | apply below_drew1 | refine below_set ?_ (IsS70.ge HI243.out)) | exact HB.out))) : w.heap.size ≤ gb251)); have n5_ := Aside0.mk ((by rw [hg]; exact Nat.ne_of_lt (IsS70.lt (show IsS70 w _ g243 x244000_3 from by repeat (first | (with_reducible first | exact HI243.out | apply IsS70.alloc | apply IsS70.drewN | apply IsS70.drew) | exact HI243.out))) : g243 ≠ gb251)); have n6_ := Aside0.mk ((by rw [hg]; exact Nat.ne_of_gt (IsS70.lt (show IsS70 w _ g243 x244000_3 from by repeat (first | (with_reducible first | exact HI243.out | apply IsS70.alloc | apply IsS70.drewN | apply IsS70.drew) | exact HI243.out))) : gb251 ≠ g243)); clear HI243; clear HB; have HI243 := n0_; have HB := n1_; have BK251 := n2_; have GW251 := n3_; have GE251 := n4_; have NB243_251 := n5_; have NB251_243 := n6_; clear n0_ n1_ n2_ n3_ n4_ n5_ n6_; clear hb hbox hg; have hnb25 := NB251_243.out; have hnc25 := NB243_251.out; have hcz26_0 : w24.cell? ⟨gb251, 0, none⟩ = some (.int .i64 0) := (blk_cell BK251.out 0).trans rfl; have hcz26_1 : w24.cell? ⟨gb251, 1, none⟩ = some (.int .i64 0) := (blk_cell BK251.out 1).trans rfl; have hcz26_2 : w24.cell? ⟨gb251, 2, none⟩ = some (.int .i64 0) := (blk_cell BK251.out 2).trans rfl; have hcz26_3 : w24.cell? ⟨gb251, 3, none⟩ = some (.int .u32 0) := (blk_cell BK251.out 3).trans rfl; have hcz26_4 : w24.cell? ⟨gb251, 4, none⟩ = some (.slice none 0 0) := (blk_cell BK251.out 4).trans rfl; have hfz26_0 := blk_frozen BK251.out 0; have hfz26_1 := blk_frozen BK251.out 1; have hfz26_2 := blk_frozen BK251.out 2; have hfz26_3 := blk_frozen BK251.out 3; have hfz26_4 := blk_frozen BK251.out 4))
                          (try simp only [Act.put, List.setIfInBounds_toArray, List.set_cons_zero, List.set_cons_succ])
                          go_cut [] (fun wc => ∃ (kq : Nat) (x244000_22 : List S72), Aside0 (ropewaylaw19_NetSpoils.j3 kq l0 l1 (l1.length : Int) x52_3 x244000_22 ((rd_T52 l1 x52_3).f0) ((rd_T52 l1 x52_3).f1) ((rd_T52 l1 x52_3).f2) ((rd_T52 l1 x52_3).f3) ((rd_T52 l1 x52_3).f4) = some r) ∧ Aside0 (kq ≤ k3) ∧ Aside0 (wc.heap[gb251]? = some (.cells #[.int .i64 ((rd_T52 l1 x52_3).f0), .int .i64 ((rd_T52 l1 x52_3).f1), .int .i64 ((rd_T52 l1 x52_3).f2), .int .u32 ((rd_T52 l1 x52_3).f3), (.slice A250_4 ((rd_T52 l1 x52_3).f4).length c250_4)] 52 (0, 0))) ∧ Aside0 (IsS70 w wc g243 x244000_22) ∧ Aside0 (Below w.heap.size w wc))
                          case first =>
                            have H := HC23.out
                            clear HC23
                            by_cases c27 : ((rd_T52 l1 x52_3).f0) = 2
                            · rw [if_pos c27] at H
                              have c27b0 : (((rd_T52 l1 x52_3).f0) == 2) = true := beq_iff_eq.mpr c27
                              have c27b1 : (((rd_T52 l1 x52_3).f0) != 2) = false := bne_eq_false_iff_eq.mpr c27
                              clear c27
                              (first | rw [c27b0] | (simp only [i64_w, i32_w]; rw [c27b0]) | skip)
                              replace H := Option.bind_eq_some_iff.mp H
                              obtain ⟨⟨t252, t253⟩, A280, H⟩ := H
                              replace H : (ropewaylaw19_NetSpoils.j3 k3 l0 l1 (l1.length : Int) x52_3 t253 ((rd_T52 l1 x52_3).f0) ((rd_T52 l1 x52_3).f1) ((rd_T52 l1 x52_3).f2) ((rd_T52 l1 x52_3).f3) ((rd_T52 l1 x52_3).f4)) = some r := H
                              have A28 := Aside0.mk A280
                              clear A280
                              have H' := Aside0.mk H
                              clear H
                              have hnb29 := NB251_243.out
                              have hnc29 := NB243_251.out
                              have hcz30_0 : w24.cell? ⟨gb251, 0, none⟩ = some (.int .i64 0) := (blk_cell BK251.out 0).trans rfl
                              have hcz30_1 : w24.cell? ⟨gb251, 1, none⟩ = some (.int .i64 0) := (blk_cell BK251.out 1).trans rfl
                              have hcz30_2 : w24.cell? ⟨gb251, 2, none⟩ = some (.int .i64 0) := (blk_cell BK251.out 2).trans rfl
                              have hcz30_3 : w24.cell? ⟨gb251, 3, none⟩ = some (.int .u32 0) := (blk_cell BK251.out 3).trans rfl
                              have hcz30_4 : w24.cell? ⟨gb251, 4, none⟩ = some (.slice none 0 0) := (blk_cell BK251.out 4).trans rfl
                              have hfz30_0 := blk_frozen BK251.out 0
                              have hfz30_1 := blk_frozen BK251.out 1
                              have hfz30_2 := blk_frozen BK251.out 2
                              have hfz30_3 := blk_frozen BK251.out 3
                              have hfz30_4 := blk_frozen BK251.out 4
                              go_wp2_with (first | ((with_reducible refine gate_callee (f := 28) rfl ?_); refine goesL_ (some 62) rfl rfl Try.func28 (by kernel_rfl) rfl #[.pointer (some ⟨g243, 0, none⟩), .int .i64 ((rd_T52 l1 x52_3).f1)] rfl (by (try simp only [List.map_toArray, List.map_cons, List.map_nil]); first | done | rfl | (simp only [List.length_drop, List.length_take]; rfl)) ?_; (with_reducible refine (net_Net_Double.calls g243 x244000_3 ((rd_T52 l1 x52_3).f1) t252 t253 w _ ?side1 ?side2 A28.out).mono ?_); (case side1 => repeat (first | (with_reducible first | exact HI243.out | apply IsS70.alloc | apply IsS70.drewN | apply IsS70.drew | exact IsS70.far5 HI243.out ⟨_, BK251.out⟩ NB243_251.out) | exact HI243.out)); (case side2 => repeat (first | (with_reducible first | exact HB.out | apply below_alloc | apply pw_below_drewN | apply below_drew1 | refine below_set ?_ (IsS70.ge HI243.out) | refine below_set ?_ GE251.out) | exact HB.out)); rintro e w31 ⟨rfl, hi, hb, hk⟩; refine ⟨_, rfl, ?_⟩; have n0_ := Aside0.mk (KeepT.blk hk (g' := gb251) (o := .cells #[.int .i64 ((rd_T52 l1 x52_3).f0), .int .i64 ((rd_T52 l1 x52_3).f1), .int .i64 ((rd_T52 l1 x52_3).f2), .int .u32 ((rd_T52 l1 x52_3).f3), .slice A250_4 ((rd_T52 l1 x52_3).f4).length c250_4] 52 (0, 0)) (by (with_reducible repeat (first | refine blk_drewN ?_ _ | refine blk_drew ?_ | refine blk_alloc ?_ _)); refine blk_put (cs := #[.int .i64 ((rd_T52 l1 x52_3).f0), .int .i64 ((rd_T52 l1 x52_3).f1), .int .i64 ((rd_T52 l1 x52_3).f2), .int .u32 ((rd_T52 l1 x52_3).f3), .slice none 0 0]) ?_ 4 _ rfl; (with_reducible repeat (first | refine blk_drewN ?_ _ | refine blk_drew ?_ | refine blk_alloc ?_ _)); refine blk_put (cs := #[.int .i64 ((rd_T52 l1 x52_3).f0), .int .i64 ((rd_T52 l1 x52_3).f1), .int .i64 ((rd_T52 l1 x52_3).f2), .int .u32 0, .slice none 0 0]) ?_ 3 _ rfl; (with_reducible repeat (first | refine blk_drewN ?_ _ | refine blk_drew ?_ | refine blk_alloc ?_ _)); refine blk_put (cs := #[.int .i64 ((rd_T52 l1 x52_3).f0), .int .i64 ((rd_T52 l1 x52_3).f1), .int .i64 0, .int .u32 0, .slice none 0 0]) ?_ 2 _ rfl; (with_reducible repeat (first | refine blk_drewN ?_ _ | refine blk_drew ?_ | refine blk_alloc ?_ _)); refine blk_put (cs := #[.int .i64 ((rd_T52 l1 x52_3).f0), .int .i64 0, .int .i64 0, .int .u32 0, .slice none 0 0]) ?_ 1 _ rfl; (with_reducible repeat (first | refine blk_drewN ?_ _ | refine blk_drew ?_ | refine blk_alloc ?_ _)); refine blk_put (cs := #[.int .i64 0, .int .i64 0, .int .i64 0, .int .u32 0, .slice none 0 0]) ?_ 0 _ rfl; (with_reducible repeat (first | refine blk_drewN ?_ _ | refine blk_drew ?_ | refine blk_alloc ?_ _)); exact BK251.out) NB251_243.out (by simp)); have n1_ := Aside0.mk (hb); have n2_ := Aside0.mk (hi); clear BK251; clear HB; clear HI243; have BK251 := n0_; have HB := n1_; have HI243 := n2_; clear n0_ n1_ n2_; (try clear hb); (try clear hb2); (try clear hk); (try clear hi)))
                              go_meet
                              case rel => exact ⟨_, (t253), H', ⟨by have := HJ4.out; have := HK2.out; have := HK3.out; first | omega | exact Nat.le_refl _⟩, ⟨by (with_reducible repeat (first | refine blk_drewN ?_ _ | refine blk_drew ?_ | refine blk_alloc ?_ _)); exact BK251.out⟩, ⟨by repeat (first | (with_reducible first | exact HI243.out | apply IsS70.alloc | apply IsS70.drewN | apply IsS70.drew | exact IsS70.far5 HI243.out ⟨_, BK251.out⟩ NB243_251.out) | exact HI243.out)⟩, ⟨by repeat (first | (with_reducible first | exact HB.out | apply below_alloc | apply pw_below_drewN | apply below_drew1 | refine below_set ?_ (IsS70.ge HI243.out) | refine below_set ?_ GE251.out) | exact HB.out)⟩⟩
                            · rw [if_neg c27] at H
                              have c27b0 : (((rd_T52 l1 x52_3).f0) == 2) = false := beq_eq_false_iff_ne.mpr c27
                              have c27b1 : (((rd_T52 l1 x52_3).f0) != 2) = true := bne_iff_ne.mpr c27
                              (first | rw [c27b0] | (simp only [i64_w, i32_w]; rw [c27b0]) | skip)
                              have H' := Aside0.mk H
                              clear H
                              go_wp2
                              go_meet
                              case rel => exact ⟨_, (x244000_3), H', ⟨by have := HJ4.out; have := HK2.out; have := HK3.out; first | omega | exact Nat.le_refl _⟩, ⟨by (with_reducible repeat (first | refine blk_drewN ?_ _ | refine blk_drew ?_ | refine blk_alloc ?_ _)); refine blk_put (cs := #[.int .i64 ((rd_T52 l1 x52_3).f0), .int .i64 ((rd_T52 l1 x52_3).f1), .int .i64 ((rd_T52 l1 x52_3).f2), .int .u32 ((rd_T52 l1 x52_3).f3), .slice none 0 0]) ?_ 4 _ rfl; (with_reducible repeat (first | refine blk_drewN ?_ _ | refine blk_drew ?_ | refine blk_alloc ?_ _)); refine blk_put (cs := #[.int .i64 ((rd_T52 l1 x52_3).f0), .int .i64 ((rd_T52 l1 x52_3).f1), .int .i64 ((rd_T52 l1 x52_3).f2), .int .u32 0, .slice none 0 0]) ?_ 3 _ rfl; (with_reducible repeat (first | refine blk_drewN ?_ _ | refine blk_drew ?_ | refine blk_alloc ?_ _)); refine blk_put (cs := #[.int .i64 ((rd_T52 l1 x52_3).f0), .int .i64 ((rd_T52 l1 x52_3).f1), .int .i64 0, .int .u32 0, .slice none 0 0]) ?_ 2 _ rfl; (with_reducible repeat (first | refine blk_drewN ?_ _ | refine blk_drew ?_ | refine blk_alloc ?_ _)); refine blk_put (cs := #[.int .i64 ((rd_T52 l1 x52_3).f0), .int .i64 0, .int .i64 0, .int .u32 0, .slice none 0 0]) ?_ 1 _ rfl; (with_reducible repeat (first | refine blk_drewN ?_ _ | refine blk_drew ?_ | refine blk_alloc ?_ _)); refine blk_put (cs := #[.int .i64 0, .int .i64 0, .int .i64 0, .int .u32 0, .slice none 0 0]) ?_ 0 _ rfl; (with_reducible repeat (first | refine blk_drewN ?_ _ | refine blk_drew ?_ | refine blk_alloc ?_ _)); exact BK251.out⟩, ⟨by repeat (first | (with_reducible first | exact HI243.out | apply IsS70.alloc | apply IsS70.drewN | apply IsS70.drew | exact IsS70.far5 HI243.out ⟨_, BK251.out⟩ NB243_251.out) | exact HI243.out)⟩, ⟨by repeat (first | (with_reducible first | exact HB.out | apply below_alloc | apply pw_below_drewN | apply below_drew1 | refine below_set ?_ (IsS70.ge HI243.out) | refine below_set ?_ GE251.out) | exact HB.out)⟩⟩
                          case rest =>
                            clear HC23
                            try clear c1
                            try clear c2
                            try clear p2
                            try clear q2
                            try clear hx2
                            try clear c3
                            try clear c4
                            try clear p6
                            try clear c7
                            try clear c7b0
                            try clear c7b1
                            try clear c8
                            try clear c11
                            try clear c11b0
                            try clear c12
                            try clear c12b0
                            try clear c13
                            try clear c13b0
                            try clear c14
                            try clear c14b0
                            try clear c14b1
                            try clear c20
                            try clear c20b0
                            try clear c21
                            try clear c21b0
                            try clear c22
                            try clear c22b0
                            try clear c24
                            try clear p24
                            try clear q24
                            try clear hx24
                            try clear c25
                            try clear p25
                            try clear q25
                            try clear hx25
                            try clear c26
                            try clear c27
                            try clear c27b0
                            try clear c27b1
                            try clear c28
                            try clear c29
                            try clear c30
                            try clear hcz26_0
                            try clear hcz26_1
                            try clear hcz26_2
                            try clear hcz26_3
                            try clear hcz26_4
                            try clear hcz30_0
                            try clear hcz30_1
                            try clear hcz30_2
                            try clear hcz30_3
                            try clear hcz30_4
                            try clear hfz26_0
                            try clear hfz26_1
                            try clear hfz26_2
                            try clear hfz26_3
                            try clear hfz26_4
                            try clear hfz30_0
                            try clear hfz30_1
                            try clear hfz30_2
                            try clear hfz30_3
                            try clear hfz30_4
                            try clear hx244_0
                            try clear hx250_0
                            try clear hx250_1
                            try clear hx250_2
                            try clear hx250_3
                            try clear hx250_4
                            try clear p2
                            try clear p244
                            try clear p250
                            try clear p6
                            try clear q2
                            try clear q244
                            try clear q250
                            obtain ⟨kq, x244000_22, HA, HJ22, BK251, HI243, HB⟩ := hcut
                            cases kq with
                            | zero => exact absurd HA.out (by simp [ropewaylaw19_NetSpoils.j3])
                            | succ kj22 =>
                              have H := HA.out
                              clear HA
                              simp only [ropewaylaw19_NetSpoils.j3] at H
                              have HC32 := Aside0.mk H
                              clear H
                              have hnb33 := NB251_243.out
                              have hnc33 := NB243_251.out
                              have hcz34_0 : wc.cell? ⟨gb251, 0, none⟩ = some (.int .i64 ((rd_T52 l1 x52_3).f0)) := (blk_cell BK251.out 0).trans rfl
                              have hcz34_1 : wc.cell? ⟨gb251, 1, none⟩ = some (.int .i64 ((rd_T52 l1 x52_3).f1)) := (blk_cell BK251.out 1).trans rfl
                              have hcz34_2 : wc.cell? ⟨gb251, 2, none⟩ = some (.int .i64 ((rd_T52 l1 x52_3).f2)) := (blk_cell BK251.out 2).trans rfl
                              have hcz34_3 : wc.cell? ⟨gb251, 3, none⟩ = some (.int .u32 ((rd_T52 l1 x52_3).f3)) := (blk_cell BK251.out 3).trans rfl
                              have hcz34_4 : wc.cell? ⟨gb251, 4, none⟩ = some (.slice A250_4 ((rd_T52 l1 x52_3).f4).length c250_4) := (blk_cell BK251.out 4).trans rfl
                              have hfz34_0 := blk_frozen BK251.out 0
                              have hfz34_1 := blk_frozen BK251.out 1
                              have hfz34_2 := blk_frozen BK251.out 2
                              have hfz34_3 := blk_frozen BK251.out 3
                              have hfz34_4 := blk_frozen BK251.out 4
                              go_upto_if 65 with (fail)
                              go_cut [] (fun wc => ∃ (kq : Nat) (x244000_31 : List S72), Aside0 (ropewaylaw19_NetSpoils.j4 kq l0 l1 (l1.length : Int) x52_3 x244000_31 ((rd_T52 l1 x52_3).f0) ((rd_T52 l1 x52_3).f1) ((rd_T52 l1 x52_3).f2) ((rd_T52 l1 x52_3).f3) ((rd_T52 l1 x52_3).f4) = some r) ∧ Aside0 (kq ≤ kj22) ∧ Aside0 (wc.heap[gb251]? = some (.cells #[.int .i64 ((rd_T52 l1 x52_3).f0), .int .i64 ((rd_T52 l1 x52_3).f1), .int .i64 ((rd_T52 l1 x52_3).f2), .int .u32 ((rd_T52 l1 x52_3).f3), (.slice A250_4 ((rd_T52 l1 x52_3).f4).length c250_4)] 52 (0, 0))) ∧ Aside0 (IsS70 w wc g243 x244000_31) ∧ Aside0 (Below w.heap.size w wc))
                              case first =>
                                have H := HC32.out
                                clear HC32
                                by_cases c35 : ((rd_T52 l1 x52_3).f0) = 3
                                · rw [if_pos c35] at H
                                  have c35b0 : (((rd_T52 l1 x52_3).f0) == 3) = true := beq_iff_eq.mpr c35
                                  have c35b1 : (((rd_T52 l1 x52_3).f0) != 3) = false := bne_eq_false_iff_eq.mpr c35
                                  clear c35
                                  (first | rw [c35b0] | (simp only [i64_w, i32_w]; rw [c35b0]) | skip)
                                  replace H := Option.bind_eq_some_iff.mp H
                                  obtain ⟨⟨t254, t257, t258⟩, A360, H⟩ := H
                                  replace H : ((crc_Open.f kj22 t254).bind fun bt259 => ((net_Net_Spoil.f t258 ((rd_T52 l1 x52_3).f1) ((rd_T52 l1 x52_3).f2) ((rd_T52 l1 x52_3).f3)).bind fun bt263 => (if bt263.1 = true then ((net_Net_At.f bt263.2 ((rd_T52 l1 x52_3).f1)).bind fun bt265 => ((crc_Open.f kj22 bt265.1).bind fun bt270 => (if bt259.2 = 0 then (if bt270.2 = 0 then (some false) else (ropewaylaw19_NetSpoils.j4 kj22 l0 l1 (l1.length : Int) x52_3 bt265.2.2 ((rd_T52 l1 x52_3).f0) ((rd_T52 l1 x52_3).f1) ((rd_T52 l1 x52_3).f2) ((rd_T52 l1 x52_3).f3) ((rd_T52 l1 x52_3).f4))) else (some false)))) else (ropewaylaw19_NetSpoils.j4 kj22 l0 l1 (l1.length : Int) x52_3 bt263.2 ((rd_T52 l1 x52_3).f0) ((rd_T52 l1 x52_3).f1) ((rd_T52 l1 x52_3).f2) ((rd_T52 l1 x52_3).f3) ((rd_T52 l1 x52_3).f4))))) = some r := H
                                  have A36 := Aside0.mk A360
                                  clear A360
                                  replace H := Option.bind_eq_some_iff.mp H
                                  obtain ⟨⟨t259, t262⟩, A370, H⟩ := H
                                  replace H : ((net_Net_Spoil.f t258 ((rd_T52 l1 x52_3).f1) ((rd_T52 l1 x52_3).f2) ((rd_T52 l1 x52_3).f3)).bind fun bt263 => (if bt263.1 = true then ((net_Net_At.f bt263.2 ((rd_T52 l1 x52_3).f1)).bind fun bt265 => ((crc_Open.f kj22 bt265.1).bind fun bt270 => (if t262 = 0 then (if bt270.2 = 0 then (some false) else (ropewaylaw19_NetSpoils.j4 kj22 l0 l1 (l1.length : Int) x52_3 bt265.2.2 ((rd_T52 l1 x52_3).f0) ((rd_T52 l1 x52_3).f1) ((rd_T52 l1 x52_3).f2) ((rd_T52 l1 x52_3).f3) ((rd_T52 l1 x52_3).f4))) else (some false)))) else (ropewaylaw19_NetSpoils.j4 kj22 l0 l1 (l1.length : Int) x52_3 bt263.2 ((rd_T52 l1 x52_3).f0) ((rd_T52 l1 x52_3).f1) ((rd_T52 l1 x52_3).f2) ((rd_T52 l1 x52_3).f3) ((rd_T52 l1 x52_3).f4)))) = some r := H
                                  have A37 := Aside0.mk A370
                                  clear A370
                                  replace H := Option.bind_eq_some_iff.mp H
                                  obtain ⟨⟨t263, t264⟩, A380, H⟩ := H
                                  replace H : (if t263 = true then ((net_Net_At.f t264 ((rd_T52 l1 x52_3).f1)).bind fun bt265 => ((crc_Open.f kj22 bt265.1).bind fun bt270 => (if t262 = 0 then (if bt270.2 = 0 then (some false) else (ropewaylaw19_NetSpoils.j4 kj22 l0 l1 (l1.length : Int) x52_3 bt265.2.2 ((rd_T52 l1 x52_3).f0) ((rd_T52 l1 x52_3).f1) ((rd_T52 l1 x52_3).f2) ((rd_T52 l1 x52_3).f3) ((rd_T52 l1 x52_3).f4))) else (some false)))) else (ropewaylaw19_NetSpoils.j4 kj22 l0 l1 (l1.length : Int) x52_3 t264 ((rd_T52 l1 x52_3).f0) ((rd_T52 l1 x52_3).f1) ((rd_T52 l1 x52_3).f2) ((rd_T52 l1 x52_3).f3) ((rd_T52 l1 x52_3).f4))) = some r := H
                                  have A38 := Aside0.mk A380
                                  clear A380
                                  by_cases c39 : t263 = true
                                  · subst c39
                                    have H1 : ((net_Net_At.f t264 ((rd_T52 l1 x52_3).f1)).bind fun bt265 => ((crc_Open.f kj22 bt265.1).bind fun bt270 => (if t262 = 0 then (if bt270.2 = 0 then (some false) else (ropewaylaw19_NetSpoils.j4 kj22 l0 l1 (l1.length : Int) x52_3 bt265.2.2 ((rd_T52 l1 x52_3).f0) ((rd_T52 l1 x52_3).f1) ((rd_T52 l1 x52_3).f2) ((rd_T52 l1 x52_3).f3) ((rd_T52 l1 x52_3).f4))) else (some false)))) = some r := by rw [if_pos rfl] at H; exact H
                                    clear H
                                    have H := H1
                                    clear H1
                                    replace H := Option.bind_eq_some_iff.mp H
                                    obtain ⟨⟨t265, t268, t269⟩, A400, H⟩ := H
                                    replace H : ((crc_Open.f kj22 t265).bind fun bt270 => (if t262 = 0 then (if bt270.2 = 0 then (some false) else (ropewaylaw19_NetSpoils.j4 kj22 l0 l1 (l1.length : Int) x52_3 t269 ((rd_T52 l1 x52_3).f0) ((rd_T52 l1 x52_3).f1) ((rd_T52 l1 x52_3).f2) ((rd_T52 l1 x52_3).f3) ((rd_T52 l1 x52_3).f4))) else (some false))) = some r := H
                                    have A40 := Aside0.mk A400
                                    clear A400
                                    replace H := Option.bind_eq_some_iff.mp H
                                    obtain ⟨⟨t270, t273⟩, A410, H⟩ := H
                                    replace H : (if t262 = 0 then (if t273 = 0 then (some false) else (ropewaylaw19_NetSpoils.j4 kj22 l0 l1 (l1.length : Int) x52_3 t269 ((rd_T52 l1 x52_3).f0) ((rd_T52 l1 x52_3).f1) ((rd_T52 l1 x52_3).f2) ((rd_T52 l1 x52_3).f3) ((rd_T52 l1 x52_3).f4))) else (some false)) = some r := H
                                    have A41 := Aside0.mk A410
                                    clear A410
                                    by_cases c42 : t262 = 0
                                    · rw [if_pos c42] at H
                                      have c42b0 : (t262 == 0) = true := beq_iff_eq.mpr c42
                                      have c42b1 : (t262 != 0) = false := bne_eq_false_iff_eq.mpr c42
                                      clear c42
                                      by_cases c43 : t273 = 0
                                      · rw [if_pos c43] at H
                                        have c43b0 : (t273 == 0) = true := beq_iff_eq.mpr c43
                                        have c43b1 : (t273 != 0) = false := bne_eq_false_iff_eq.mpr c43
                                        clear c43
                                        obtain rfl := Option.some.inj H
                                        have hnb44 := NB251_243.out
                                        have hnc44 := NB243_251.out
                                        have hcz45_0 : wc.cell? ⟨gb251, 0, none⟩ = some (.int .i64 ((rd_T52 l1 x52_3).f0)) := (blk_cell BK251.out 0).trans rfl
                                        have hcz45_1 : wc.cell? ⟨gb251, 1, none⟩ = some (.int .i64 ((rd_T52 l1 x52_3).f1)) := (blk_cell BK251.out 1).trans rfl
                                        have hcz45_2 : wc.cell? ⟨gb251, 2, none⟩ = some (.int .i64 ((rd_T52 l1 x52_3).f2)) := (blk_cell BK251.out 2).trans rfl
                                        have hcz45_3 : wc.cell? ⟨gb251, 3, none⟩ = some (.int .u32 ((rd_T52 l1 x52_3).f3)) := (blk_cell BK251.out 3).trans rfl
                                        have hcz45_4 : wc.cell? ⟨gb251, 4, none⟩ = some (.slice A250_4 ((rd_T52 l1 x52_3).f4).length c250_4) := (blk_cell BK251.out 4).trans rfl
                                        have hfz45_0 := blk_frozen BK251.out 0
                                        have hfz45_1 := blk_frozen BK251.out 1
                                        have hfz45_2 := blk_frozen BK251.out 2
                                        have hfz45_3 := blk_frozen BK251.out 3
                                        have hfz45_4 := blk_frozen BK251.out 4
                                        go_wp2_with (first | ((with_reducible refine gate_callee (f := 25) rfl ?_); refine goesL_ (some 70) rfl rfl Try.func25 (by kernel_rfl) rfl #[.pointer (some ⟨g243, 0, none⟩), .int .i64 ((rd_T52 l1 x52_3).f1)] rfl (by (try simp only [List.map_toArray, List.map_cons, List.map_nil]); first | done | rfl | (simp only [List.length_drop, List.length_take]; rfl)) ?_; (with_reducible refine (net_Net_At.calls g243 x244000_22 ((rd_T52 l1 x52_3).f1) t254 t257 t258 w _ ?side1 ?side2 A36.out).mono ?_); (case side1 => repeat (first | (with_reducible first | exact HI243.out | apply IsS70.alloc | apply IsS70.drewN | apply IsS70.drew | exact IsS70.far5 HI243.out ⟨_, BK251.out⟩ NB243_251.out) | exact HI243.out)); (case side2 => repeat (first | (with_reducible first | exact HB.out | apply below_alloc | apply pw_below_drewN | apply below_drew1 | refine below_set ?_ (IsS70.ge HI243.out) | refine below_set ?_ GE251.out) | exact HB.out)); rintro e w46 ⟨v255, rfl, ho0, hi, hb, hk⟩; refine ⟨_, rfl, ?_⟩; have n0_ := Aside0.mk (KeepBut.blk hk (g' := gb251) (o := .cells #[.int .i64 ((rd_T52 l1 x52_3).f0), .int .i64 ((rd_T52 l1 x52_3).f1), .int .i64 ((rd_T52 l1 x52_3).f2), .int .u32 ((rd_T52 l1 x52_3).f3), .slice A250_4 ((rd_T52 l1 x52_3).f4).length c250_4] 52 (0, 0)) (by (with_reducible repeat (first | refine blk_drewN ?_ _ | refine blk_drew ?_ | refine blk_alloc ?_ _)); exact BK251.out) NB251_243.out (by simp)); have n1_ := Aside0.mk (Kd.R_lower ho0 (below_size (by repeat (first | (with_reducible first | exact HB.out | apply below_alloc | apply pw_below_drewN | apply below_drew1 | refine below_set ?_ (IsS70.ge HI243.out) | refine below_set ?_ GE251.out) | exact HB.out)))); have n2_ := Aside0.mk (hb); have n3_ := Aside0.mk (hi); clear BK251; clear HB; clear HI243; have BK251 := n0_; have HO256 := n1_; have HB := n2_; have HI243 := n3_; clear n0_ n1_ n2_ n3_; (try clear hb); (try clear hb2); (try clear hk); (try clear hi); (try clear ho0); obtain ⟨Ao47, co47, eo47⟩ := Kd.R_slice HO256.out; subst eo47) | ((with_reducible refine gate_callee (f := 15) rfl ?_); refine goesL_ (some 75) rfl rfl Try.func15 (by kernel_rfl) rfl #[.slice Ao47 t254.length co47] rfl (by (try simp only [List.map_toArray, List.map_cons, List.map_nil]); first | done | rfl | (simp only [List.length_drop, List.length_take]; rfl)) ?_; (with_reducible refine (crc_Open.calls kj22 (fun k_ => some k_ = (.slice Ao47 t254.length co47 : Value).ownBlock) _ _ t254 t259 t262 _ ?side1 A37.out).mono ?_); (case side1 => exact Kd.R_V (Kd.R_tight rfl (IsS70.apart HI243.out (Kd.R_types (HO256.out) BK251.out (by decide)) (by decide)))); rintro e w48 ⟨v260, rfl, ho0, hb⟩; refine ⟨_, rfl, ?_⟩; have n0_ := Aside0.mk (Kd.R_elder' (by (with_reducible repeat (first | apply Kd.R_alloc | apply Kd.R_drewN | apply Kd.R_drew)); exact HO256.out) (Kd.R_base ho0) hb); have n1_ := Aside0.mk (Kd.R_lower (Kd.R_new' (Kd.R_mono (ok' := fun k_ => True) ho0 (fun _ hk_ => trivial)) (Kd.R_lt (by (with_reducible repeat (first | apply Kd.R_alloc | apply Kd.R_drewN | apply Kd.R_drew)); exact HO256.out))) (below_size (by repeat (first | (with_reducible first | exact HB.out | apply below_alloc | apply pw_below_drewN | apply below_drew1 | refine below_set ?_ (IsS70.ge HI243.out) | refine below_set ?_ GE251.out) | exact HB.out)))); have n2_ := Aside0.mk (blk_below (g := gb251) (o := .cells #[.int .i64 ((rd_T52 l1 x52_3).f0), .int .i64 ((rd_T52 l1 x52_3).f1), .int .i64 ((rd_T52 l1 x52_3).f2), .int .u32 ((rd_T52 l1 x52_3).f3), .slice A250_4 ((rd_T52 l1 x52_3).f4).length c250_4] 52 (0, 0)) (by (with_reducible repeat (first | refine blk_drewN ?_ _ | refine blk_drew ?_ | refine blk_alloc ?_ _)); exact BK251.out) hb); have n3_ := Aside0.mk (IsS70.below (by repeat (first | (with_reducible first | exact HI243.out | apply IsS70.alloc | apply IsS70.drewN | apply IsS70.drew | exact IsS70.far5 HI243.out ⟨_, BK251.out⟩ NB243_251.out) | exact HI243.out)) hb); have n4_ := Aside0.mk (below_step (by repeat (first | (with_reducible first | exact HB.out | apply below_alloc | apply pw_below_drewN | apply below_drew1 | refine below_set ?_ (IsS70.ge HI243.out) | refine below_set ?_ GE251.out) | exact HB.out)) hb); clear HO256; clear BK251; clear HI243; clear HB; have HO256 := n0_; have HO261 := n1_; have BK251 := n2_; have HI243 := n3_; have HB := n4_; clear n0_ n1_ n2_ n3_ n4_; (try clear hb); (try clear hb2); (try clear hk); (try clear hi); (try clear ho0); have hcz49_0 : w48.cell? ⟨gb251, 0, none⟩ = some (.int .i64 ((rd_T52 l1 x52_3).f0)) := (blk_cell BK251.out 0).trans rfl; have hcz49_1 : w48.cell? ⟨gb251, 1, none⟩ = some (.int .i64 ((rd_T52 l1 x52_3).f1)) := (blk_cell BK251.out 1).trans rfl; have hcz49_2 : w48.cell? ⟨gb251, 2, none⟩ = some (.int .i64 ((rd_T52 l1 x52_3).f2)) := (blk_cell BK251.out 2).trans rfl; have hcz49_3 : w48.cell? ⟨gb251, 3, none⟩ = some (.int .u32 ((rd_T52 l1 x52_3).f3)) := (blk_cell BK251.out 3).trans rfl; have hcz49_4 : w48.cell? ⟨gb251, 4, none⟩ = some (.slice A250_4 ((rd_T52 l1 x52_3).f4).length c250_4) := (blk_cell BK251.out 4).trans rfl; have hfz49_0 := blk_frozen BK251.out 0; have hfz49_1 := blk_frozen BK251.out 1; have hfz49_2 := blk_frozen BK251.out 2; have hfz49_3 := blk_frozen BK251.out 3; have hfz49_4 := blk_frozen BK251.out 4) | ((with_reducible refine gate_callee (f := 29) rfl ?_); refine goesL_ (some 85) rfl rfl Try.func29 (by kernel_rfl) rfl #[.pointer (some ⟨g243, 0, none⟩), .int .i64 ((rd_T52 l1 x52_3).f1), .int .i64 ((rd_T52 l1 x52_3).f2), .int .u32 ((rd_T52 l1 x52_3).f3)] rfl (by (try simp only [List.map_toArray, List.map_cons, List.map_nil]); first | done | rfl | (simp only [List.length_drop, List.length_take]; rfl)) ?_; (with_reducible refine (net_Net_Spoil.calls g243 t258 ((rd_T52 l1 x52_3).f1) ((rd_T52 l1 x52_3).f2) ((rd_T52 l1 x52_3).f3) true t264 w _ ?side1 ?side2 A38.out).mono ?_); (case side1 => repeat (first | (with_reducible first | exact HI243.out | apply IsS70.alloc | apply IsS70.drewN | apply IsS70.drew | exact IsS70.far5 HI243.out ⟨_, BK251.out⟩ NB243_251.out) | exact HI243.out)); (case side2 => repeat (first | (with_reducible first | exact HB.out | apply below_alloc | apply pw_below_drewN | apply below_drew1 | refine below_set ?_ (IsS70.ge HI243.out) | refine below_set ?_ GE251.out) | exact HB.out)); rintro e w50 ⟨rfl, hi, hb, hk⟩; refine ⟨_, rfl, ?_⟩; have n0_ := Aside0.mk (KeepT.blk hk (g' := gb251) (o := .cells #[.int .i64 ((rd_T52 l1 x52_3).f0), .int .i64 ((rd_T52 l1 x52_3).f1), .int .i64 ((rd_T52 l1 x52_3).f2), .int .u32 ((rd_T52 l1 x52_3).f3), .slice A250_4 ((rd_T52 l1 x52_3).f4).length c250_4] 52 (0, 0)) (by (with_reducible repeat (first | refine blk_drewN ?_ _ | refine blk_drew ?_ | refine blk_alloc ?_ _)); exact BK251.out) NB251_243.out (by simp)); have n1_ := Aside0.mk (Kd.R_mono (R_keepT (IsS70.apart (show IsS70 w _ g243 t258 from by repeat (first | (with_reducible first | exact HI243.out | apply IsS70.alloc | apply IsS70.drewN | apply IsS70.drew | exact IsS70.far5 HI243.out ⟨_, BK251.out⟩ NB243_251.out) | exact HI243.out)) (by (with_reducible repeat (first | apply Kd.R_alloc | apply Kd.R_drewN | apply Kd.R_drew)); exact HO256.out) (by decide)) hk (fun _ h => h.2)) (fun _ h => h.1)); have n2_ := Aside0.mk (Kd.R_mono (R_keepT (IsS70.apart (show IsS70 w _ g243 t258 from by repeat (first | (with_reducible first | exact HI243.out | apply IsS70.alloc | apply IsS70.drewN | apply IsS70.drew | exact IsS70.far5 HI243.out ⟨_, BK251.out⟩ NB243_251.out) | exact HI243.out)) (by (with_reducible repeat (first | apply Kd.R_alloc | apply Kd.R_drewN | apply Kd.R_drew)); exact HO261.out) (by decide)) hk (fun _ h => h.2)) (fun _ h => h.1)); have n3_ := Aside0.mk (hb); have n4_ := Aside0.mk (hi); clear BK251; clear HO256; clear HO261; clear HB; clear HI243; have BK251 := n0_; have HO256 := n1_; have HO261 := n2_; have HB := n3_; have HI243 := n4_; clear n0_ n1_ n2_ n3_ n4_; (try clear hb); (try clear hb2); (try clear hk); (try clear hi); have hcz51_0 : w50.cell? ⟨gb251, 0, none⟩ = some (.int .i64 ((rd_T52 l1 x52_3).f0)) := (blk_cell BK251.out 0).trans rfl; have hcz51_1 : w50.cell? ⟨gb251, 1, none⟩ = some (.int .i64 ((rd_T52 l1 x52_3).f1)) := (blk_cell BK251.out 1).trans rfl; have hcz51_2 : w50.cell? ⟨gb251, 2, none⟩ = some (.int .i64 ((rd_T52 l1 x52_3).f2)) := (blk_cell BK251.out 2).trans rfl; have hcz51_3 : w50.cell? ⟨gb251, 3, none⟩ = some (.int .u32 ((rd_T52 l1 x52_3).f3)) := (blk_cell BK251.out 3).trans rfl; have hcz51_4 : w50.cell? ⟨gb251, 4, none⟩ = some (.slice A250_4 ((rd_T52 l1 x52_3).f4).length c250_4) := (blk_cell BK251.out 4).trans rfl; have hfz51_0 := blk_frozen BK251.out 0; have hfz51_1 := blk_frozen BK251.out 1; have hfz51_2 := blk_frozen BK251.out 2; have hfz51_3 := blk_frozen BK251.out 3; have hfz51_4 := blk_frozen BK251.out 4) | ((with_reducible refine gate_callee (f := 25) rfl ?_); refine goesL_ (some 90) rfl rfl Try.func25 (by kernel_rfl) rfl #[.pointer (some ⟨g243, 0, none⟩), .int .i64 ((rd_T52 l1 x52_3).f1)] rfl (by (try simp only [List.map_toArray, List.map_cons, List.map_nil]); first | done | rfl | (simp only [List.length_drop, List.length_take]; rfl)) ?_; (with_reducible refine (net_Net_At.calls g243 t264 ((rd_T52 l1 x52_3).f1) t265 t268 t269 w _ ?side1 ?side2 A40.out).mono ?_); (case side1 => repeat (first | (with_reducible first | exact HI243.out | apply IsS70.alloc | apply IsS70.drewN | apply IsS70.drew | exact IsS70.far5 HI243.out ⟨_, BK251.out⟩ NB243_251.out) | exact HI243.out)); (case side2 => repeat (first | (with_reducible first | exact HB.out | apply below_alloc | apply pw_below_drewN | apply below_drew1 | refine below_set ?_ (IsS70.ge HI243.out) | refine below_set ?_ GE251.out) | exact HB.out)); rintro e w52 ⟨v266, rfl, ho0, hi, hb, hk⟩; refine ⟨_, rfl, ?_⟩; have n0_ := Aside0.mk (KeepBut.blk hk (g' := gb251) (o := .cells #[.int .i64 ((rd_T52 l1 x52_3).f0), .int .i64 ((rd_T52 l1 x52_3).f1), .int .i64 ((rd_T52 l1 x52_3).f2), .int .u32 ((rd_T52 l1 x52_3).f3), .slice A250_4 ((rd_T52 l1 x52_3).f4).length c250_4] 52 (0, 0)) (by (with_reducible repeat (first | refine blk_drewN ?_ _ | refine blk_drew ?_ | refine blk_alloc ?_ _)); exact BK251.out) NB251_243.out (by simp)); have n1_ := Aside0.mk (Kd.R_mono (Kd.R_told (Kd.R_oldK (IsS70.apart (show IsS70 w _ g243 t264 from by repeat (first | (with_reducible first | exact HI243.out | apply IsS70.alloc | apply IsS70.drewN | apply IsS70.drew | exact IsS70.far5 HI243.out ⟨_, BK251.out⟩ NB243_251.out) | exact HI243.out)) (by (with_reducible repeat (first | apply Kd.R_alloc | apply Kd.R_drewN | apply Kd.R_drew)); exact HO256.out) (by decide)) hk) (Kd.R_base ho0)) (fun _ h_ => h_.1)); have n2_ := Aside0.mk (Kd.R_mono (Kd.R_told (Kd.R_oldK (IsS70.apart (show IsS70 w _ g243 t264 from by repeat (first | (with_reducible first | exact HI243.out | apply IsS70.alloc | apply IsS70.drewN | apply IsS70.drew | exact IsS70.far5 HI243.out ⟨_, BK251.out⟩ NB243_251.out) | exact HI243.out)) (by (with_reducible repeat (first | apply Kd.R_alloc | apply Kd.R_drewN | apply Kd.R_drew)); exact HO261.out) (by decide)) hk) (Kd.R_base ho0)) (fun _ h_ => h_.1)); have n3_ := Aside0.mk (Kd.R_lower (Kd.R_new' (Kd.R_new' ho0 (Kd.R_lt (by (with_reducible repeat (first | apply Kd.R_alloc | apply Kd.R_drewN | apply Kd.R_drew)); exact HO256.out))) (Kd.R_lt (by (with_reducible repeat (first | apply Kd.R_alloc | apply Kd.R_drewN | apply Kd.R_drew)); exact HO261.out))) (below_size (by repeat (first | (with_reducible first | exact HB.out | apply below_alloc | apply pw_below_drewN | apply below_drew1 | refine below_set ?_ (IsS70.ge HI243.out) | refine below_set ?_ GE251.out) | exact HB.out)))); have n4_ := Aside0.mk (hb); have n5_ := Aside0.mk (hi); clear BK251; clear HO256; clear HO261; clear HB; clear HI243; have BK251 := n0_; have HO256 := n1_; have HO261 := n2_; have HO267 := n3_; have HB := n4_; have HI243 := n5_; clear n0_ n1_ n2_ n3_ n4_ n5_; (try clear hb); (try clear hb2); (try clear hk); (try clear hi); (try clear ho0); obtain ⟨Ao53, co53, eo53⟩ := Kd.R_slice HO267.out; subst eo53) | ((with_reducible refine gate_callee (f := 15) rfl ?_); refine goesL_ (some 95) rfl rfl Try.func15 (by kernel_rfl) rfl #[.slice Ao53 t265.length co53] rfl (by (try simp only [List.map_toArray, List.map_cons, List.map_nil]); first | done | rfl | (simp only [List.length_drop, List.length_take]; rfl)) ?_; (with_reducible refine (crc_Open.calls kj22 (fun k_ => some k_ = (.slice Ao53 t265.length co53 : Value).ownBlock) _ _ t265 t270 t273 _ ?side1 A41.out).mono ?_); (case side1 => exact Kd.R_V (Kd.R_tight rfl (IsS70.apart HI243.out (Kd.R_types (HO267.out) BK251.out (by decide)) (by decide)))); rintro e w54 ⟨v271, rfl, ho0, hb⟩; refine ⟨_, rfl, ?_⟩; have n0_ := Aside0.mk (Kd.R_elder' (by (with_reducible repeat (first | apply Kd.R_alloc | apply Kd.R_drewN | apply Kd.R_drew)); exact HO256.out) (Kd.R_base ho0) hb); have n1_ := Aside0.mk (Kd.R_elder' (by (with_reducible repeat (first | apply Kd.R_alloc | apply Kd.R_drewN | apply Kd.R_drew)); exact HO261.out) (Kd.R_base ho0) hb); have n2_ := Aside0.mk (Kd.R_elder' (by (with_reducible repeat (first | apply Kd.R_alloc | apply Kd.R_drewN | apply Kd.R_drew)); exact HO267.out) (Kd.R_base ho0) hb); have n3_ := Aside0.mk (Kd.R_lower (Kd.R_new' (Kd.R_new' (Kd.R_new' (Kd.R_mono (ok' := fun k_ => True) ho0 (fun _ hk_ => trivial)) (Kd.R_lt (by (with_reducible repeat (first | apply Kd.R_alloc | apply Kd.R_drewN | apply Kd.R_drew)); exact HO256.out))) (Kd.R_lt (by (with_reducible repeat (first | apply Kd.R_alloc | apply Kd.R_drewN | apply Kd.R_drew)); exact HO261.out))) (Kd.R_lt (by (with_reducible repeat (first | apply Kd.R_alloc | apply Kd.R_drewN | apply Kd.R_drew)); exact HO267.out))) (below_size (by repeat (first | (with_reducible first | exact HB.out | apply below_alloc | apply pw_below_drewN | apply below_drew1 | refine below_set ?_ (IsS70.ge HI243.out) | refine below_set ?_ GE251.out) | exact HB.out)))); have n4_ := Aside0.mk (blk_below (g := gb251) (o := .cells #[.int .i64 ((rd_T52 l1 x52_3).f0), .int .i64 ((rd_T52 l1 x52_3).f1), .int .i64 ((rd_T52 l1 x52_3).f2), .int .u32 ((rd_T52 l1 x52_3).f3), .slice A250_4 ((rd_T52 l1 x52_3).f4).length c250_4] 52 (0, 0)) (by (with_reducible repeat (first | refine blk_drewN ?_ _ | refine blk_drew ?_ | refine blk_alloc ?_ _)); exact BK251.out) hb); have n5_ := Aside0.mk (IsS70.below (by repeat (first | (with_reducible first | exact HI243.out | apply IsS70.alloc | apply IsS70.drewN | apply IsS70.drew | exact IsS70.far5 HI243.out ⟨_, BK251.out⟩ NB243_251.out) | exact HI243.out)) hb); have n6_ := Aside0.mk (below_step (by repeat (first | (with_reducible first | exact HB.out | apply below_alloc | apply pw_below_drewN | apply below_drew1 | refine below_set ?_ (IsS70.ge HI243.out) | refine below_set ?_ GE251.out) | exact HB.out)) hb); clear HO256; clear HO261; clear HO267; clear BK251; clear HI243; clear HB; have HO256 := n0_; have HO261 := n1_; have HO267 := n2_; have HO272 := n3_; have BK251 := n4_; have HI243 := n5_; have HB := n6_; clear n0_ n1_ n2_ n3_ n4_ n5_ n6_; (try clear hb); (try clear hb2); (try clear hk); (try clear hi); (try clear ho0)))
                                        go_ret
                                        exact ⟨by first | rfl | (simp [errW_none, errW_some] <;> rfl) | (simp [*, errW_none, errW_some] <;> rfl), by repeat (first | (with_reducible first | exact HB.out | apply below_alloc | apply pw_below_drewN | apply below_drew1 | refine below_set ?_ (IsS70.ge HI243.out) | refine below_set ?_ GE251.out) | exact HB.out)⟩
                                      · rw [if_neg c43] at H
                                        have c43b0 : (t273 == 0) = false := beq_eq_false_iff_ne.mpr c43
                                        have c43b1 : (t273 != 0) = true := bne_iff_ne.mpr c43
                                        have H' := Aside0.mk H
                                        clear H
                                        have hnb55 := NB251_243.out
                                        have hnc55 := NB243_251.out
                                        have hcz56_0 : wc.cell? ⟨gb251, 0, none⟩ = some (.int .i64 ((rd_T52 l1 x52_3).f0)) := (blk_cell BK251.out 0).trans rfl
                                        have hcz56_1 : wc.cell? ⟨gb251, 1, none⟩ = some (.int .i64 ((rd_T52 l1 x52_3).f1)) := (blk_cell BK251.out 1).trans rfl
                                        have hcz56_2 : wc.cell? ⟨gb251, 2, none⟩ = some (.int .i64 ((rd_T52 l1 x52_3).f2)) := (blk_cell BK251.out 2).trans rfl
                                        have hcz56_3 : wc.cell? ⟨gb251, 3, none⟩ = some (.int .u32 ((rd_T52 l1 x52_3).f3)) := (blk_cell BK251.out 3).trans rfl
                                        have hcz56_4 : wc.cell? ⟨gb251, 4, none⟩ = some (.slice A250_4 ((rd_T52 l1 x52_3).f4).length c250_4) := (blk_cell BK251.out 4).trans rfl
                                        have hfz56_0 := blk_frozen BK251.out 0
                                        have hfz56_1 := blk_frozen BK251.out 1
                                        have hfz56_2 := blk_frozen BK251.out 2
                                        have hfz56_3 := blk_frozen BK251.out 3
                                        have hfz56_4 := blk_frozen BK251.out 4
                                        go_wp2_with (first | ((with_reducible refine gate_callee (f := 25) rfl ?_); refine goesL_ (some 70) rfl rfl Try.func25 (by kernel_rfl) rfl #[.pointer (some ⟨g243, 0, none⟩), .int .i64 ((rd_T52 l1 x52_3).f1)] rfl (by (try simp only [List.map_toArray, List.map_cons, List.map_nil]); first | done | rfl | (simp only [List.length_drop, List.length_take]; rfl)) ?_; (with_reducible refine (net_Net_At.calls g243 x244000_22 ((rd_T52 l1 x52_3).f1) t254 t257 t258 w _ ?side1 ?side2 A36.out).mono ?_); (case side1 => repeat (first | (with_reducible first | exact HI243.out | apply IsS70.alloc | apply IsS70.drewN | apply IsS70.drew | exact IsS70.far5 HI243.out ⟨_, BK251.out⟩ NB243_251.out) | exact HI243.out)); (case side2 => repeat (first | (with_reducible first | exact HB.out | apply below_alloc | apply pw_below_drewN | apply below_drew1 | refine below_set ?_ (IsS70.ge HI243.out) | refine below_set ?_ GE251.out) | exact HB.out)); rintro e w57 ⟨v255, rfl, ho0, hi, hb, hk⟩; refine ⟨_, rfl, ?_⟩; have n0_ := Aside0.mk (KeepBut.blk hk (g' := gb251) (o := .cells #[.int .i64 ((rd_T52 l1 x52_3).f0), .int .i64 ((rd_T52 l1 x52_3).f1), .int .i64 ((rd_T52 l1 x52_3).f2), .int .u32 ((rd_T52 l1 x52_3).f3), .slice A250_4 ((rd_T52 l1 x52_3).f4).length c250_4] 52 (0, 0)) (by (with_reducible repeat (first | refine blk_drewN ?_ _ | refine blk_drew ?_ | refine blk_alloc ?_ _)); exact BK251.out) NB251_243.out (by simp)); have n1_ := Aside0.mk (Kd.R_lower ho0 (below_size (by repeat (first | (with_reducible first | exact HB.out | apply below_alloc | apply pw_below_drewN | apply below_drew1 | refine below_set ?_ (IsS70.ge HI243.out) | refine below_set ?_ GE251.out) | exact HB.out)))); have n2_ := Aside0.mk (hb); have n3_ := Aside0.mk (hi); clear BK251; clear HB; clear HI243; have BK251 := n0_; have HO256 := n1_; have HB := n2_; have HI243 := n3_; clear n0_ n1_ n2_ n3_; (try clear hb); (try clear hb2); (try clear hk); (try clear hi); (try clear ho0); obtain ⟨Ao58, co58, eo58⟩ := Kd.R_slice HO256.out; subst eo58) | ((with_reducible refine gate_callee (f := 15) rfl ?_); refine goesL_ (some 75) rfl rfl Try.func15 (by kernel_rfl) rfl #[.slice Ao58 t254.length co58] rfl (by (try simp only [List.map_toArray, List.map_cons, List.map_nil]); first | done | rfl | (simp only [List.length_drop, List.length_take]; rfl)) ?_; (with_reducible refine (crc_Open.calls kj22 (fun k_ => some k_ = (.slice Ao58 t254.length co58 : Value).ownBlock) _ _ t254 t259 t262 _ ?side1 A37.out).mono ?_); (case side1 => exact Kd.R_V (Kd.R_tight rfl (IsS70.apart HI243.out (Kd.R_types (HO256.out) BK251.out (by decide)) (by decide)))); rintro e w59 ⟨v260, rfl, ho0, hb⟩; refine ⟨_, rfl, ?_⟩; have n0_ := Aside0.mk (Kd.R_elder' (by (with_reducible repeat (first | apply Kd.R_alloc | apply Kd.R_drewN | apply Kd.R_drew)); exact HO256.out) (Kd.R_base ho0) hb); have n1_ := Aside0.mk (Kd.R_lower (Kd.R_new' (Kd.R_mono (ok' := fun k_ => True) ho0 (fun _ hk_ => trivial)) (Kd.R_lt (by (with_reducible repeat (first | apply Kd.R_alloc | apply Kd.R_drewN | apply Kd.R_drew)); exact HO256.out))) (below_size (by repeat (first | (with_reducible first | exact HB.out | apply below_alloc | apply pw_below_drewN | apply below_drew1 | refine below_set ?_ (IsS70.ge HI243.out) | refine below_set ?_ GE251.out) | exact HB.out)))); have n2_ := Aside0.mk (blk_below (g := gb251) (o := .cells #[.int .i64 ((rd_T52 l1 x52_3).f0), .int .i64 ((rd_T52 l1 x52_3).f1), .int .i64 ((rd_T52 l1 x52_3).f2), .int .u32 ((rd_T52 l1 x52_3).f3), .slice A250_4 ((rd_T52 l1 x52_3).f4).length c250_4] 52 (0, 0)) (by (with_reducible repeat (first | refine blk_drewN ?_ _ | refine blk_drew ?_ | refine blk_alloc ?_ _)); exact BK251.out) hb); have n3_ := Aside0.mk (IsS70.below (by repeat (first | (with_reducible first | exact HI243.out | apply IsS70.alloc | apply IsS70.drewN | apply IsS70.drew | exact IsS70.far5 HI243.out ⟨_, BK251.out⟩ NB243_251.out) | exact HI243.out)) hb); have n4_ := Aside0.mk (below_step (by repeat (first | (with_reducible first | exact HB.out | apply below_alloc | apply pw_below_drewN | apply below_drew1 | refine below_set ?_ (IsS70.ge HI243.out) | refine below_set ?_ GE251.out) | exact HB.out)) hb); clear HO256; clear BK251; clear HI243; clear HB; have HO256 := n0_; have HO261 := n1_; have BK251 := n2_; have HI243 := n3_; have HB := n4_; clear n0_ n1_ n2_ n3_ n4_; (try clear hb); (try clear hb2); (try clear hk); (try clear hi); (try clear ho0); have hcz60_0 : w59.cell? ⟨gb251, 0, none⟩ = some (.int .i64 ((rd_T52 l1 x52_3).f0)) := (blk_cell BK251.out 0).trans rfl; have hcz60_1 : w59.cell? ⟨gb251, 1, none⟩ = some (.int .i64 ((rd_T52 l1 x52_3).f1)) := (blk_cell BK251.out 1).trans rfl; have hcz60_2 : w59.cell? ⟨gb251, 2, none⟩ = some (.int .i64 ((rd_T52 l1 x52_3).f2)) := (blk_cell BK251.out 2).trans rfl; have hcz60_3 : w59.cell? ⟨gb251, 3, none⟩ = some (.int .u32 ((rd_T52 l1 x52_3).f3)) := (blk_cell BK251.out 3).trans rfl; have hcz60_4 : w59.cell? ⟨gb251, 4, none⟩ = some (.slice A250_4 ((rd_T52 l1 x52_3).f4).length c250_4) := (blk_cell BK251.out 4).trans rfl; have hfz60_0 := blk_frozen BK251.out 0; have hfz60_1 := blk_frozen BK251.out 1; have hfz60_2 := blk_frozen BK251.out 2; have hfz60_3 := blk_frozen BK251.out 3; have hfz60_4 := blk_frozen BK251.out 4) | ((with_reducible refine gate_callee (f := 29) rfl ?_); refine goesL_ (some 85) rfl rfl Try.func29 (by kernel_rfl) rfl #[.pointer (some ⟨g243, 0, none⟩), .int .i64 ((rd_T52 l1 x52_3).f1), .int .i64 ((rd_T52 l1 x52_3).f2), .int .u32 ((rd_T52 l1 x52_3).f3)] rfl (by (try simp only [List.map_toArray, List.map_cons, List.map_nil]); first | done | rfl | (simp only [List.length_drop, List.length_take]; rfl)) ?_; (with_reducible refine (net_Net_Spoil.calls g243 t258 ((rd_T52 l1 x52_3).f1) ((rd_T52 l1 x52_3).f2) ((rd_T52 l1 x52_3).f3) true t264 w _ ?side1 ?side2 A38.out).mono ?_); (case side1 => repeat (first | (with_reducible first | exact HI243.out | apply IsS70.alloc | apply IsS70.drewN | apply IsS70.drew | exact IsS70.far5 HI243.out ⟨_, BK251.out⟩ NB243_251.out) | exact HI243.out)); (case side2 => repeat (first | (with_reducible first | exact HB.out | apply below_alloc | apply pw_below_drewN | apply below_drew1 | refine below_set ?_ (IsS70.ge HI243.out) | refine below_set ?_ GE251.out) | exact HB.out)); rintro e w61 ⟨rfl, hi, hb, hk⟩; refine ⟨_, rfl, ?_⟩; have n0_ := Aside0.mk (KeepT.blk hk (g' := gb251) (o := .cells #[.int .i64 ((rd_T52 l1 x52_3).f0), .int .i64 ((rd_T52 l1 x52_3).f1), .int .i64 ((rd_T52 l1 x52_3).f2), .int .u32 ((rd_T52 l1 x52_3).f3), .slice A250_4 ((rd_T52 l1 x52_3).f4).length c250_4] 52 (0, 0)) (by (with_reducible repeat (first | refine blk_drewN ?_ _ | refine blk_drew ?_ | refine blk_alloc ?_ _)); exact BK251.out) NB251_243.out (by simp)); have n1_ := Aside0.mk (Kd.R_mono (R_keepT (IsS70.apart (show IsS70 w _ g243 t258 from by repeat (first | (with_reducible first | exact HI243.out | apply IsS70.alloc | apply IsS70.drewN | apply IsS70.drew | exact IsS70.far5 HI243.out ⟨_, BK251.out⟩ NB243_251.out) | exact HI243.out)) (by (with_reducible repeat (first | apply Kd.R_alloc | apply Kd.R_drewN | apply Kd.R_drew)); exact HO256.out) (by decide)) hk (fun _ h => h.2)) (fun _ h => h.1)); have n2_ := Aside0.mk (Kd.R_mono (R_keepT (IsS70.apart (show IsS70 w _ g243 t258 from by repeat (first | (with_reducible first | exact HI243.out | apply IsS70.alloc | apply IsS70.drewN | apply IsS70.drew | exact IsS70.far5 HI243.out ⟨_, BK251.out⟩ NB243_251.out) | exact HI243.out)) (by (with_reducible repeat (first | apply Kd.R_alloc | apply Kd.R_drewN | apply Kd.R_drew)); exact HO261.out) (by decide)) hk (fun _ h => h.2)) (fun _ h => h.1)); have n3_ := Aside0.mk (hb); have n4_ := Aside0.mk (hi); clear BK251; clear HO256; clear HO261; clear HB; clear HI243; have BK251 := n0_; have HO256 := n1_; have HO261 := n2_; have HB := n3_; have HI243 := n4_; clear n0_ n1_ n2_ n3_ n4_; (try clear hb); (try clear hb2); (try clear hk); (try clear hi); have hcz62_0 : w61.cell? ⟨gb251, 0, none⟩ = some (.int .i64 ((rd_T52 l1 x52_3).f0)) := (blk_cell BK251.out 0).trans rfl; have hcz62_1 : w61.cell? ⟨gb251, 1, none⟩ = some (.int .i64 ((rd_T52 l1 x52_3).f1)) := (blk_cell BK251.out 1).trans rfl; have hcz62_2 : w61.cell? ⟨gb251, 2, none⟩ = some (.int .i64 ((rd_T52 l1 x52_3).f2)) := (blk_cell BK251.out 2).trans rfl; have hcz62_3 : w61.cell? ⟨gb251, 3, none⟩ = some (.int .u32 ((rd_T52 l1 x52_3).f3)) := (blk_cell BK251.out 3).trans rfl; have hcz62_4 : w61.cell? ⟨gb251, 4, none⟩ = some (.slice A250_4 ((rd_T52 l1 x52_3).f4).length c250_4) := (blk_cell BK251.out 4).trans rfl; have hfz62_0 := blk_frozen BK251.out 0; have hfz62_1 := blk_frozen BK251.out 1; have hfz62_2 := blk_frozen BK251.out 2; have hfz62_3 := blk_frozen BK251.out 3; have hfz62_4 := blk_frozen BK251.out 4) | ((with_reducible refine gate_callee (f := 25) rfl ?_); refine goesL_ (some 90) rfl rfl Try.func25 (by kernel_rfl) rfl #[.pointer (some ⟨g243, 0, none⟩), .int .i64 ((rd_T52 l1 x52_3).f1)] rfl (by (try simp only [List.map_toArray, List.map_cons, List.map_nil]); first | done | rfl | (simp only [List.length_drop, List.length_take]; rfl)) ?_; (with_reducible refine (net_Net_At.calls g243 t264 ((rd_T52 l1 x52_3).f1) t265 t268 t269 w _ ?side1 ?side2 A40.out).mono ?_); (case side1 => repeat (first | (with_reducible first | exact HI243.out | apply IsS70.alloc | apply IsS70.drewN | apply IsS70.drew | exact IsS70.far5 HI243.out ⟨_, BK251.out⟩ NB243_251.out) | exact HI243.out)); (case side2 => repeat (first | (with_reducible first | exact HB.out | apply below_alloc | apply pw_below_drewN | apply below_drew1 | refine below_set ?_ (IsS70.ge HI243.out) | refine below_set ?_ GE251.out) | exact HB.out)); rintro e w63 ⟨v266, rfl, ho0, hi, hb, hk⟩; refine ⟨_, rfl, ?_⟩; have n0_ := Aside0.mk (KeepBut.blk hk (g' := gb251) (o := .cells #[.int .i64 ((rd_T52 l1 x52_3).f0), .int .i64 ((rd_T52 l1 x52_3).f1), .int .i64 ((rd_T52 l1 x52_3).f2), .int .u32 ((rd_T52 l1 x52_3).f3), .slice A250_4 ((rd_T52 l1 x52_3).f4).length c250_4] 52 (0, 0)) (by (with_reducible repeat (first | refine blk_drewN ?_ _ | refine blk_drew ?_ | refine blk_alloc ?_ _)); exact BK251.out) NB251_243.out (by simp)); have n1_ := Aside0.mk (Kd.R_mono (Kd.R_told (Kd.R_oldK (IsS70.apart (show IsS70 w _ g243 t264 from by repeat (first | (with_reducible first | exact HI243.out | apply IsS70.alloc | apply IsS70.drewN | apply IsS70.drew | exact IsS70.far5 HI243.out ⟨_, BK251.out⟩ NB243_251.out) | exact HI243.out)) (by (with_reducible repeat (first | apply Kd.R_alloc | apply Kd.R_drewN | apply Kd.R_drew)); exact HO256.out) (by decide)) hk) (Kd.R_base ho0)) (fun _ h_ => h_.1)); have n2_ := Aside0.mk (Kd.R_mono (Kd.R_told (Kd.R_oldK (IsS70.apart (show IsS70 w _ g243 t264 from by repeat (first | (with_reducible first | exact HI243.out | apply IsS70.alloc | apply IsS70.drewN | apply IsS70.drew | exact IsS70.far5 HI243.out ⟨_, BK251.out⟩ NB243_251.out) | exact HI243.out)) (by (with_reducible repeat (first | apply Kd.R_alloc | apply Kd.R_drewN | apply Kd.R_drew)); exact HO261.out) (by decide)) hk) (Kd.R_base ho0)) (fun _ h_ => h_.1)); have n3_ := Aside0.mk (Kd.R_lower (Kd.R_new' (Kd.R_new' ho0 (Kd.R_lt (by (with_reducible repeat (first | apply Kd.R_alloc | apply Kd.R_drewN | apply Kd.R_drew)); exact HO256.out))) (Kd.R_lt (by (with_reducible repeat (first | apply Kd.R_alloc | apply Kd.R_drewN | apply Kd.R_drew)); exact HO261.out))) (below_size (by repeat (first | (with_reducible first | exact HB.out | apply below_alloc | apply pw_below_drewN | apply below_drew1 | refine below_set ?_ (IsS70.ge HI243.out) | refine below_set ?_ GE251.out) | exact HB.out)))); have n4_ := Aside0.mk (hb); have n5_ := Aside0.mk (hi); clear BK251; clear HO256; clear HO261; clear HB; clear HI243; have BK251 := n0_; have HO256 := n1_; have HO261 := n2_; have HO267 := n3_; have HB := n4_; have HI243 := n5_; clear n0_ n1_ n2_ n3_ n4_ n5_; (try clear hb); (try clear hb2); (try clear hk); (try clear hi); (try clear ho0); obtain ⟨Ao64, co64, eo64⟩ := Kd.R_slice HO267.out; subst eo64) | ((with_reducible refine gate_callee (f := 15) rfl ?_); refine goesL_ (some 95) rfl rfl Try.func15 (by kernel_rfl) rfl #[.slice Ao64 t265.length co64] rfl (by (try simp only [List.map_toArray, List.map_cons, List.map_nil]); first | done | rfl | (simp only [List.length_drop, List.length_take]; rfl)) ?_; (with_reducible refine (crc_Open.calls kj22 (fun k_ => some k_ = (.slice Ao64 t265.length co64 : Value).ownBlock) _ _ t265 t270 t273 _ ?side1 A41.out).mono ?_); (case side1 => exact Kd.R_V (Kd.R_tight rfl (IsS70.apart HI243.out (Kd.R_types (HO267.out) BK251.out (by decide)) (by decide)))); rintro e w65 ⟨v271, rfl, ho0, hb⟩; refine ⟨_, rfl, ?_⟩; have n0_ := Aside0.mk (Kd.R_elder' (by (with_reducible repeat (first | apply Kd.R_alloc | apply Kd.R_drewN | apply Kd.R_drew)); exact HO256.out) (Kd.R_base ho0) hb); have n1_ := Aside0.mk (Kd.R_elder' (by (with_reducible repeat (first | apply Kd.R_alloc | apply Kd.R_drewN | apply Kd.R_drew)); exact HO261.out) (Kd.R_base ho0) hb); have n2_ := Aside0.mk (Kd.R_elder' (by (with_reducible repeat (first | apply Kd.R_alloc | apply Kd.R_drewN | apply Kd.R_drew)); exact HO267.out) (Kd.R_base ho0) hb); have n3_ := Aside0.mk (Kd.R_lower (Kd.R_new' (Kd.R_new' (Kd.R_new' (Kd.R_mono (ok' := fun k_ => True) ho0 (fun _ hk_ => trivial)) (Kd.R_lt (by (with_reducible repeat (first | apply Kd.R_alloc | apply Kd.R_drewN | apply Kd.R_drew)); exact HO256.out))) (Kd.R_lt (by (with_reducible repeat (first | apply Kd.R_alloc | apply Kd.R_drewN | apply Kd.R_drew)); exact HO261.out))) (Kd.R_lt (by (with_reducible repeat (first | apply Kd.R_alloc | apply Kd.R_drewN | apply Kd.R_drew)); exact HO267.out))) (below_size (by repeat (first | (with_reducible first | exact HB.out | apply below_alloc | apply pw_below_drewN | apply below_drew1 | refine below_set ?_ (IsS70.ge HI243.out) | refine below_set ?_ GE251.out) | exact HB.out)))); have n4_ := Aside0.mk (blk_below (g := gb251) (o := .cells #[.int .i64 ((rd_T52 l1 x52_3).f0), .int .i64 ((rd_T52 l1 x52_3).f1), .int .i64 ((rd_T52 l1 x52_3).f2), .int .u32 ((rd_T52 l1 x52_3).f3), .slice A250_4 ((rd_T52 l1 x52_3).f4).length c250_4] 52 (0, 0)) (by (with_reducible repeat (first | refine blk_drewN ?_ _ | refine blk_drew ?_ | refine blk_alloc ?_ _)); exact BK251.out) hb); have n5_ := Aside0.mk (IsS70.below (by repeat (first | (with_reducible first | exact HI243.out | apply IsS70.alloc | apply IsS70.drewN | apply IsS70.drew | exact IsS70.far5 HI243.out ⟨_, BK251.out⟩ NB243_251.out) | exact HI243.out)) hb); have n6_ := Aside0.mk (below_step (by repeat (first | (with_reducible first | exact HB.out | apply below_alloc | apply pw_below_drewN | apply below_drew1 | refine below_set ?_ (IsS70.ge HI243.out) | refine below_set ?_ GE251.out) | exact HB.out)) hb); clear HO256; clear HO261; clear HO267; clear BK251; clear HI243; clear HB; have HO256 := n0_; have HO261 := n1_; have HO267 := n2_; have HO272 := n3_; have BK251 := n4_; have HI243 := n5_; have HB := n6_; clear n0_ n1_ n2_ n3_ n4_ n5_ n6_; (try clear hb); (try clear hb2); (try clear hk); (try clear hi); (try clear ho0)))
                                        go_meet
                                        case rel => exact ⟨_, (t269), H', ⟨by have := HJ4.out; have := HK2.out; have := HK3.out; have := HJ22.out; first | omega | exact Nat.le_refl _⟩, ⟨by (with_reducible repeat (first | refine blk_drewN ?_ _ | refine blk_drew ?_ | refine blk_alloc ?_ _)); exact BK251.out⟩, ⟨by repeat (first | (with_reducible first | exact HI243.out | apply IsS70.alloc | apply IsS70.drewN | apply IsS70.drew | exact IsS70.far5 HI243.out ⟨_, BK251.out⟩ NB243_251.out) | exact HI243.out)⟩, ⟨by repeat (first | (with_reducible first | exact HB.out | apply below_alloc | apply pw_below_drewN | apply below_drew1 | refine below_set ?_ (IsS70.ge HI243.out) | refine below_set ?_ GE251.out) | exact HB.out)⟩⟩
                                    · rw [if_neg c42] at H
                                      have c42b0 : (t262 == 0) = false := beq_eq_false_iff_ne.mpr c42
                                      have c42b1 : (t262 != 0) = true := bne_iff_ne.mpr c42
                                      obtain rfl := Option.some.inj H
                                      have hnb66 := NB251_243.out
                                      have hnc66 := NB243_251.out
                                      have hcz67_0 : wc.cell? ⟨gb251, 0, none⟩ = some (.int .i64 ((rd_T52 l1 x52_3).f0)) := (blk_cell BK251.out 0).trans rfl
                                      have hcz67_1 : wc.cell? ⟨gb251, 1, none⟩ = some (.int .i64 ((rd_T52 l1 x52_3).f1)) := (blk_cell BK251.out 1).trans rfl
                                      have hcz67_2 : wc.cell? ⟨gb251, 2, none⟩ = some (.int .i64 ((rd_T52 l1 x52_3).f2)) := (blk_cell BK251.out 2).trans rfl
                                      have hcz67_3 : wc.cell? ⟨gb251, 3, none⟩ = some (.int .u32 ((rd_T52 l1 x52_3).f3)) := (blk_cell BK251.out 3).trans rfl
                                      have hcz67_4 : wc.cell? ⟨gb251, 4, none⟩ = some (.slice A250_4 ((rd_T52 l1 x52_3).f4).length c250_4) := (blk_cell BK251.out 4).trans rfl
                                      have hfz67_0 := blk_frozen BK251.out 0
                                      have hfz67_1 := blk_frozen BK251.out 1
                                      have hfz67_2 := blk_frozen BK251.out 2
                                      have hfz67_3 := blk_frozen BK251.out 3
                                      have hfz67_4 := blk_frozen BK251.out 4
                                      go_wp2_with (first | ((with_reducible refine gate_callee (f := 25) rfl ?_); refine goesL_ (some 70) rfl rfl Try.func25 (by kernel_rfl) rfl #[.pointer (some ⟨g243, 0, none⟩), .int .i64 ((rd_T52 l1 x52_3).f1)] rfl (by (try simp only [List.map_toArray, List.map_cons, List.map_nil]); first | done | rfl | (simp only [List.length_drop, List.length_take]; rfl)) ?_; (with_reducible refine (net_Net_At.calls g243 x244000_22 ((rd_T52 l1 x52_3).f1) t254 t257 t258 w _ ?side1 ?side2 A36.out).mono ?_); (case side1 => repeat (first | (with_reducible first | exact HI243.out | apply IsS70.alloc | apply IsS70.drewN | apply IsS70.drew | exact IsS70.far5 HI243.out ⟨_, BK251.out⟩ NB243_251.out) | exact HI243.out)); (case side2 => repeat (first | (with_reducible first | exact HB.out | apply below_alloc | apply pw_below_drewN | apply below_drew1 | refine below_set ?_ (IsS70.ge HI243.out) | refine below_set ?_ GE251.out) | exact HB.out)); rintro e w68 ⟨v255, rfl, ho0, hi, hb, hk⟩; refine ⟨_, rfl, ?_⟩; have n0_ := Aside0.mk (KeepBut.blk hk (g' := gb251) (o := .cells #[.int .i64 ((rd_T52 l1 x52_3).f0), .int .i64 ((rd_T52 l1 x52_3).f1), .int .i64 ((rd_T52 l1 x52_3).f2), .int .u32 ((rd_T52 l1 x52_3).f3), .slice A250_4 ((rd_T52 l1 x52_3).f4).length c250_4] 52 (0, 0)) (by (with_reducible repeat (first | refine blk_drewN ?_ _ | refine blk_drew ?_ | refine blk_alloc ?_ _)); exact BK251.out) NB251_243.out (by simp)); have n1_ := Aside0.mk (Kd.R_lower ho0 (below_size (by repeat (first | (with_reducible first | exact HB.out | apply below_alloc | apply pw_below_drewN | apply below_drew1 | refine below_set ?_ (IsS70.ge HI243.out) | refine below_set ?_ GE251.out) | exact HB.out)))); have n2_ := Aside0.mk (hb); have n3_ := Aside0.mk (hi); clear BK251; clear HB; clear HI243; have BK251 := n0_; have HO256 := n1_; have HB := n2_; have HI243 := n3_; clear n0_ n1_ n2_ n3_; (try clear hb); (try clear hb2); (try clear hk); (try clear hi); (try clear ho0); obtain ⟨Ao69, co69, eo69⟩ := Kd.R_slice HO256.out; subst eo69) | ((with_reducible refine gate_callee (f := 15) rfl ?_); refine goesL_ (some 75) rfl rfl Try.func15 (by kernel_rfl) rfl #[.slice Ao69 t254.length co69] rfl (by (try simp only [List.map_toArray, List.map_cons, List.map_nil]); first | done | rfl | (simp only [List.length_drop, List.length_take]; rfl)) ?_; (with_reducible refine (crc_Open.calls kj22 (fun k_ => some k_ = (.slice Ao69 t254.length co69 : Value).ownBlock) _ _ t254 t259 t262 _ ?side1 A37.out).mono ?_); (case side1 => exact Kd.R_V (Kd.R_tight rfl (IsS70.apart HI243.out (Kd.R_types (HO256.out) BK251.out (by decide)) (by decide)))); rintro e w70 ⟨v260, rfl, ho0, hb⟩; refine ⟨_, rfl, ?_⟩; have n0_ := Aside0.mk (Kd.R_elder' (by (with_reducible repeat (first | apply Kd.R_alloc | apply Kd.R_drewN | apply Kd.R_drew)); exact HO256.out) (Kd.R_base ho0) hb); have n1_ := Aside0.mk (Kd.R_lower (Kd.R_new' (Kd.R_mono (ok' := fun k_ => True) ho0 (fun _ hk_ => trivial)) (Kd.R_lt (by (with_reducible repeat (first | apply Kd.R_alloc | apply Kd.R_drewN | apply Kd.R_drew)); exact HO256.out))) (below_size (by repeat (first | (with_reducible first | exact HB.out | apply below_alloc | apply pw_below_drewN | apply below_drew1 | refine below_set ?_ (IsS70.ge HI243.out) | refine below_set ?_ GE251.out) | exact HB.out)))); have n2_ := Aside0.mk (blk_below (g := gb251) (o := .cells #[.int .i64 ((rd_T52 l1 x52_3).f0), .int .i64 ((rd_T52 l1 x52_3).f1), .int .i64 ((rd_T52 l1 x52_3).f2), .int .u32 ((rd_T52 l1 x52_3).f3), .slice A250_4 ((rd_T52 l1 x52_3).f4).length c250_4] 52 (0, 0)) (by (with_reducible repeat (first | refine blk_drewN ?_ _ | refine blk_drew ?_ | refine blk_alloc ?_ _)); exact BK251.out) hb); have n3_ := Aside0.mk (IsS70.below (by repeat (first | (with_reducible first | exact HI243.out | apply IsS70.alloc | apply IsS70.drewN | apply IsS70.drew | exact IsS70.far5 HI243.out ⟨_, BK251.out⟩ NB243_251.out) | exact HI243.out)) hb); have n4_ := Aside0.mk (below_step (by repeat (first | (with_reducible first | exact HB.out | apply below_alloc | apply pw_below_drewN | apply below_drew1 | refine below_set ?_ (IsS70.ge HI243.out) | refine below_set ?_ GE251.out) | exact HB.out)) hb); clear HO256; clear BK251; clear HI243; clear HB; have HO256 := n0_; have HO261 := n1_; have BK251 := n2_; have HI243 := n3_; have HB := n4_; clear n0_ n1_ n2_ n3_ n4_; (try clear hb); (try clear hb2); (try clear hk); (try clear hi); (try clear ho0); have hcz71_0 : w70.cell? ⟨gb251, 0, none⟩ = some (.int .i64 ((rd_T52 l1 x52_3).f0)) := (blk_cell BK251.out 0).trans rfl; have hcz71_1 : w70.cell? ⟨gb251, 1, none⟩ = some (.int .i64 ((rd_T52 l1 x52_3).f1)) := (blk_cell BK251.out 1).trans rfl; have hcz71_2 : w70.cell? ⟨gb251, 2, none⟩ = some (.int .i64 ((rd_T52 l1 x52_3).f2)) := (blk_cell BK251.out 2).trans rfl; have hcz71_3 : w70.cell? ⟨gb251, 3, none⟩ = some (.int .u32 ((rd_T52 l1 x52_3).f3)) := (blk_cell BK251.out 3).trans rfl; have hcz71_4 : w70.cell? ⟨gb251, 4, none⟩ = some (.slice A250_4 ((rd_T52 l1 x52_3).f4).length c250_4) := (blk_cell BK251.out 4).trans rfl; have hfz71_0 := blk_frozen BK251.out 0; have hfz71_1 := blk_frozen BK251.out 1; have hfz71_2 := blk_frozen BK251.out 2; have hfz71_3 := blk_frozen BK251.out 3; have hfz71_4 := blk_frozen BK251.out 4) | ((with_reducible refine gate_callee (f := 29) rfl ?_); refine goesL_ (some 85) rfl rfl Try.func29 (by kernel_rfl) rfl #[.pointer (some ⟨g243, 0, none⟩), .int .i64 ((rd_T52 l1 x52_3).f1), .int .i64 ((rd_T52 l1 x52_3).f2), .int .u32 ((rd_T52 l1 x52_3).f3)] rfl (by (try simp only [List.map_toArray, List.map_cons, List.map_nil]); first | done | rfl | (simp only [List.length_drop, List.length_take]; rfl)) ?_; (with_reducible refine (net_Net_Spoil.calls g243 t258 ((rd_T52 l1 x52_3).f1) ((rd_T52 l1 x52_3).f2) ((rd_T52 l1 x52_3).f3) true t264 w _ ?side1 ?side2 A38.out).mono ?_); (case side1 => repeat (first | (with_reducible first | exact HI243.out | apply IsS70.alloc | apply IsS70.drewN | apply IsS70.drew | exact IsS70.far5 HI243.out ⟨_, BK251.out⟩ NB243_251.out) | exact HI243.out)); (case side2 => repeat (first | (with_reducible first | exact HB.out | apply below_alloc | apply pw_below_drewN | apply below_drew1 | refine below_set ?_ (IsS70.ge HI243.out) | refine below_set ?_ GE251.out) | exact HB.out)); rintro e w72 ⟨rfl, hi, hb, hk⟩; refine ⟨_, rfl, ?_⟩; have n0_ := Aside0.mk (KeepT.blk hk (g' := gb251) (o := .cells #[.int .i64 ((rd_T52 l1 x52_3).f0), .int .i64 ((rd_T52 l1 x52_3).f1), .int .i64 ((rd_T52 l1 x52_3).f2), .int .u32 ((rd_T52 l1 x52_3).f3), .slice A250_4 ((rd_T52 l1 x52_3).f4).length c250_4] 52 (0, 0)) (by (with_reducible repeat (first | refine blk_drewN ?_ _ | refine blk_drew ?_ | refine blk_alloc ?_ _)); exact BK251.out) NB251_243.out (by simp)); have n1_ := Aside0.mk (Kd.R_mono (R_keepT (IsS70.apart (show IsS70 w _ g243 t258 from by repeat (first | (with_reducible first | exact HI243.out | apply IsS70.alloc | apply IsS70.drewN | apply IsS70.drew | exact IsS70.far5 HI243.out ⟨_, BK251.out⟩ NB243_251.out) | exact HI243.out)) (by (with_reducible repeat (first | apply Kd.R_alloc | apply Kd.R_drewN | apply Kd.R_drew)); exact HO256.out) (by decide)) hk (fun _ h => h.2)) (fun _ h => h.1)); have n2_ := Aside0.mk (Kd.R_mono (R_keepT (IsS70.apart (show IsS70 w _ g243 t258 from by repeat (first | (with_reducible first | exact HI243.out | apply IsS70.alloc | apply IsS70.drewN | apply IsS70.drew | exact IsS70.far5 HI243.out ⟨_, BK251.out⟩ NB243_251.out) | exact HI243.out)) (by (with_reducible repeat (first | apply Kd.R_alloc | apply Kd.R_drewN | apply Kd.R_drew)); exact HO261.out) (by decide)) hk (fun _ h => h.2)) (fun _ h => h.1)); have n3_ := Aside0.mk (hb); have n4_ := Aside0.mk (hi); clear BK251; clear HO256; clear HO261; clear HB; clear HI243; have BK251 := n0_; have HO256 := n1_; have HO261 := n2_; have HB := n3_; have HI243 := n4_; clear n0_ n1_ n2_ n3_ n4_; (try clear hb); (try clear hb2); (try clear hk); (try clear hi); have hcz73_0 : w72.cell? ⟨gb251, 0, none⟩ = some (.int .i64 ((rd_T52 l1 x52_3).f0)) := (blk_cell BK251.out 0).trans rfl; have hcz73_1 : w72.cell? ⟨gb251, 1, none⟩ = some (.int .i64 ((rd_T52 l1 x52_3).f1)) := (blk_cell BK251.out 1).trans rfl; have hcz73_2 : w72.cell? ⟨gb251, 2, none⟩ = some (.int .i64 ((rd_T52 l1 x52_3).f2)) := (blk_cell BK251.out 2).trans rfl; have hcz73_3 : w72.cell? ⟨gb251, 3, none⟩ = some (.int .u32 ((rd_T52 l1 x52_3).f3)) := (blk_cell BK251.out 3).trans rfl; have hcz73_4 : w72.cell? ⟨gb251, 4, none⟩ = some (.slice A250_4 ((rd_T52 l1 x52_3).f4).length c250_4) := (blk_cell BK251.out 4).trans rfl; have hfz73_0 := blk_frozen BK251.out 0; have hfz73_1 := blk_frozen BK251.out 1; have hfz73_2 := blk_frozen BK251.out 2; have hfz73_3 := blk_frozen BK251.out 3; have hfz73_4 := blk_frozen BK251.out 4) | ((with_reducible refine gate_callee (f := 25) rfl ?_); refine goesL_ (some 90) rfl rfl Try.func25 (by kernel_rfl) rfl #[.pointer (some ⟨g243, 0, none⟩), .int .i64 ((rd_T52 l1 x52_3).f1)] rfl (by (try simp only [List.map_toArray, List.map_cons, List.map_nil]); first | done | rfl | (simp only [List.length_drop, List.length_take]; rfl)) ?_; (with_reducible refine (net_Net_At.calls g243 t264 ((rd_T52 l1 x52_3).f1) t265 t268 t269 w _ ?side1 ?side2 A40.out).mono ?_); (case side1 => repeat (first | (with_reducible first | exact HI243.out | apply IsS70.alloc | apply IsS70.drewN | apply IsS70.drew | exact IsS70.far5 HI243.out ⟨_, BK251.out⟩ NB243_251.out) | exact HI243.out)); (case side2 => repeat (first | (with_reducible first | exact HB.out | apply below_alloc | apply pw_below_drewN | apply below_drew1 | refine below_set ?_ (IsS70.ge HI243.out) | refine below_set ?_ GE251.out) | exact HB.out)); rintro e w74 ⟨v266, rfl, ho0, hi, hb, hk⟩; refine ⟨_, rfl, ?_⟩; have n0_ := Aside0.mk (KeepBut.blk hk (g' := gb251) (o := .cells #[.int .i64 ((rd_T52 l1 x52_3).f0), .int .i64 ((rd_T52 l1 x52_3).f1), .int .i64 ((rd_T52 l1 x52_3).f2), .int .u32 ((rd_T52 l1 x52_3).f3), .slice A250_4 ((rd_T52 l1 x52_3).f4).length c250_4] 52 (0, 0)) (by (with_reducible repeat (first | refine blk_drewN ?_ _ | refine blk_drew ?_ | refine blk_alloc ?_ _)); exact BK251.out) NB251_243.out (by simp)); have n1_ := Aside0.mk (Kd.R_mono (Kd.R_told (Kd.R_oldK (IsS70.apart (show IsS70 w _ g243 t264 from by repeat (first | (with_reducible first | exact HI243.out | apply IsS70.alloc | apply IsS70.drewN | apply IsS70.drew | exact IsS70.far5 HI243.out ⟨_, BK251.out⟩ NB243_251.out) | exact HI243.out)) (by (with_reducible repeat (first | apply Kd.R_alloc | apply Kd.R_drewN | apply Kd.R_drew)); exact HO256.out) (by decide)) hk) (Kd.R_base ho0)) (fun _ h_ => h_.1)); have n2_ := Aside0.mk (Kd.R_mono (Kd.R_told (Kd.R_oldK (IsS70.apart (show IsS70 w _ g243 t264 from by repeat (first | (with_reducible first | exact HI243.out | apply IsS70.alloc | apply IsS70.drewN | apply IsS70.drew | exact IsS70.far5 HI243.out ⟨_, BK251.out⟩ NB243_251.out) | exact HI243.out)) (by (with_reducible repeat (first | apply Kd.R_alloc | apply Kd.R_drewN | apply Kd.R_drew)); exact HO261.out) (by decide)) hk) (Kd.R_base ho0)) (fun _ h_ => h_.1)); have n3_ := Aside0.mk (Kd.R_lower (Kd.R_new' (Kd.R_new' ho0 (Kd.R_lt (by (with_reducible repeat (first | apply Kd.R_alloc | apply Kd.R_drewN | apply Kd.R_drew)); exact HO256.out))) (Kd.R_lt (by (with_reducible repeat (first | apply Kd.R_alloc | apply Kd.R_drewN | apply Kd.R_drew)); exact HO261.out))) (below_size (by repeat (first | (with_reducible first | exact HB.out | apply below_alloc | apply pw_below_drewN | apply below_drew1 | refine below_set ?_ (IsS70.ge HI243.out) | refine below_set ?_ GE251.out) | exact HB.out)))); have n4_ := Aside0.mk (hb); have n5_ := Aside0.mk (hi); clear BK251; clear HO256; clear HO261; clear HB; clear HI243; have BK251 := n0_; have HO256 := n1_; have HO261 := n2_; have HO267 := n3_; have HB := n4_; have HI243 := n5_; clear n0_ n1_ n2_ n3_ n4_ n5_; (try clear hb); (try clear hb2); (try clear hk); (try clear hi); (try clear ho0); obtain ⟨Ao75, co75, eo75⟩ := Kd.R_slice HO267.out; subst eo75) | ((with_reducible refine gate_callee (f := 15) rfl ?_); refine goesL_ (some 95) rfl rfl Try.func15 (by kernel_rfl) rfl #[.slice Ao75 t265.length co75] rfl (by (try simp only [List.map_toArray, List.map_cons, List.map_nil]); first | done | rfl | (simp only [List.length_drop, List.length_take]; rfl)) ?_; (with_reducible refine (crc_Open.calls kj22 (fun k_ => some k_ = (.slice Ao75 t265.length co75 : Value).ownBlock) _ _ t265 t270 t273 _ ?side1 A41.out).mono ?_); (case side1 => exact Kd.R_V (Kd.R_tight rfl (IsS70.apart HI243.out (Kd.R_types (HO267.out) BK251.out (by decide)) (by decide)))); rintro e w76 ⟨v271, rfl, ho0, hb⟩; refine ⟨_, rfl, ?_⟩; have n0_ := Aside0.mk (Kd.R_elder' (by (with_reducible repeat (first | apply Kd.R_alloc | apply Kd.R_drewN | apply Kd.R_drew)); exact HO256.out) (Kd.R_base ho0) hb); have n1_ := Aside0.mk (Kd.R_elder' (by (with_reducible repeat (first | apply Kd.R_alloc | apply Kd.R_drewN | apply Kd.R_drew)); exact HO261.out) (Kd.R_base ho0) hb); have n2_ := Aside0.mk (Kd.R_elder' (by (with_reducible repeat (first | apply Kd.R_alloc | apply Kd.R_drewN | apply Kd.R_drew)); exact HO267.out) (Kd.R_base ho0) hb); have n3_ := Aside0.mk (Kd.R_lower (Kd.R_new' (Kd.R_new' (Kd.R_new' (Kd.R_mono (ok' := fun k_ => True) ho0 (fun _ hk_ => trivial)) (Kd.R_lt (by (with_reducible repeat (first | apply Kd.R_alloc | apply Kd.R_drewN | apply Kd.R_drew)); exact HO256.out))) (Kd.R_lt (by (with_reducible repeat (first | apply Kd.R_alloc | apply Kd.R_drewN | apply Kd.R_drew)); exact HO261.out))) (Kd.R_lt (by (with_reducible repeat (first | apply Kd.R_alloc | apply Kd.R_drewN | apply Kd.R_drew)); exact HO267.out))) (below_size (by repeat (first | (with_reducible first | exact HB.out | apply below_alloc | apply pw_below_drewN | apply below_drew1 | refine below_set ?_ (IsS70.ge HI243.out) | refine below_set ?_ GE251.out) | exact HB.out)))); have n4_ := Aside0.mk (blk_below (g := gb251) (o := .cells #[.int .i64 ((rd_T52 l1 x52_3).f0), .int .i64 ((rd_T52 l1 x52_3).f1), .int .i64 ((rd_T52 l1 x52_3).f2), .int .u32 ((rd_T52 l1 x52_3).f3), .slice A250_4 ((rd_T52 l1 x52_3).f4).length c250_4] 52 (0, 0)) (by (with_reducible repeat (first | refine blk_drewN ?_ _ | refine blk_drew ?_ | refine blk_alloc ?_ _)); exact BK251.out) hb); have n5_ := Aside0.mk (IsS70.below (by repeat (first | (with_reducible first | exact HI243.out | apply IsS70.alloc | apply IsS70.drewN | apply IsS70.drew | exact IsS70.far5 HI243.out ⟨_, BK251.out⟩ NB243_251.out) | exact HI243.out)) hb); have n6_ := Aside0.mk (below_step (by repeat (first | (with_reducible first | exact HB.out | apply below_alloc | apply pw_below_drewN | apply below_drew1 | refine below_set ?_ (IsS70.ge HI243.out) | refine below_set ?_ GE251.out) | exact HB.out)) hb); clear HO256; clear HO261; clear HO267; clear BK251; clear HI243; clear HB; have HO256 := n0_; have HO261 := n1_; have HO267 := n2_; have HO272 := n3_; have BK251 := n4_; have HI243 := n5_; have HB := n6_; clear n0_ n1_ n2_ n3_ n4_ n5_ n6_; (try clear hb); (try clear hb2); (try clear hk); (try clear hi); (try clear ho0)))
                                      go_ret
                                      exact ⟨by first | rfl | (simp [errW_none, errW_some] <;> rfl) | (simp [*, errW_none, errW_some] <;> rfl), by repeat (first | (with_reducible first | exact HB.out | apply below_alloc | apply pw_below_drewN | apply below_drew1 | refine below_set ?_ (IsS70.ge HI243.out) | refine below_set ?_ GE251.out) | exact HB.out)⟩
                                  · replace c39 := Bool.eq_false_iff.mpr c39
                                    subst c39
                                    have H1 : (ropewaylaw19_NetSpoils.j4 kj22 l0 l1 (l1.length : Int) x52_3 t264 ((rd_T52 l1 x52_3).f0) ((rd_T52 l1 x52_3).f1) ((rd_T52 l1 x52_3).f2) ((rd_T52 l1 x52_3).f3) ((rd_T52 l1 x52_3).f4)) = some r := by rw [if_neg (show ¬ (false = true) by decide)] at H; exact H
                                    clear H
                                    have H := H1
                                    clear H1
                                    have H' := Aside0.mk H
                                    clear H
                                    have hnb77 := NB251_243.out
                                    have hnc77 := NB243_251.out
                                    have hcz78_0 : wc.cell? ⟨gb251, 0, none⟩ = some (.int .i64 ((rd_T52 l1 x52_3).f0)) := (blk_cell BK251.out 0).trans rfl
                                    have hcz78_1 : wc.cell? ⟨gb251, 1, none⟩ = some (.int .i64 ((rd_T52 l1 x52_3).f1)) := (blk_cell BK251.out 1).trans rfl
                                    have hcz78_2 : wc.cell? ⟨gb251, 2, none⟩ = some (.int .i64 ((rd_T52 l1 x52_3).f2)) := (blk_cell BK251.out 2).trans rfl
                                    have hcz78_3 : wc.cell? ⟨gb251, 3, none⟩ = some (.int .u32 ((rd_T52 l1 x52_3).f3)) := (blk_cell BK251.out 3).trans rfl
                                    have hcz78_4 : wc.cell? ⟨gb251, 4, none⟩ = some (.slice A250_4 ((rd_T52 l1 x52_3).f4).length c250_4) := (blk_cell BK251.out 4).trans rfl
                                    have hfz78_0 := blk_frozen BK251.out 0
                                    have hfz78_1 := blk_frozen BK251.out 1
                                    have hfz78_2 := blk_frozen BK251.out 2
                                    have hfz78_3 := blk_frozen BK251.out 3
                                    have hfz78_4 := blk_frozen BK251.out 4
                                    go_wp2_with (first | ((with_reducible refine gate_callee (f := 25) rfl ?_); refine goesL_ (some 70) rfl rfl Try.func25 (by kernel_rfl) rfl #[.pointer (some ⟨g243, 0, none⟩), .int .i64 ((rd_T52 l1 x52_3).f1)] rfl (by (try simp only [List.map_toArray, List.map_cons, List.map_nil]); first | done | rfl | (simp only [List.length_drop, List.length_take]; rfl)) ?_; (with_reducible refine (net_Net_At.calls g243 x244000_22 ((rd_T52 l1 x52_3).f1) t254 t257 t258 w _ ?side1 ?side2 A36.out).mono ?_); (case side1 => repeat (first | (with_reducible first | exact HI243.out | apply IsS70.alloc | apply IsS70.drewN | apply IsS70.drew | exact IsS70.far5 HI243.out ⟨_, BK251.out⟩ NB243_251.out) | exact HI243.out)); (case side2 => repeat (first | (with_reducible first | exact HB.out | apply below_alloc | apply pw_below_drewN | apply below_drew1 | refine below_set ?_ (IsS70.ge HI243.out) | refine below_set ?_ GE251.out) | exact HB.out)); rintro e w79 ⟨v255, rfl, ho0, hi, hb, hk⟩; refine ⟨_, rfl, ?_⟩; have n0_ := Aside0.mk (KeepBut.blk hk (g' := gb251) (o := .cells #[.int .i64 ((rd_T52 l1 x52_3).f0), .int .i64 ((rd_T52 l1 x52_3).f1), .int .i64 ((rd_T52 l1 x52_3).f2), .int .u32 ((rd_T52 l1 x52_3).f3), .slice A250_4 ((rd_T52 l1 x52_3).f4).length c250_4] 52 (0, 0)) (by (with_reducible repeat (first | refine blk_drewN ?_ _ | refine blk_drew ?_ | refine blk_alloc ?_ _)); exact BK251.out) NB251_243.out (by simp)); have n1_ := Aside0.mk (Kd.R_lower ho0 (below_size (by repeat (first | (with_reducible first | exact HB.out | apply below_alloc | apply pw_below_drewN | apply below_drew1 | refine below_set ?_ (IsS70.ge HI243.out) | refine below_set ?_ GE251.out) | exact HB.out)))); have n2_ := Aside0.mk (hb); have n3_ := Aside0.mk (hi); clear BK251; clear HB; clear HI243; have BK251 := n0_; have HO256 := n1_; have HB := n2_; have HI243 := n3_; clear n0_ n1_ n2_ n3_; (try clear hb); (try clear hb2); (try clear hk); (try clear hi); (try clear ho0); obtain ⟨Ao80, co80, eo80⟩ := Kd.R_slice HO256.out; subst eo80) | ((with_reducible refine gate_callee (f := 15) rfl ?_); refine goesL_ (some 75) rfl rfl Try.func15 (by kernel_rfl) rfl #[.slice Ao80 t254.length co80] rfl (by (try simp only [List.map_toArray, List.map_cons, List.map_nil]); first | done | rfl | (simp only [List.length_drop, List.length_take]; rfl)) ?_; (with_reducible refine (crc_Open.calls kj22 (fun k_ => some k_ = (.slice Ao80 t254.length co80 : Value).ownBlock) _ _ t254 t259 t262 _ ?side1 A37.out).mono ?_); (case side1 => exact Kd.R_V (Kd.R_tight rfl (IsS70.apart HI243.out (Kd.R_types (HO256.out) BK251.out (by decide)) (by decide)))); rintro e w81 ⟨v260, rfl, ho0, hb⟩; refine ⟨_, rfl, ?_⟩; have n0_ := Aside0.mk (Kd.R_elder' (by (with_reducible repeat (first | apply Kd.R_alloc | apply Kd.R_drewN | apply Kd.R_drew)); exact HO256.out) (Kd.R_base ho0) hb); have n1_ := Aside0.mk (Kd.R_lower (Kd.R_new' (Kd.R_mono (ok' := fun k_ => True) ho0 (fun _ hk_ => trivial)) (Kd.R_lt (by (with_reducible repeat (first | apply Kd.R_alloc | apply Kd.R_drewN | apply Kd.R_drew)); exact HO256.out))) (below_size (by repeat (first | (with_reducible first | exact HB.out | apply below_alloc | apply pw_below_drewN | apply below_drew1 | refine below_set ?_ (IsS70.ge HI243.out) | refine below_set ?_ GE251.out) | exact HB.out)))); have n2_ := Aside0.mk (blk_below (g := gb251) (o := .cells #[.int .i64 ((rd_T52 l1 x52_3).f0), .int .i64 ((rd_T52 l1 x52_3).f1), .int .i64 ((rd_T52 l1 x52_3).f2), .int .u32 ((rd_T52 l1 x52_3).f3), .slice A250_4 ((rd_T52 l1 x52_3).f4).length c250_4] 52 (0, 0)) (by (with_reducible repeat (first | refine blk_drewN ?_ _ | refine blk_drew ?_ | refine blk_alloc ?_ _)); exact BK251.out) hb); have n3_ := Aside0.mk (IsS70.below (by repeat (first | (with_reducible first | exact HI243.out | apply IsS70.alloc | apply IsS70.drewN | apply IsS70.drew | exact IsS70.far5 HI243.out ⟨_, BK251.out⟩ NB243_251.out) | exact HI243.out)) hb); have n4_ := Aside0.mk (below_step (by repeat (first | (with_reducible first | exact HB.out | apply below_alloc | apply pw_below_drewN | apply below_drew1 | refine below_set ?_ (IsS70.ge HI243.out) | refine below_set ?_ GE251.out) | exact HB.out)) hb); clear HO256; clear BK251; clear HI243; clear HB; have HO256 := n0_; have HO261 := n1_; have BK251 := n2_; have HI243 := n3_; have HB := n4_; clear n0_ n1_ n2_ n3_ n4_; (try clear hb); (try clear hb2); (try clear hk); (try clear hi); (try clear ho0); have hcz82_0 : w81.cell? ⟨gb251, 0, none⟩ = some (.int .i64 ((rd_T52 l1 x52_3).f0)) := (blk_cell BK251.out 0).trans rfl; have hcz82_1 : w81.cell? ⟨gb251, 1, none⟩ = some (.int .i64 ((rd_T52 l1 x52_3).f1)) := (blk_cell BK251.out 1).trans rfl; have hcz82_2 : w81.cell? ⟨gb251, 2, none⟩ = some (.int .i64 ((rd_T52 l1 x52_3).f2)) := (blk_cell BK251.out 2).trans rfl; have hcz82_3 : w81.cell? ⟨gb251, 3, none⟩ = some (.int .u32 ((rd_T52 l1 x52_3).f3)) := (blk_cell BK251.out 3).trans rfl; have hcz82_4 : w81.cell? ⟨gb251, 4, none⟩ = some (.slice A250_4 ((rd_T52 l1 x52_3).f4).length c250_4) := (blk_cell BK251.out 4).trans rfl; have hfz82_0 := blk_frozen BK251.out 0; have hfz82_1 := blk_frozen BK251.out 1; have hfz82_2 := blk_frozen BK251.out 2; have hfz82_3 := blk_frozen BK251.out 3; have hfz82_4 := blk_frozen BK251.out 4) | ((with_reducible refine gate_callee (f := 29) rfl ?_); refine goesL_ (some 85) rfl rfl Try.func29 (by kernel_rfl) rfl #[.pointer (some ⟨g243, 0, none⟩), .int .i64 ((rd_T52 l1 x52_3).f1), .int .i64 ((rd_T52 l1 x52_3).f2), .int .u32 ((rd_T52 l1 x52_3).f3)] rfl (by (try simp only [List.map_toArray, List.map_cons, List.map_nil]); first | done | rfl | (simp only [List.length_drop, List.length_take]; rfl)) ?_; (with_reducible refine (net_Net_Spoil.calls g243 t258 ((rd_T52 l1 x52_3).f1) ((rd_T52 l1 x52_3).f2) ((rd_T52 l1 x52_3).f3) false t264 w _ ?side1 ?side2 A38.out).mono ?_); (case side1 => repeat (first | (with_reducible first | exact HI243.out | apply IsS70.alloc | apply IsS70.drewN | apply IsS70.drew | exact IsS70.far5 HI243.out ⟨_, BK251.out⟩ NB243_251.out) | exact HI243.out)); (case side2 => repeat (first | (with_reducible first | exact HB.out | apply below_alloc | apply pw_below_drewN | apply below_drew1 | refine below_set ?_ (IsS70.ge HI243.out) | refine below_set ?_ GE251.out) | exact HB.out)); rintro e w83 ⟨rfl, hi, hb, hk⟩; refine ⟨_, rfl, ?_⟩; have n0_ := Aside0.mk (KeepT.blk hk (g' := gb251) (o := .cells #[.int .i64 ((rd_T52 l1 x52_3).f0), .int .i64 ((rd_T52 l1 x52_3).f1), .int .i64 ((rd_T52 l1 x52_3).f2), .int .u32 ((rd_T52 l1 x52_3).f3), .slice A250_4 ((rd_T52 l1 x52_3).f4).length c250_4] 52 (0, 0)) (by (with_reducible repeat (first | refine blk_drewN ?_ _ | refine blk_drew ?_ | refine blk_alloc ?_ _)); exact BK251.out) NB251_243.out (by simp)); have n1_ := Aside0.mk (Kd.R_mono (R_keepT (IsS70.apart (show IsS70 w _ g243 t258 from by repeat (first | (with_reducible first | exact HI243.out | apply IsS70.alloc | apply IsS70.drewN | apply IsS70.drew | exact IsS70.far5 HI243.out ⟨_, BK251.out⟩ NB243_251.out) | exact HI243.out)) (by (with_reducible repeat (first | apply Kd.R_alloc | apply Kd.R_drewN | apply Kd.R_drew)); exact HO256.out) (by decide)) hk (fun _ h => h.2)) (fun _ h => h.1)); have n2_ := Aside0.mk (Kd.R_mono (R_keepT (IsS70.apart (show IsS70 w _ g243 t258 from by repeat (first | (with_reducible first | exact HI243.out | apply IsS70.alloc | apply IsS70.drewN | apply IsS70.drew | exact IsS70.far5 HI243.out ⟨_, BK251.out⟩ NB243_251.out) | exact HI243.out)) (by (with_reducible repeat (first | apply Kd.R_alloc | apply Kd.R_drewN | apply Kd.R_drew)); exact HO261.out) (by decide)) hk (fun _ h => h.2)) (fun _ h => h.1)); have n3_ := Aside0.mk (hb); have n4_ := Aside0.mk (hi); clear BK251; clear HO256; clear HO261; clear HB; clear HI243; have BK251 := n0_; have HO256 := n1_; have HO261 := n2_; have HB := n3_; have HI243 := n4_; clear n0_ n1_ n2_ n3_ n4_; (try clear hb); (try clear hb2); (try clear hk); (try clear hi)))
                                    go_meet
                                    case rel => exact ⟨_, (t264), H', ⟨by have := HJ4.out; have := HK2.out; have := HK3.out; have := HJ22.out; first | omega | exact Nat.le_refl _⟩, ⟨by (with_reducible repeat (first | refine blk_drewN ?_ _ | refine blk_drew ?_ | refine blk_alloc ?_ _)); exact BK251.out⟩, ⟨by repeat (first | (with_reducible first | exact HI243.out | apply IsS70.alloc | apply IsS70.drewN | apply IsS70.drew | exact IsS70.far5 HI243.out ⟨_, BK251.out⟩ NB243_251.out) | exact HI243.out)⟩, ⟨by repeat (first | (with_reducible first | exact HB.out | apply below_alloc | apply pw_below_drewN | apply below_drew1 | refine below_set ?_ (IsS70.ge HI243.out) | refine below_set ?_ GE251.out) | exact HB.out)⟩⟩
                                · rw [if_neg c35] at H
                                  have c35b0 : (((rd_T52 l1 x52_3).f0) == 3) = false := beq_eq_false_iff_ne.mpr c35
                                  have c35b1 : (((rd_T52 l1 x52_3).f0) != 3) = true := bne_iff_ne.mpr c35
                                  (first | rw [c35b0] | (simp only [i64_w, i32_w]; rw [c35b0]) | skip)
                                  have H' := Aside0.mk H
                                  clear H
                                  go_wp2
                                  go_meet
                                  case rel => exact ⟨_, (x244000_22), H', ⟨by have := HJ4.out; have := HK2.out; have := HK3.out; have := HJ22.out; first | omega | exact Nat.le_refl _⟩, ⟨by (with_reducible repeat (first | refine blk_drewN ?_ _ | refine blk_drew ?_ | refine blk_alloc ?_ _)); exact BK251.out⟩, ⟨by repeat (first | (with_reducible first | exact HI243.out | apply IsS70.alloc | apply IsS70.drewN | apply IsS70.drew | exact IsS70.far5 HI243.out ⟨_, BK251.out⟩ NB243_251.out) | exact HI243.out)⟩, ⟨by repeat (first | (with_reducible first | exact HB.out | apply below_alloc | apply pw_below_drewN | apply below_drew1 | refine below_set ?_ (IsS70.ge HI243.out) | refine below_set ?_ GE251.out) | exact HB.out)⟩⟩
                              case rest =>
                                clear HC32
                                try clear c1
                                try clear c2
                                try clear p2
                                try clear q2
                                try clear hx2
                                try clear c3
                                try clear c4
                                try clear c5
                                try clear c6
                                try clear p6
                                try clear c7
                                try clear c7b0
                                try clear c7b1
                                try clear c8
                                try clear c11
                                try clear c11b0
                                try clear c12
                                try clear c12b0
                                try clear c13
                                try clear c13b0
                                try clear c14
                                try clear c14b0
                                try clear c14b1
                                try clear c15
                                try clear c20
                                try clear c20b0
                                try clear c21
                                try clear c21b0
                                try clear c22
                                try clear c22b0
                                try clear c24
                                try clear p24
                                try clear q24
                                try clear hx24
                                try clear c25
                                try clear p25
                                try clear q25
                                try clear hx25
                                try clear c26
                                try clear c27
                                try clear c27b0
                                try clear c27b1
                                try clear c28
                                try clear c29
                                try clear c30
                                try clear c33
                                try clear c35
                                try clear c35b0
                                try clear c35b1
                                try clear c39
                                try clear c42
                                try clear c42b0
                                try clear c42b1
                                try clear c43
                                try clear c43b0
                                try clear c43b1
                                try clear c44
                                try clear c55
                                try clear p64
                                try clear c66
                                try clear c77
                                try clear hcz26_0
                                try clear hcz26_1
                                try clear hcz26_2
                                try clear hcz26_3
                                try clear hcz26_4
                                try clear hcz30_0
                                try clear hcz30_1
                                try clear hcz30_2
                                try clear hcz30_3
                                try clear hcz30_4
                                try clear hcz34_0
                                try clear hcz34_1
                                try clear hcz34_2
                                try clear hcz34_3
                                try clear hcz34_4
                                try clear hcz45_0
                                try clear hcz45_1
                                try clear hcz45_2
                                try clear hcz45_3
                                try clear hcz45_4
                                try clear hcz49_0
                                try clear hcz49_1
                                try clear hcz49_2
                                try clear hcz49_3
                                try clear hcz49_4
                                try clear hcz51_0
                                try clear hcz51_1
                                try clear hcz51_2
                                try clear hcz51_3
                                try clear hcz51_4
                                try clear hcz56_0
                                try clear hcz56_1
                                try clear hcz56_2
                                try clear hcz56_3
                                try clear hcz56_4
                                try clear hcz60_0
                                try clear hcz60_1
                                try clear hcz60_2
                                try clear hcz60_3
                                try clear hcz60_4
                                try clear hcz62_0
                                try clear hcz62_1
                                try clear hcz62_2
                                try clear hcz62_3
                                try clear hcz62_4
                                try clear hcz67_0
                                try clear hcz67_1
                                try clear hcz67_2
                                try clear hcz67_3
                                try clear hcz67_4
                                try clear hcz71_0
                                try clear hcz71_1
                                try clear hcz71_2
                                try clear hcz71_3
                                try clear hcz71_4
                                try clear hcz73_0
                                try clear hcz73_1
                                try clear hcz73_2
                                try clear hcz73_3
                                try clear hcz73_4
                                try clear hcz78_0
                                try clear hcz78_1
                                try clear hcz78_2
                                try clear hcz78_3
                                try clear hcz78_4
                                try clear hcz82_0
                                try clear hcz82_1
                                try clear hcz82_2
                                try clear hcz82_3
                                try clear hcz82_4
                                try clear hfz26_0
                                try clear hfz26_1
                                try clear hfz26_2
                                try clear hfz26_3
                                try clear hfz26_4
                                try clear hfz30_0
                                try clear hfz30_1
                                try clear hfz30_2
                                try clear hfz30_3
                                try clear hfz30_4
                                try clear hfz34_0
                                try clear hfz34_1
                                try clear hfz34_2
                                try clear hfz34_3
                                try clear hfz34_4
                                try clear hfz45_0
                                try clear hfz45_1
                                try clear hfz45_2
                                try clear hfz45_3
                                try clear hfz45_4
                                try clear hfz49_0
                                try clear hfz49_1
                                try clear hfz49_2
                                try clear hfz49_3
                                try clear hfz49_4
                                try clear hfz51_0
                                try clear hfz51_1
                                try clear hfz51_2
                                try clear hfz51_3
                                try clear hfz51_4
                                try clear hfz56_0
                                try clear hfz56_1
                                try clear hfz56_2
                                try clear hfz56_3
                                try clear hfz56_4
                                try clear hfz60_0
                                try clear hfz60_1
                                try clear hfz60_2
                                try clear hfz60_3
                                try clear hfz60_4
                                try clear hfz62_0
                                try clear hfz62_1
                                try clear hfz62_2
                                try clear hfz62_3
                                try clear hfz62_4
                                try clear hfz67_0
                                try clear hfz67_1
                                try clear hfz67_2
                                try clear hfz67_3
                                try clear hfz67_4
                                try clear hfz71_0
                                try clear hfz71_1
                                try clear hfz71_2
                                try clear hfz71_3
                                try clear hfz71_4
                                try clear hfz73_0
                                try clear hfz73_1
                                try clear hfz73_2
                                try clear hfz73_3
                                try clear hfz73_4
                                try clear hfz78_0
                                try clear hfz78_1
                                try clear hfz78_2
                                try clear hfz78_3
                                try clear hfz78_4
                                try clear hfz82_0
                                try clear hfz82_1
                                try clear hfz82_2
                                try clear hfz82_3
                                try clear hfz82_4
                                try clear hx244_0
                                try clear hx250_0
                                try clear hx250_1
                                try clear hx250_2
                                try clear hx250_3
                                try clear hx250_4
                                try clear p2
                                try clear p24
                                try clear p244
                                try clear p25
                                try clear p250
                                try clear p6
                                try clear q2
                                try clear q24
                                try clear q244
                                try clear q25
                                try clear q250
                                obtain ⟨kq, x244000_31, HA, HJ31, BK251, HI243, HB⟩ := hcut
                                cases kq with
                                | zero => exact absurd HA.out (by simp [ropewaylaw19_NetSpoils.j4])
                                | succ kj31 =>
                                  have H := HA.out
                                  clear HA
                                  simp only [ropewaylaw19_NetSpoils.j4] at H
                                  by_cases c84 : ((rd_T52 l1 x52_3).f0) = 1
                                  · rw [if_pos c84] at H
                                    have c84b0 : (((rd_T52 l1 x52_3).f0) == 1) = true := beq_iff_eq.mpr c84
                                    have c84b1 : (((rd_T52 l1 x52_3).f0) != 1) = false := bne_eq_false_iff_eq.mpr c84
                                    clear c84
                                    replace H := Option.bind_eq_some_iff.mp H
                                    obtain ⟨⟨t274, t277, t278⟩, A850, H⟩ := H
                                    replace H : ((crc_Open.f kj31 t274).bind fun bt279 => (if t277 = true then (ropewaylaw19_NetSpoils.j5 kj31 l0 bt279.1 (bt279.2 != 0) l1 (l1.length : Int) x52_3 t278) else (ropewaylaw19_NetSpoils.j5 kj31 l0 bt279.1 true l1 (l1.length : Int) x52_3 t278))) = some r := H
                                    have A85 := Aside0.mk A850
                                    clear A850
                                    replace H := Option.bind_eq_some_iff.mp H
                                    obtain ⟨⟨t279, t282⟩, A860, H⟩ := H
                                    replace H : (if t277 = true then (ropewaylaw19_NetSpoils.j5 kj31 l0 t279 (t282 != 0) l1 (l1.length : Int) x52_3 t278) else (ropewaylaw19_NetSpoils.j5 kj31 l0 t279 true l1 (l1.length : Int) x52_3 t278)) = some r := H
                                    have A86 := Aside0.mk A860
                                    clear A860
                                    have HC87 := Aside0.mk H
                                    clear H
                                    have hnb88 := NB251_243.out
                                    have hnc88 := NB243_251.out
                                    have hcz89_0 : wc.cell? ⟨gb251, 0, none⟩ = some (.int .i64 ((rd_T52 l1 x52_3).f0)) := (blk_cell BK251.out 0).trans rfl
                                    have hcz89_1 : wc.cell? ⟨gb251, 1, none⟩ = some (.int .i64 ((rd_T52 l1 x52_3).f1)) := (blk_cell BK251.out 1).trans rfl
                                    have hcz89_2 : wc.cell? ⟨gb251, 2, none⟩ = some (.int .i64 ((rd_T52 l1 x52_3).f2)) := (blk_cell BK251.out 2).trans rfl
                                    have hcz89_3 : wc.cell? ⟨gb251, 3, none⟩ = some (.int .u32 ((rd_T52 l1 x52_3).f3)) := (blk_cell BK251.out 3).trans rfl
                                    have hcz89_4 : wc.cell? ⟨gb251, 4, none⟩ = some (.slice A250_4 ((rd_T52 l1 x52_3).f4).length c250_4) := (blk_cell BK251.out 4).trans rfl
                                    have hfz89_0 := blk_frozen BK251.out 0
                                    have hfz89_1 := blk_frozen BK251.out 1
                                    have hfz89_2 := blk_frozen BK251.out 2
                                    have hfz89_3 := blk_frozen BK251.out 3
                                    have hfz89_4 := blk_frozen BK251.out 4
                                    go_upto_region 29 with (first | ((with_reducible refine gate_callee (f := 32) rfl ?_); refine goesL_ (some 111) rfl rfl Try.func32 (by kernel_rfl) rfl #[.pointer (some ⟨g243, 0, none⟩), .int .i64 ((rd_T52 l1 x52_3).f1)] rfl (by (try simp only [List.map_toArray, List.map_cons, List.map_nil]); first | done | rfl | (simp only [List.length_drop, List.length_take]; rfl)) ?_; (with_reducible refine (net_Net_Take.calls g243 x244000_31 ((rd_T52 l1 x52_3).f1) t274 t277 t278 w _ ?side1 ?side2 A85.out).mono ?_); (case side1 => repeat (first | (with_reducible first | exact HI243.out | apply IsS70.alloc | apply IsS70.drewN | apply IsS70.drew | exact IsS70.far5 HI243.out ⟨_, BK251.out⟩ NB243_251.out) | exact HI243.out)); (case side2 => repeat (first | (with_reducible first | exact HB.out | apply below_alloc | apply pw_below_drewN | apply below_drew1 | refine below_set ?_ (IsS70.ge HI243.out) | refine below_set ?_ GE251.out) | exact HB.out)); rintro e w90 ⟨v275, rfl, ho0, hi, hb, hk⟩; refine ⟨_, rfl, ?_⟩; have n0_ := Aside0.mk (KeepT.blk hk (g' := gb251) (o := .cells #[.int .i64 ((rd_T52 l1 x52_3).f0), .int .i64 ((rd_T52 l1 x52_3).f1), .int .i64 ((rd_T52 l1 x52_3).f2), .int .u32 ((rd_T52 l1 x52_3).f3), .slice A250_4 ((rd_T52 l1 x52_3).f4).length c250_4] 52 (0, 0)) (by (with_reducible repeat (first | refine blk_drewN ?_ _ | refine blk_drew ?_ | refine blk_alloc ?_ _)); exact BK251.out) NB251_243.out (by simp)); have n1_ := Aside0.mk (Kd.R_lower ho0 (below_size (by repeat (first | (with_reducible first | exact HB.out | apply below_alloc | apply pw_below_drewN | apply below_drew1 | refine below_set ?_ (IsS70.ge HI243.out) | refine below_set ?_ GE251.out) | exact HB.out)))); have n2_ := Aside0.mk (hb); have n3_ := Aside0.mk (hi); clear BK251; clear HB; clear HI243; have BK251 := n0_; have HO276 := n1_; have HB := n2_; have HI243 := n3_; clear n0_ n1_ n2_ n3_; (try clear hb); (try clear hb2); (try clear hk); (try clear hi); (try clear ho0); obtain ⟨Ao91, co91, eo91⟩ := Kd.R_slice HO276.out; subst eo91) | ((with_reducible refine gate_callee (f := 15) rfl ?_); refine goesL_ (some 116) rfl rfl Try.func15 (by kernel_rfl) rfl #[.slice Ao91 t274.length co91] rfl (by (try simp only [List.map_toArray, List.map_cons, List.map_nil]); first | done | rfl | (simp only [List.length_drop, List.length_take]; rfl)) ?_; (with_reducible refine (crc_Open.calls kj31 (fun k_ => some k_ = (.slice Ao91 t274.length co91 : Value).ownBlock) _ _ t274 t279 t282 _ ?side1 A86.out).mono ?_); (case side1 => exact Kd.R_V (Kd.R_tight rfl (IsS70.apart HI243.out (Kd.R_types (HO276.out) BK251.out (by decide)) (by decide)))); rintro e w92 ⟨v280, rfl, ho0, hb⟩; refine ⟨_, rfl, ?_⟩; have n0_ := Aside0.mk (Kd.R_elder' (by (with_reducible repeat (first | apply Kd.R_alloc | apply Kd.R_drewN | apply Kd.R_drew)); exact HO276.out) (Kd.R_base ho0) hb); have n1_ := Aside0.mk (Kd.R_lower (Kd.R_new' (Kd.R_mono (ok' := fun k_ => True) ho0 (fun _ hk_ => trivial)) (Kd.R_lt (by (with_reducible repeat (first | apply Kd.R_alloc | apply Kd.R_drewN | apply Kd.R_drew)); exact HO276.out))) (below_size (by repeat (first | (with_reducible first | exact HB.out | apply below_alloc | apply pw_below_drewN | apply below_drew1 | refine below_set ?_ (IsS70.ge HI243.out) | refine below_set ?_ GE251.out) | exact HB.out)))); have n2_ := Aside0.mk (blk_below (g := gb251) (o := .cells #[.int .i64 ((rd_T52 l1 x52_3).f0), .int .i64 ((rd_T52 l1 x52_3).f1), .int .i64 ((rd_T52 l1 x52_3).f2), .int .u32 ((rd_T52 l1 x52_3).f3), .slice A250_4 ((rd_T52 l1 x52_3).f4).length c250_4] 52 (0, 0)) (by (with_reducible repeat (first | refine blk_drewN ?_ _ | refine blk_drew ?_ | refine blk_alloc ?_ _)); exact BK251.out) hb); have n3_ := Aside0.mk (IsS70.below (by repeat (first | (with_reducible first | exact HI243.out | apply IsS70.alloc | apply IsS70.drewN | apply IsS70.drew | exact IsS70.far5 HI243.out ⟨_, BK251.out⟩ NB243_251.out) | exact HI243.out)) hb); have n4_ := Aside0.mk (below_step (by repeat (first | (with_reducible first | exact HB.out | apply below_alloc | apply pw_below_drewN | apply below_drew1 | refine below_set ?_ (IsS70.ge HI243.out) | refine below_set ?_ GE251.out) | exact HB.out)) hb); clear HO276; clear BK251; clear HI243; clear HB; have HO276 := n0_; have HO281 := n1_; have BK251 := n2_; have HI243 := n3_; have HB := n4_; clear n0_ n1_ n2_ n3_ n4_; (try clear hb); (try clear hb2); (try clear hk); (try clear hi); (try clear ho0)))
                                    (try simp only [Act.put, List.setIfInBounds_toArray, List.set_cons_zero, List.set_cons_succ])
                                    go_cut [22] (fun v22 wc => ∃ (kq : Nat) (x22_86 : Bool), v22 = .bool x22_86 ∧ Aside0 (ropewaylaw19_NetSpoils.j5 kq l0 t279 x22_86 l1 (l1.length : Int) x52_3 t278 = some r) ∧ Aside0 (kq ≤ kj31) ∧ Aside0 (Kd.R (Kd.int .u8) 5 wc w.heap.size (fun _ => True) v280 t279) ∧ Aside0 (wc.heap[gb251]? = some (.cells #[.int .i64 ((rd_T52 l1 x52_3).f0), .int .i64 ((rd_T52 l1 x52_3).f1), .int .i64 ((rd_T52 l1 x52_3).f2), .int .u32 ((rd_T52 l1 x52_3).f3), (.slice A250_4 ((rd_T52 l1 x52_3).f4).length c250_4)] 52 (0, 0))) ∧ Aside0 (IsS70 w wc g243 t278) ∧ Aside0 (Below w.heap.size w wc))
                                    case first =>
                                      have H := HC87.out
                                      clear HC87
                                      by_cases c93 : t277 = true
                                      · subst c93
                                        have H1 : (ropewaylaw19_NetSpoils.j5 kj31 l0 t279 (t282 != 0) l1 (l1.length : Int) x52_3 t278) = some r := by rw [if_pos rfl] at H; exact H
                                        clear H
                                        have H := H1
                                        clear H1
                                        have H' := Aside0.mk H
                                        clear H
                                        go_wp2
                                        go_meet
                                        case rel => exact ⟨_, ((t282 != 0)), (by first | rfl | (simp; done) | (simp [*]; done)), H', ⟨by have := HJ4.out; have := HK2.out; have := HK3.out; have := HJ22.out; have := HJ31.out; first | omega | exact Nat.le_refl _⟩, ⟨by (with_reducible repeat (first | apply Kd.R_alloc | apply Kd.R_drewN | apply Kd.R_drew)); exact Kd.R_mono HO281.out (fun _ hk => trivial)⟩, ⟨by (with_reducible repeat (first | refine blk_drewN ?_ _ | refine blk_drew ?_ | refine blk_alloc ?_ _)); exact BK251.out⟩, ⟨by repeat (first | (with_reducible first | exact HI243.out | apply IsS70.alloc | apply IsS70.drewN | apply IsS70.drew | exact IsS70.far5 HI243.out ⟨_, BK251.out⟩ NB243_251.out) | exact HI243.out)⟩, ⟨by repeat (first | (with_reducible first | exact HB.out | apply below_alloc | apply pw_below_drewN | apply below_drew1 | refine below_set ?_ (IsS70.ge HI243.out) | refine below_set ?_ GE251.out) | exact HB.out)⟩⟩
                                      · replace c93 := Bool.eq_false_iff.mpr c93
                                        subst c93
                                        have H1 : (ropewaylaw19_NetSpoils.j5 kj31 l0 t279 true l1 (l1.length : Int) x52_3 t278) = some r := by rw [if_neg (show ¬ (false = true) by decide)] at H; exact H
                                        clear H
                                        have H := H1
                                        clear H1
                                        have H' := Aside0.mk H
                                        clear H
                                        go_wp2
                                        go_meet
                                        case rel => exact ⟨_, (true), (by first | rfl | (simp; done) | (simp [*]; done)), H', ⟨by have := HJ4.out; have := HK2.out; have := HK3.out; have := HJ22.out; have := HJ31.out; first | omega | exact Nat.le_refl _⟩, ⟨by (with_reducible repeat (first | apply Kd.R_alloc | apply Kd.R_drewN | apply Kd.R_drew)); exact Kd.R_mono HO281.out (fun _ hk => trivial)⟩, ⟨by (with_reducible repeat (first | refine blk_drewN ?_ _ | refine blk_drew ?_ | refine blk_alloc ?_ _)); exact BK251.out⟩, ⟨by repeat (first | (with_reducible first | exact HI243.out | apply IsS70.alloc | apply IsS70.drewN | apply IsS70.drew | exact IsS70.far5 HI243.out ⟨_, BK251.out⟩ NB243_251.out) | exact HI243.out)⟩, ⟨by repeat (first | (with_reducible first | exact HB.out | apply below_alloc | apply pw_below_drewN | apply below_drew1 | refine below_set ?_ (IsS70.ge HI243.out) | refine below_set ?_ GE251.out) | exact HB.out)⟩⟩
                                    case rest =>
                                      clear HC87
                                      try clear c1
                                      try clear c2
                                      try clear p2
                                      try clear q2
                                      try clear hx2
                                      try clear c3
                                      try clear c4
                                      try clear c5
                                      try clear c6
                                      try clear p6
                                      try clear c7
                                      try clear c7b0
                                      try clear c7b1
                                      try clear c8
                                      try clear c9
                                      try clear c11
                                      try clear c11b0
                                      try clear c12
                                      try clear c12b0
                                      try clear c13
                                      try clear c13b0
                                      try clear c14
                                      try clear c14b0
                                      try clear c14b1
                                      try clear c15
                                      try clear c20
                                      try clear c20b0
                                      try clear c21
                                      try clear c21b0
                                      try clear c22
                                      try clear c22b0
                                      try clear c24
                                      try clear p24
                                      try clear q24
                                      try clear hx24
                                      try clear c25
                                      try clear p25
                                      try clear q25
                                      try clear hx25
                                      try clear c26
                                      try clear c27
                                      try clear c27b0
                                      try clear c27b1
                                      try clear c28
                                      try clear c29
                                      try clear c30
                                      try clear c32
                                      try clear c33
                                      try clear c35
                                      try clear c35b0
                                      try clear c35b1
                                      try clear c39
                                      try clear c42
                                      try clear c42b0
                                      try clear c42b1
                                      try clear c43
                                      try clear c43b0
                                      try clear c43b1
                                      try clear c44
                                      try clear c55
                                      try clear p64
                                      try clear c66
                                      try clear c77
                                      try clear c84
                                      try clear c84b0
                                      try clear c84b1
                                      try clear c88
                                      try clear c93
                                      try clear hcz26_0
                                      try clear hcz26_1
                                      try clear hcz26_2
                                      try clear hcz26_3
                                      try clear hcz26_4
                                      try clear hcz30_0
                                      try clear hcz30_1
                                      try clear hcz30_2
                                      try clear hcz30_3
                                      try clear hcz30_4
                                      try clear hcz34_0
                                      try clear hcz34_1
                                      try clear hcz34_2
                                      try clear hcz34_3
                                      try clear hcz34_4
                                      try clear hcz45_0
                                      try clear hcz45_1
                                      try clear hcz45_2
                                      try clear hcz45_3
                                      try clear hcz45_4
                                      try clear hcz49_0
                                      try clear hcz49_1
                                      try clear hcz49_2
                                      try clear hcz49_3
                                      try clear hcz49_4
                                      try clear hcz51_0
                                      try clear hcz51_1
                                      try clear hcz51_2
                                      try clear hcz51_3
                                      try clear hcz51_4
                                      try clear hcz56_0
                                      try clear hcz56_1
                                      try clear hcz56_2
                                      try clear hcz56_3
                                      try clear hcz56_4
                                      try clear hcz60_0
                                      try clear hcz60_1
                                      try clear hcz60_2
                                      try clear hcz60_3
                                      try clear hcz60_4
                                      try clear hcz62_0
                                      try clear hcz62_1
                                      try clear hcz62_2
                                      try clear hcz62_3
                                      try clear hcz62_4
                                      try clear hcz67_0
                                      try clear hcz67_1
                                      try clear hcz67_2
                                      try clear hcz67_3
                                      try clear hcz67_4
                                      try clear hcz71_0
                                      try clear hcz71_1
                                      try clear hcz71_2
                                      try clear hcz71_3
                                      try clear hcz71_4
                                      try clear hcz73_0
                                      try clear hcz73_1
                                      try clear hcz73_2
                                      try clear hcz73_3
                                      try clear hcz73_4
                                      try clear hcz78_0
                                      try clear hcz78_1
                                      try clear hcz78_2
                                      try clear hcz78_3
                                      try clear hcz78_4
                                      try clear hcz82_0
                                      try clear hcz82_1
                                      try clear hcz82_2
                                      try clear hcz82_3
                                      try clear hcz82_4
                                      try clear hcz89_0
                                      try clear hcz89_1
                                      try clear hcz89_2
                                      try clear hcz89_3
                                      try clear hcz89_4
                                      try clear hfz26_0
                                      try clear hfz26_1
                                      try clear hfz26_2
                                      try clear hfz26_3
                                      try clear hfz26_4
                                      try clear hfz30_0
                                      try clear hfz30_1
                                      try clear hfz30_2
                                      try clear hfz30_3
                                      try clear hfz30_4
                                      try clear hfz34_0
                                      try clear hfz34_1
                                      try clear hfz34_2
                                      try clear hfz34_3
                                      try clear hfz34_4
                                      try clear hfz45_0
                                      try clear hfz45_1
                                      try clear hfz45_2
                                      try clear hfz45_3
                                      try clear hfz45_4
                                      try clear hfz49_0
                                      try clear hfz49_1
                                      try clear hfz49_2
                                      try clear hfz49_3
                                      try clear hfz49_4
                                      try clear hfz51_0
                                      try clear hfz51_1
                                      try clear hfz51_2
                                      try clear hfz51_3
                                      try clear hfz51_4
                                      try clear hfz56_0
                                      try clear hfz56_1
                                      try clear hfz56_2
                                      try clear hfz56_3
                                      try clear hfz56_4
                                      try clear hfz60_0
                                      try clear hfz60_1
                                      try clear hfz60_2
                                      try clear hfz60_3
                                      try clear hfz60_4
                                      try clear hfz62_0
                                      try clear hfz62_1
                                      try clear hfz62_2
                                      try clear hfz62_3
                                      try clear hfz62_4
                                      try clear hfz67_0
                                      try clear hfz67_1
                                      try clear hfz67_2
                                      try clear hfz67_3
                                      try clear hfz67_4
                                      try clear hfz71_0
                                      try clear hfz71_1
                                      try clear hfz71_2
                                      try clear hfz71_3
                                      try clear hfz71_4
                                      try clear hfz73_0
                                      try clear hfz73_1
                                      try clear hfz73_2
                                      try clear hfz73_3
                                      try clear hfz73_4
                                      try clear hfz78_0
                                      try clear hfz78_1
                                      try clear hfz78_2
                                      try clear hfz78_3
                                      try clear hfz78_4
                                      try clear hfz82_0
                                      try clear hfz82_1
                                      try clear hfz82_2
                                      try clear hfz82_3
                                      try clear hfz82_4
                                      try clear hfz89_0
                                      try clear hfz89_1
                                      try clear hfz89_2
                                      try clear hfz89_3
                                      try clear hfz89_4
                                      try clear hx244_0
                                      try clear hx250_0
                                      try clear hx250_1
                                      try clear hx250_2
                                      try clear hx250_3
                                      try clear hx250_4
                                      try clear p2
                                      try clear p24
                                      try clear p244
                                      try clear p25
                                      try clear p250
                                      try clear p6
                                      try clear p64
                                      try clear q2
                                      try clear q24
                                      try clear q244
                                      try clear q25
                                      try clear q250
                                      obtain ⟨kq, x22_86, rfl, HA, HJ86, HO_20, BK251, HI243, HB⟩ := hcut
                                      cases kq with
                                      | zero => exact absurd HA.out (by simp [ropewaylaw19_NetSpoils.j5])
                                      | succ kj86 =>
                                        have H := HA.out
                                        clear HA
                                        simp only [ropewaylaw19_NetSpoils.j5] at H
                                        have H' := Aside0.mk H
                                        clear H
                                        go_wp2
                                        go_loopg [22, 127] kj86 (fun kq v22 v127 w' => ∃ (x22_7 : Bool) (x127_7 : Int), v22 = .bool x22_7 ∧ v127 = .int .i64 x127_7 ∧ Aside0 (ropewaylaw19_NetSpoils.l2 kq l0 t279 x22_7 l1 (l1.length : Int) x52_3 l0 (l0.length : Int) x127_7 t278 = some r) ∧ Aside0 (kq ≤ kj86) ∧ Aside0 (Kd.R (Kd.int .u8) 5 w' w.heap.size (fun _ => True) v280 t279) ∧ Aside0 (w'.heap[gb251]? = some (.cells #[.int .i64 ((rd_T52 l1 x52_3).f0), .int .i64 ((rd_T52 l1 x52_3).f1), .int .i64 ((rd_T52 l1 x52_3).f2), .int .u32 ((rd_T52 l1 x52_3).f3), (.slice A250_4 ((rd_T52 l1 x52_3).f4).length c250_4)] 52 (0, 0))) ∧ Aside0 (IsS70 w w' g243 t278) ∧ Aside0 (Below w.heap.size w w'))
                                        case atStart => exact ⟨(x22_86), (0), (by first | rfl | (simp; done) | (simp [*]; done)), (by first | rfl | (simp; done) | (simp [*]; done)), H', ⟨Nat.le_refl _⟩, ⟨by (with_reducible repeat (first | apply Kd.R_alloc | apply Kd.R_drewN | apply Kd.R_drew)); exact HO_20.out⟩, ⟨by (with_reducible repeat (first | refine blk_drewN ?_ _ | refine blk_drew ?_ | refine blk_alloc ?_ _)); exact BK251.out⟩, ⟨by repeat (first | (with_reducible first | exact HI243.out | apply IsS70.alloc | apply IsS70.drewN | apply IsS70.drew | exact IsS70.far5 HI243.out ⟨_, BK251.out⟩ NB243_251.out) | exact HI243.out)⟩, ⟨by repeat (first | (with_reducible first | exact HB.out | apply below_alloc | apply pw_below_drewN | apply below_drew1 | refine below_set ?_ (IsS70.ge HI243.out) | refine below_set ?_ GE251.out) | exact HB.out)⟩⟩
                                        case round =>
                                          clear H'
                                          try clear c1
                                          try clear c2
                                          try clear p2
                                          try clear q2
                                          try clear hx2
                                          try clear c3
                                          try clear c4
                                          try clear c5
                                          try clear c6
                                          try clear p6
                                          try clear c7
                                          try clear c7b0
                                          try clear c7b1
                                          try clear c8
                                          try clear c9
                                          try clear c11
                                          try clear c11b0
                                          try clear c12
                                          try clear c12b0
                                          try clear c13
                                          try clear c13b0
                                          try clear c14
                                          try clear c14b0
                                          try clear c14b1
                                          try clear c15
                                          try clear c20
                                          try clear c20b0
                                          try clear c21
                                          try clear c21b0
                                          try clear c22
                                          try clear c22b0
                                          try clear c24
                                          try clear p24
                                          try clear q24
                                          try clear hx24
                                          try clear c25
                                          try clear p25
                                          try clear q25
                                          try clear hx25
                                          try clear c26
                                          try clear c27
                                          try clear c27b0
                                          try clear c27b1
                                          try clear c28
                                          try clear c29
                                          try clear c30
                                          try clear c32
                                          try clear c33
                                          try clear c35
                                          try clear c35b0
                                          try clear c35b1
                                          try clear c39
                                          try clear c42
                                          try clear c42b0
                                          try clear c42b1
                                          try clear c43
                                          try clear c43b0
                                          try clear c43b1
                                          try clear c44
                                          try clear c55
                                          try clear p64
                                          try clear c66
                                          try clear c77
                                          try clear c84
                                          try clear c84b0
                                          try clear c84b1
                                          try clear c88
                                          try clear c93
                                          try clear hcz26_0
                                          try clear hcz26_1
                                          try clear hcz26_2
                                          try clear hcz26_3
                                          try clear hcz26_4
                                          try clear hcz30_0
                                          try clear hcz30_1
                                          try clear hcz30_2
                                          try clear hcz30_3
                                          try clear hcz30_4
                                          try clear hcz34_0
                                          try clear hcz34_1
                                          try clear hcz34_2
                                          try clear hcz34_3
                                          try clear hcz34_4
                                          try clear hcz45_0
                                          try clear hcz45_1
                                          try clear hcz45_2
                                          try clear hcz45_3
                                          try clear hcz45_4
                                          try clear hcz49_0
                                          try clear hcz49_1
                                          try clear hcz49_2
                                          try clear hcz49_3
                                          try clear hcz49_4
                                          try clear hcz51_0
                                          try clear hcz51_1
                                          try clear hcz51_2
                                          try clear hcz51_3
                                          try clear hcz51_4
                                          try clear hcz56_0
                                          try clear hcz56_1
                                          try clear hcz56_2
                                          try clear hcz56_3
                                          try clear hcz56_4
                                          try clear hcz60_0
                                          try clear hcz60_1
                                          try clear hcz60_2
                                          try clear hcz60_3
                                          try clear hcz60_4
                                          try clear hcz62_0
                                          try clear hcz62_1
                                          try clear hcz62_2
                                          try clear hcz62_3
                                          try clear hcz62_4
                                          try clear hcz67_0
                                          try clear hcz67_1
                                          try clear hcz67_2
                                          try clear hcz67_3
                                          try clear hcz67_4
                                          try clear hcz71_0
                                          try clear hcz71_1
                                          try clear hcz71_2
                                          try clear hcz71_3
                                          try clear hcz71_4
                                          try clear hcz73_0
                                          try clear hcz73_1
                                          try clear hcz73_2
                                          try clear hcz73_3
                                          try clear hcz73_4
                                          try clear hcz78_0
                                          try clear hcz78_1
                                          try clear hcz78_2
                                          try clear hcz78_3
                                          try clear hcz78_4
                                          try clear hcz82_0
                                          try clear hcz82_1
                                          try clear hcz82_2
                                          try clear hcz82_3
                                          try clear hcz82_4
                                          try clear hcz89_0
                                          try clear hcz89_1
                                          try clear hcz89_2
                                          try clear hcz89_3
                                          try clear hcz89_4
                                          try clear hfz26_0
                                          try clear hfz26_1
                                          try clear hfz26_2
                                          try clear hfz26_3
                                          try clear hfz26_4
                                          try clear hfz30_0
                                          try clear hfz30_1
                                          try clear hfz30_2
                                          try clear hfz30_3
                                          try clear hfz30_4
                                          try clear hfz34_0
                                          try clear hfz34_1
                                          try clear hfz34_2
                                          try clear hfz34_3
                                          try clear hfz34_4
                                          try clear hfz45_0
                                          try clear hfz45_1
                                          try clear hfz45_2
                                          try clear hfz45_3
                                          try clear hfz45_4
                                          try clear hfz49_0
                                          try clear hfz49_1
                                          try clear hfz49_2
                                          try clear hfz49_3
                                          try clear hfz49_4
                                          try clear hfz51_0
                                          try clear hfz51_1
                                          try clear hfz51_2
                                          try clear hfz51_3
                                          try clear hfz51_4
                                          try clear hfz56_0
                                          try clear hfz56_1
                                          try clear hfz56_2
                                          try clear hfz56_3
                                          try clear hfz56_4
                                          try clear hfz60_0
                                          try clear hfz60_1
                                          try clear hfz60_2
                                          try clear hfz60_3
                                          try clear hfz60_4
                                          try clear hfz62_0
                                          try clear hfz62_1
                                          try clear hfz62_2
                                          try clear hfz62_3
                                          try clear hfz62_4
                                          try clear hfz67_0
                                          try clear hfz67_1
                                          try clear hfz67_2
                                          try clear hfz67_3
                                          try clear hfz67_4
                                          try clear hfz71_0
                                          try clear hfz71_1
                                          try clear hfz71_2
                                          try clear hfz71_3
                                          try clear hfz71_4
                                          try clear hfz73_0
                                          try clear hfz73_1
                                          try clear hfz73_2
                                          try clear hfz73_3
                                          try clear hfz73_4
                                          try clear hfz78_0
                                          try clear hfz78_1
                                          try clear hfz78_2
                                          try clear hfz78_3
                                          try clear hfz78_4
                                          try clear hfz82_0
                                          try clear hfz82_1
                                          try clear hfz82_2
                                          try clear hfz82_3
                                          try clear hfz82_4
                                          try clear hfz89_0
                                          try clear hfz89_1
                                          try clear hfz89_2
                                          try clear hfz89_3
                                          try clear hfz89_4
                                          try clear hx244_0
                                          try clear hx250_0
                                          try clear hx250_1
                                          try clear hx250_2
                                          try clear hx250_3
                                          try clear hx250_4
                                          try clear p2
                                          try clear p24
                                          try clear p244
                                          try clear p25
                                          try clear p250
                                          try clear p6
                                          try clear p64
                                          try clear q2
                                          try clear q24
                                          try clear q244
                                          try clear q25
                                          try clear q250
                                          obtain ⟨x22_7, x127_7, rfl, rfl, HA, HK7, HO_20, BK251, HI243, HB⟩ := hrel
                                          cases gk with
                                          | zero => exact absurd HA.out (by simp [ropewaylaw19_NetSpoils.l2])
                                          | succ k7 =>
                                            have H := HA.out
                                            clear HA
                                            simp only [ropewaylaw19_NetSpoils.l2] at H
                                            by_cases c94 : x127_7 < (l0.length : Int)
                                            · rw [if_pos c94] at H
                                              have c94b0 : decide (x127_7 < (l0.length : Int)) = true := decide_eq_true c94
                                              clear c94
                                              by_cases c95 : 0 ≤ x127_7
                                              · rw [if_pos c95] at H
                                                have c95b0 : decide (0 ≤ x127_7) = true := decide_eq_true c95
                                                clear c95
                                                by_cases c96 : x127_7 < (l0.length : Int)
                                                · rw [if_pos c96] at H
                                                  have c96b0 : decide (x127_7 < (l0.length : Int)) = true := decide_eq_true c96
                                                  clear c96
                                                  by_cases c97 : x22_7 = true
                                                  · subst c97
                                                    have H1 : (ropewaylaw19_NetSpoils.l2 k7 l0 t279 true l1 (l1.length : Int) x52_3 l0 (l0.length : Int) (wrap64 (x127_7 + 1)) t278) = some r := by rw [if_pos rfl] at H; exact H
                                                    clear H
                                                    have H := H1
                                                    clear H1
                                                    have H' := Aside0.mk H
                                                    clear H
                                                    have p283 : 0 ≤ (x127_7 : Int) := of_decide_eq_true (by first | (with_reducible assumption) | assumption)
                                                    have q283 : x127_7 < (l0.length : Int) := of_decide_eq_true (by first | (with_reducible assumption) | assumption)
                                                    obtain ⟨ad283, A283_0, c283_0, e283, hx283_0, hl283_0, hi283_0⟩ := at_L1 HR0.out x127_7 p283 q283
                                                    cases e283
                                                    replace hx283_0 := (HB.out.cell (World.block_lt_of_cell? w _ hx283_0)).trans hx283_0
                                                    have HR283_0 := Aside0.mk hi283_0
                                                    have HC283_0 := Aside0.mk hl283_0
                                                    clear hi283_0 hl283_0
                                                    replace p283 := eq_true p283
                                                    replace q283 := eq_true q283
                                                    go_wp2
                                                    go_roundg k7
                                                    case measure => have := HJ4.out; have := HK2.out; have := HK3.out; have := HJ22.out; have := HJ31.out; have := HJ86.out; have := HK7.out; omega
                                                    case rel => exact ⟨(true), (wrap64 (x127_7 + 1)), (by first | rfl | (simp; done) | (simp [*]; done)), (by first | rfl | (simp; done) | (simp [*]; done)), H', ⟨by have := HJ4.out; have := HK2.out; have := HK3.out; have := HJ22.out; have := HJ31.out; have := HJ86.out; have := HK7.out; omega⟩, ⟨by (with_reducible repeat (first | apply Kd.R_alloc | apply Kd.R_drewN | apply Kd.R_drew)); exact HO_20.out⟩, ⟨by (with_reducible repeat (first | refine blk_drewN ?_ _ | refine blk_drew ?_ | refine blk_alloc ?_ _)); exact BK251.out⟩, ⟨by repeat (first | (with_reducible first | exact HI243.out | apply IsS70.alloc | apply IsS70.drewN | apply IsS70.drew | exact IsS70.far5 HI243.out ⟨_, BK251.out⟩ NB243_251.out) | exact HI243.out)⟩, ⟨by repeat (first | (with_reducible first | exact HB.out | apply below_alloc | apply pw_below_drewN | apply below_drew1 | refine below_set ?_ (IsS70.ge HI243.out) | refine below_set ?_ GE251.out) | exact HB.out)⟩⟩
                                                  · replace c97 := Bool.eq_false_iff.mpr c97
                                                    subst c97
                                                    have H1 : (ropewaylaw19_NetSpoils.l2 k7 l0 t279 ((strOfNums (rd_L1 l0 x127_7)).toList == (strOfNums t279).toList) l1 (l1.length : Int) x52_3 l0 (l0.length : Int) (wrap64 (x127_7 + 1)) t278) = some r := by rw [if_neg (show ¬ (false = true) by decide)] at H; exact H
                                                    clear H
                                                    have H := H1
                                                    clear H1
                                                    have H' := Aside0.mk H
                                                    clear H
                                                    have p283 : 0 ≤ (x127_7 : Int) := of_decide_eq_true (by first | (with_reducible assumption) | assumption)
                                                    have q283 : x127_7 < (l0.length : Int) := of_decide_eq_true (by first | (with_reducible assumption) | assumption)
                                                    obtain ⟨ad283, A283_0, c283_0, e283, hx283_0, hl283_0, hi283_0⟩ := at_L1 HR0.out x127_7 p283 q283
                                                    cases e283
                                                    replace hx283_0 := (HB.out.cell (World.block_lt_of_cell? w _ hx283_0)).trans hx283_0
                                                    have HR283_0 := Aside0.mk hi283_0
                                                    have HC283_0 := Aside0.mk hl283_0
                                                    clear hi283_0 hl283_0
                                                    replace p283 := eq_true p283
                                                    replace q283 := eq_true q283
                                                    have hcv98 := Kd.C_string (P := Try.prog) (A := A283_0) (c := c283_0) Try.underlying22 Try.underlying5 Try.underlying9 (Kd.C_below HR283_0.out HB.out)
                                                    have hcv99 := own_string (P := Try.prog) Try.underlying22 Try.underlying5 Try.underlying9 (Kd.own_of_R HO_20.out)
                                                    go_wp2
                                                    go_roundg k7
                                                    case measure => have := HJ4.out; have := HK2.out; have := HK3.out; have := HJ22.out; have := HJ31.out; have := HJ86.out; have := HK7.out; omega
                                                    case rel => exact ⟨(((strOfNums (rd_L1 l0 x127_7)).toList == (strOfNums t279).toList)), (wrap64 (x127_7 + 1)), (by first | rfl | (simp; done) | (simp [*]; done)), (by first | rfl | (simp; done) | (simp [*]; done)), H', ⟨by have := HJ4.out; have := HK2.out; have := HK3.out; have := HJ22.out; have := HJ31.out; have := HJ86.out; have := HK7.out; omega⟩, ⟨by (with_reducible repeat (first | apply Kd.R_alloc | apply Kd.R_drewN | apply Kd.R_drew)); exact HO_20.out⟩, ⟨by (with_reducible repeat (first | refine blk_drewN ?_ _ | refine blk_drew ?_ | refine blk_alloc ?_ _)); exact BK251.out⟩, ⟨by repeat (first | (with_reducible first | exact HI243.out | apply IsS70.alloc | apply IsS70.drewN | apply IsS70.drew | exact IsS70.far5 HI243.out ⟨_, BK251.out⟩ NB243_251.out) | exact HI243.out)⟩, ⟨by repeat (first | (with_reducible first | exact HB.out | apply below_alloc | apply pw_below_drewN | apply below_drew1 | refine below_set ?_ (IsS70.ge HI243.out) | refine below_set ?_ GE251.out) | exact HB.out)⟩⟩
                                                · rw [if_neg c96] at H
                                                  exact absurd H (by simp)
                                              · rw [if_neg c95] at H
                                                exact absurd H (by simp)
                                            · rw [if_neg c94] at H
                                              have c94b0 : decide (x127_7 < (l0.length : Int)) = false := decide_eq_false c94
                                              clear c94
                                              by_cases c100 : x22_7 = true
                                              · subst c100
                                                have H1 : (ropewaylaw19_NetSpoils.l1 k7 l0 l1 (l1.length : Int) (wrap64 (x52_3 + 1)) t278) = some r := by rw [if_pos rfl] at H; exact H
                                                clear H
                                                have H := H1
                                                clear H1
                                                have H' := Aside0.mk H
                                                clear H
                                                go_wp2
                                                go_roundg k7
                                                case measure => have := HJ4.out; have := HK2.out; have := HK3.out; have := HJ22.out; have := HJ31.out; have := HJ86.out; have := HK7.out; omega
                                                case rel => exact ⟨(wrap64 (x52_3 + 1)), (t278), (by first | rfl | (simp; done) | (simp [*]; done)), H', ⟨by have := HJ4.out; have := HK2.out; have := HK3.out; have := HJ22.out; have := HJ31.out; have := HJ86.out; have := HK7.out; omega⟩, ⟨by repeat (first | (with_reducible first | exact HI243.out | apply IsS70.alloc | apply IsS70.drewN | apply IsS70.drew | exact IsS70.far5 HI243.out ⟨_, BK251.out⟩ NB243_251.out) | exact HI243.out)⟩, ⟨by repeat (first | (with_reducible first | exact HB.out | apply below_alloc | apply pw_below_drewN | apply below_drew1 | refine below_set ?_ (IsS70.ge HI243.out) | refine below_set ?_ GE251.out) | exact HB.out)⟩⟩
                                              · replace c100 := Bool.eq_false_iff.mpr c100
                                                subst c100
                                                have H1 : (some false) = some r := by rw [if_neg (show ¬ (false = true) by decide)] at H; exact H
                                                clear H
                                                have H := H1
                                                clear H1
                                                obtain rfl := Option.some.inj H
                                                go_wp2
                                                go_ret
                                                exact ⟨by first | rfl | (simp [errW_none, errW_some] <;> rfl) | (simp [*, errW_none, errW_some] <;> rfl), by repeat (first | (with_reducible first | exact HB.out | apply below_alloc | apply pw_below_drewN | apply below_drew1 | refine below_set ?_ (IsS70.ge HI243.out) | refine below_set ?_ GE251.out) | exact HB.out)⟩
                                  · rw [if_neg c84] at H
                                    have c84b0 : (((rd_T52 l1 x52_3).f0) == 1) = false := beq_eq_false_iff_ne.mpr c84
                                    have c84b1 : (((rd_T52 l1 x52_3).f0) != 1) = true := bne_iff_ne.mpr c84
                                    have H' := Aside0.mk H
                                    clear H
                                    have hnb101 := NB251_243.out
                                    have hnc101 := NB243_251.out
                                    have hcz102_0 : wc.cell? ⟨gb251, 0, none⟩ = some (.int .i64 ((rd_T52 l1 x52_3).f0)) := (blk_cell BK251.out 0).trans rfl
                                    have hcz102_1 : wc.cell? ⟨gb251, 1, none⟩ = some (.int .i64 ((rd_T52 l1 x52_3).f1)) := (blk_cell BK251.out 1).trans rfl
                                    have hcz102_2 : wc.cell? ⟨gb251, 2, none⟩ = some (.int .i64 ((rd_T52 l1 x52_3).f2)) := (blk_cell BK251.out 2).trans rfl
                                    have hcz102_3 : wc.cell? ⟨gb251, 3, none⟩ = some (.int .u32 ((rd_T52 l1 x52_3).f3)) := (blk_cell BK251.out 3).trans rfl
                                    have hcz102_4 : wc.cell? ⟨gb251, 4, none⟩ = some (.slice A250_4 ((rd_T52 l1 x52_3).f4).length c250_4) := (blk_cell BK251.out 4).trans rfl
                                    have hfz102_0 := blk_frozen BK251.out 0
                                    have hfz102_1 := blk_frozen BK251.out 1
                                    have hfz102_2 := blk_frozen BK251.out 2
                                    have hfz102_3 := blk_frozen BK251.out 3
                                    have hfz102_4 := blk_frozen BK251.out 4
                                    go_wp2
                                    go_roundg kj31
                                    case measure => have := HJ4.out; have := HK2.out; have := HK3.out; have := HJ22.out; have := HJ31.out; omega
                                    case rel => exact ⟨(wrap64 (x52_3 + 1)), (x244000_31), (by first | rfl | (simp; done) | (simp [*]; done)), H', ⟨by have := HJ4.out; have := HK2.out; have := HK3.out; have := HJ22.out; have := HJ31.out; omega⟩, ⟨by repeat (first | (with_reducible first | exact HI243.out | apply IsS70.alloc | apply IsS70.drewN | apply IsS70.drew | exact IsS70.far5 HI243.out ⟨_, BK251.out⟩ NB243_251.out) | exact HI243.out)⟩, ⟨by repeat (first | (with_reducible first | exact HB.out | apply below_alloc | apply pw_below_drewN | apply below_drew1 | refine below_set ?_ (IsS70.ge HI243.out) | refine below_set ?_ GE251.out) | exact HB.out)⟩⟩
                        · rw [if_neg c22] at H
                          exact absurd H (by simp)
                      · rw [if_neg c21] at H
                        exact absurd H (by simp)
                    · rw [if_neg c20] at H
                      have c20b0 : decide (x52_3 < (l1.length : Int)) = false := decide_eq_false c20
                      clear c20
                      obtain rfl := Option.some.inj H
                      go_wp2
                      go_ret
                      exact ⟨by first | rfl | (simp [errW_none, errW_some] <;> rfl) | (simp [*, errW_none, errW_some] <;> rfl), by repeat (first | (with_reducible first | exact HB.out | apply below_alloc | apply pw_below_drewN | apply below_drew1 | refine below_set ?_ (IsS70.ge HI243.out)) | exact HB.out)⟩
  · replace c4 := Bool.eq_false_iff.mpr c4
    subst c4
    have H1 : (some false) = some r := by rw [if_neg (show ¬ (false = true) by decide)] at H; exact H
    clear H
    have H := H1
    clear H1
    obtain rfl := Option.some.inj H
    go_enter Try.func14, Try.ntmps14
    go_wp2_with (first | ((with_reducible refine gate_callee (f := 26) rfl ?_); refine goesL_ (some 25) rfl rfl Try.func26 (by kernel_rfl) rfl #[] rfl (by (try simp only [List.map_toArray, List.map_cons, List.map_nil]); first | done | rfl | (simp only [List.length_drop, List.length_take]; rfl)) ?_; (with_reducible refine (ropewaylaw19_netAlive.calls k  false _ A3.out).mono ?_); rintro e w103 ⟨rfl, hb⟩; refine ⟨_, rfl, ?_⟩; have n0_ := Aside0.mk (below_step (by repeat (first | (with_reducible first | exact HB.out | apply below_alloc | apply pw_below_drewN | apply below_drew1) | exact HB.out)) hb); clear HB; have HB := n0_; clear n0_; (try clear hb); (try clear hb2); (try clear hk); (try clear hi)))
    go_ret
    exact ⟨by first | rfl | (simp [errW_none, errW_some] <;> rfl) | (simp [*, errW_none, errW_some] <;> rfl), by repeat (first | (with_reducible first | exact HB.out | apply below_alloc | apply pw_below_drewN | apply below_drew1) | exact HB.out)⟩

end Go.Proofs.Ytjcpamclggbbdaa.PNgt
