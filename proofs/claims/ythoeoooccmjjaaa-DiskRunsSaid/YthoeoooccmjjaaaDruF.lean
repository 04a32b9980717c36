/- Printed by a program of ours (wip/tool/ppd.py, over the kit's printer, and wip/tool/dskfix.py): the walks of functions that use a disk. -/
import Derived.Test.YthoeoooccmjjaaaDru
import Derived.Test.YthoeoooccmjjaaaPDskx1
import Derived.Test.YthoeoooccmjjaaaPDskr
import Derived.Test.YthoeoooccmjjaaaPDskx2
import Derived.Test.YthoeoooccmjjaaaPDskx3
namespace Go.Proofs.Ythoeoooccmjjaaa.PDru
open Go.RowKit Go.Proofs.Ythoeoooccmjjaaa.PDsk Go.Proofs.YthoeoooccmjjaaaW.PrintWords Go.Proofs.YthoeoooccmjjaaaW.PrintLast Go.Proofs.YthoeoooccmjjaaaW.PrintMore
attribute [local go_sem] max2_int min2_int max_two min_two max_three min_three max_four min_four   -- for this text's walks alone
set_option linter.unusedVariables false
set_option linter.unusedSimpArgs false

/-! ### ropewaylaw08_DiskRuns: function 8 -/
mutual
def ropewaylaw08_DiskRuns.l0 : Nat → List (S34) → Int → Int → ByteArray → Int → Int → Int → Bool → List Int → Int → Int → Int → Bool → Option (Bool)
  | 0, _, _, _, _, _, _, _, _, _, _, _, _, _ => none
  | k + 1, x28, x29, x30, x210000, x210001, x210002, x210003, x210004, x218000, x218001, x218002, x218003, x218004 => if x30 < x29 then (if 0 ≤ x30 then (if x30 < (x28.length : Int) then (if ((rd_T34 x28 x30).f0) = 0 then ((some (([] : List Int) : List Int)).bind fun y220 => (if y220.length + ((rd_T34 x28 x30).f2).length < 140737488355328 then ((some (y220 ++ ((rd_T34 x28 x30).f2) : List Int)).bind fun y223 => ((disk_Disk_Append.f x210000 x210001 x210002 x210003 x210004 y223).bind fun bt226 => ((ropewayref08_Append.f k x218000 x218001 x218002 x218003 x218004 ((rd_T34 x28 x30).f2)).bind fun bt232 => (ropewaylaw08_DiskRuns.l1 k bt226.1 bt232.2.2.2.2.2 y223 x28 x29 x30 (y223.length : Int) 0 bt226.2.1 bt226.2.2.1 bt226.2.2.2.1 bt226.2.2.2.2.1 bt226.2.2.2.2.2 bt232.1 bt232.2.1 bt232.2.2.1 bt232.2.2.2.1 bt232.2.2.2.2.1)))) else (none))) else (if ((rd_T34 x28 x30).f0) = 1 then ((disk_Disk_Sync.f x210000 x210001 x210002 x210003 x210004).bind fun bt242 => ((ropewayref08_Sync.f x218000 x218001 x218002 x218003 x218004).bind fun bt247 => (ropewaylaw08_DiskRuns.j2 k 0 0 x28 x29 x30 bt242.1 bt242.2.1 bt242.2.2.1 bt242.2.2.2.1 bt242.2.2.2.2 bt247.1 bt247.2.1 bt247.2.2.1 bt247.2.2.2.1 bt247.2.2.2.2))) else (if ((rd_T34 x28 x30).f0) = 2 then ((disk_Disk_Crash.f x210000 x210001 x210002 x210003 x210004 ((rd_T34 x28 x30).f1)).bind fun bt254 => ((ropewayref08_Crash.f k x218000 x218001 x218002 x218003 x218004 ((rd_T34 x28 x30).f1)).bind fun bt259 => (ropewaylaw08_DiskRuns.j2 k 0 0 x28 x29 x30 bt254.1 bt254.2.1 bt254.2.2.1 bt254.2.2.2.1 bt254.2.2.2.2 bt259.1 bt259.2.1 bt259.2.2.1 bt259.2.2.2.1 bt259.2.2.2.2))) else (if ((rd_T34 x28 x30).f0) = 3 then ((disk_Disk_Limit.f x210000 x210001 x210002 x210003 x210004 ((rd_T34 x28 x30).f1)).bind fun bt266 => ((ropewayref08_Limit.f x218000 x218001 x218002 x218003 x218004 ((rd_T34 x28 x30).f1)).bind fun bt271 => (ropewaylaw08_DiskRuns.j2 k 0 0 x28 x29 x30 bt266.1 bt266.2.1 bt266.2.2.1 bt266.2.2.2.1 bt266.2.2.2.2 bt271.1 bt271.2.1 bt271.2.2.1 bt271.2.2.2.1 bt271.2.2.2.2))) else (if ((rd_T34 x28 x30).f0) = 4 then ((disk_Disk_Cut.f x210000 x210001 x210002 x210003 x210004 ((rd_T34 x28 x30).f1)).bind fun bt278 => ((ropewayref08_Cut.f k x218000 x218001 x218002 x218003 x218004 ((rd_T34 x28 x30).f1)).bind fun bt283 => (ropewaylaw08_DiskRuns.j2 k 0 0 x28 x29 x30 bt278.1 bt278.2.1 bt278.2.2.1 bt278.2.2.2.1 bt278.2.2.2.2 bt283.1 bt283.2.1 bt283.2.2.1 bt283.2.2.2.1 bt283.2.2.2.2))) else (if ((rd_T34 x28 x30).f0) = 5 then ((disk_Disk_Fuse.f x210000 x210001 x210002 x210003 x210004 ((rd_T34 x28 x30).f1)).bind fun bt290 => ((ropewayref08_Fuse.f x218000 x218001 x218002 x218003 x218004 ((rd_T34 x28 x30).f1)).bind fun bt295 => (ropewaylaw08_DiskRuns.j2 k 0 0 x28 x29 x30 bt290.1 bt290.2.1 bt290.2.2.1 bt290.2.2.2.1 bt290.2.2.2.2 bt295.1 bt295.2.1 bt295.2.2.1 bt295.2.2.2.1 bt295.2.2.2.2))) else (ropewaylaw08_DiskRuns.j2 k 0 0 x28 x29 x30 x210000 x210001 x210002 x210003 x210004 x218000 x218001 x218002 x218003 x218004))))))) else (none)) else (none)) else (some true)
def ropewaylaw08_DiskRuns.j2 : Nat → Int → Int → List (S34) → Int → Int → ByteArray → Int → Int → Int → Bool → List Int → Int → Int → Int → Bool → Option (Bool)
  | 0, _, _, _, _, _, _, _, _, _, _, _, _, _, _, _ => none
  | k + 1, x9, x10, x28, x29, x30, x210000, x210001, x210002, x210003, x210004, x218000, x218001, x218002, x218003, x218004 => if x9 = x10 then ((disk_Disk_Bytes.f x210000 x210001 x210002 x210003 x210004).bind fun bt302 => (if (strOfNums bt302.1).toList = (strOfNums x218000).toList then ((disk_Disk_Safe.f bt302.2.1 bt302.2.2.1 bt302.2.2.2.1 bt302.2.2.2.2.1 bt302.2.2.2.2.2).bind fun bt310 => (if bt310.1 = x218001 then ((disk_Disk_Off.f bt310.2.1 bt310.2.2.1 bt310.2.2.2.1 bt310.2.2.2.2.1 bt310.2.2.2.2.2).bind fun bt316 => (if (bt316.1 != x218004) = true then (some false) else (ropewaylaw08_DiskRuns.l0 k x28 x29 (wrap64 (x30 + 1)) bt316.2.1 bt316.2.2.1 bt316.2.2.2.1 bt316.2.2.2.2.1 bt316.2.2.2.2.2 x218000 x218001 x218002 x218003 x218004))) else (some false))) else (some false))) else (some false)
def ropewaylaw08_DiskRuns.l1 : Nat → Int → Int → List Int → List (S34) → Int → Int → Int → Int → ByteArray → Int → Int → Int → Bool → List Int → Int → Int → Int → Bool → Option (Bool)
  | 0, _, _, _, _, _, _, _, _, _, _, _, _, _, _, _, _, _, _ => none
  | k + 1, x9, x10, x11, x28, x29, x30, x53, x54, x210000, x210001, x210002, x210003, x210004, x218000, x218001, x218002, x218003, x218004 => if x54 < x53 then (if 0 ≤ x54 then (if x54 < (x11.length : Int) then (ropewaylaw08_DiskRuns.l1 k x9 x10 (x11.set (x54 : Int).toNat (((rd x11 x54) + 1) % 256)) x28 x29 x30 x53 (wrap64 (x54 + 1)) x210000 x210001 x210002 x210003 x210004 x218000 x218001 x218002 x218003 x218004) else (none)) else (none)) else (ropewaylaw08_DiskRuns.j2 k x9 x10 x28 x29 x30 x210000 x210001 x210002 x210003 x210004 x218000 x218001 x218002 x218003 x218004)
end
def ropewaylaw08_DiskRuns.f (k : Nat) (a0 : Int) (l1 : List (S34)) : Option (Bool) := (ropewaylaw08_diskAlive.f).bind fun t203 => (if t203 = true then ((disk_New.f a0).bind fun bt204 => ((ropewayref08_New.f a0).bind fun bt210 => (if (l1.length : Int) > 200 then (some true) else (ropewaylaw08_DiskRuns.l0 k l1 (l1.length : Int) 0 bt204.1 bt204.2.1 bt204.2.2.1 bt204.2.2.2.1 bt204.2.2.2.2 bt210.1 bt210.2.1 bt210.2.2.1 bt210.2.2.2.1 bt210.2.2.2.2)))) else (some false))
theorem ropewaylaw08_DiskRuns.mono_l : ∀ k, (∀ y0 y1 y2 y3 y4 y5 y6 y7 y8 y9 y10 y11 y12, LeO (ropewaylaw08_DiskRuns.l0 k y0 y1 y2 y3 y4 y5 y6 y7 y8 y9 y10 y11 y12) (ropewaylaw08_DiskRuns.l0 (k + 1) y0 y1 y2 y3 y4 y5 y6 y7 y8 y9 y10 y11 y12)) ∧ (∀ y0 y1 y2 y3 y4 y5 y6 y7 y8 y9 y10 y11 y12 y13 y14, LeO (ropewaylaw08_DiskRuns.j2 k y0 y1 y2 y3 y4 y5 y6 y7 y8 y9 y10 y11 y12 y13 y14) (ropewaylaw08_DiskRuns.j2 (k + 1) y0 y1 y2 y3 y4 y5 y6 y7 y8 y9 y10 y11 y12 y13 y14)) ∧ (∀ y0 y1 y2 y3 y4 y5 y6 y7 y8 y9 y10 y11 y12 y13 y14 y15 y16 y17, LeO (ropewaylaw08_DiskRuns.l1 k y0 y1 y2 y3 y4 y5 y6 y7 y8 y9 y10 y11 y12 y13 y14 y15 y16 y17) (ropewaylaw08_DiskRuns.l1 (k + 1) y0 y1 y2 y3 y4 y5 y6 y7 y8 y9 y10 y11 y12 y13 y14 y15 y16 y17))
  | 0 => ⟨fun _ _ _ _ _ _ _ _ _ _ _ _ _ r h => by simp [ropewaylaw08_DiskRuns.l0] at h, fun _ _ _ _ _ _ _ _ _ _ _ _ _ _ _ r h => by simp [ropewaylaw08_DiskRuns.j2] at h, fun _ _ _ _ _ _ _ _ _ _ _ _ _ _ _ _ _ _ r h => by simp [ropewaylaw08_DiskRuns.l1] at h⟩
  | k + 1 => by
    obtain ⟨ih0, ih1, ih2⟩ := ropewaylaw08_DiskRuns.mono_l k
    refine ⟨?_, ?_, ?_⟩
    · intro y0 y1 y2 y3 y4 y5 y6 y7 y8 y9 y10 y11 y12
      unfold ropewaylaw08_DiskRuns.l0
      repeat' first
      | (with_reducible exact ih0 _ _ _ _ _ _ _ _ _ _ _ _ _)
      | (with_reducible exact ih1 _ _ _ _ _ _ _ _ _ _ _ _ _ _ _)
      | (with_reducible exact ih2 _ _ _ _ _ _ _ _ _ _ _ _ _ _ _ _ _ _)
      | (with_reducible exact ropewayref08_Append.mono _ _ _ _ _ _ _)
      | (with_reducible exact ropewayref08_Crash.mono _ _ _ _ _ _ _)
      | (with_reducible exact ropewayref08_Cut.mono _ _ _ _ _ _ _)
      | (with_reducible exact LeO.refl _)
      | (with_reducible exact LeO.none _)
      | (with_reducible refine LeO.ite ?_ ?_)
      | (with_reducible refine LeO.bind ?_ (fun _ => ?_))
      | exact ih0 _ _ _ _ _ _ _ _ _ _ _ _ _
      | exact ih1 _ _ _ _ _ _ _ _ _ _ _ _ _ _ _
      | exact ih2 _ _ _ _ _ _ _ _ _ _ _ _ _ _ _ _ _ _
      | exact ropewayref08_Crash.mono _ _ _ _ _ _ _
      | exact ropewayref08_Cut.mono _ _ _ _ _ _ _
      | exact LeO.none _
      | refine LeO.ite ?_ ?_
      | refine LeO.bind ?_ (fun _ => ?_)
    · intro y0 y1 y2 y3 y4 y5 y6 y7 y8 y9 y10 y11 y12 y13 y14
      unfold ropewaylaw08_DiskRuns.j2
      repeat' first
      | (with_reducible exact ih0 _ _ _ _ _ _ _ _ _ _ _ _ _)
      | (with_reducible exact ih1 _ _ _ _ _ _ _ _ _ _ _ _ _ _ _)
      | (with_reducible exact ih2 _ _ _ _ _ _ _ _ _ _ _ _ _ _ _ _ _ _)
      | (with_reducible exact ropewayref08_Append.mono _ _ _ _ _ _ _)
      | (with_reducible exact ropewayref08_Crash.mono _ _ _ _ _ _ _)
      | (with_reducible exact ropewayref08_Cut.mono _ _ _ _ _ _ _)
      | (with_reducible exact LeO.refl _)
      | (with_reducible exact LeO.none _)
      | (with_reducible refine LeO.ite ?_ ?_)
      | (with_reducible refine LeO.bind ?_ (fun _ => ?_))
      | exact ih0 _ _ _ _ _ _ _ _ _ _ _ _ _
      | exact ih1 _ _ _ _ _ _ _ _ _ _ _ _ _ _ _
      | exact ih2 _ _ _ _ _ _ _ _ _ _ _ _ _ _ _ _ _ _
      | exact ropewayref08_Crash.mono _ _ _ _ _ _ _
      | exact ropewayref08_Cut.mono _ _ _ _ _ _ _
      | exact LeO.none _
      | refine LeO.ite ?_ ?_
      | refine LeO.bind ?_ (fun _ => ?_)
    · intro y0 y1 y2 y3 y4 y5 y6 y7 y8 y9 y10 y11 y12 y13 y14 y15 y16 y17
      unfold ropewaylaw08_DiskRuns.l1
      repeat' first
      | (with_reducible exact ih0 _ _ _ _ _ _ _ _ _ _ _ _ _)
      | (with_reducible exact ih1 _ _ _ _ _ _ _ _ _ _ _ _ _ _ _)
      | (with_reducible exact ih2 _ _ _ _ _ _ _ _ _ _ _ _ _ _ _ _ _ _)
      | (with_reducible exact ropewayref08_Append.mono _ _ _ _ _ _ _)
      | (with_reducible exact ropewayref08_Crash.mono _ _ _ _ _ _ _)
      | (with_reducible exact ropewayref08_Cut.mono _ _ _ _ _ _ _)
      | (with_reducible exact LeO.refl _)
      | (with_reducible exact LeO.none _)
      | (with_reducible refine LeO.ite ?_ ?_)
      | (with_reducible refine LeO.bind ?_ (fun _ => ?_))
      | exact ih0 _ _ _ _ _ _ _ _ _ _ _ _ _
      | exact ih1 _ _ _ _ _ _ _ _ _ _ _ _ _ _ _
      | exact ih2 _ _ _ _ _ _ _ _ _ _ _ _ _ _ _ _ _ _
      | exact ropewayref08_Crash.mono _ _ _ _ _ _ _
      | exact ropewayref08_Cut.mono _ _ _ _ _ _ _
      | exact LeO.none _
      | refine LeO.ite ?_ ?_
      | refine LeO.bind ?_ (fun _ => ?_)
theorem ropewaylaw08_DiskRuns.mono : ∀ a0 a1 k, LeO (ropewaylaw08_DiskRuns.f k a0 a1) (ropewaylaw08_DiskRuns.f (k + 1) a0 a1) := by
  intro a0 a1 k
  obtain ⟨ih0, ih1, ih2⟩ := ropewaylaw08_DiskRuns.mono_l k
  unfold ropewaylaw08_DiskRuns.f
  repeat' first
      | (with_reducible exact ih0 _ _ _ _ _ _ _ _ _ _ _ _ _)
      | (with_reducible exact ih1 _ _ _ _ _ _ _ _ _ _ _ _ _ _ _)
      | (with_reducible exact ih2 _ _ _ _ _ _ _ _ _ _ _ _ _ _ _ _ _ _)
      | (with_reducible exact ropewayref08_Append.mono _ _ _ _ _ _ _)
      | (with_reducible exact ropewayref08_Crash.mono _ _ _ _ _ _ _)
      | (with_reducible exact ropewayref08_Cut.mono _ _ _ _ _ _ _)
      | (with_reducible exact LeO.refl _)
      | (with_reducible exact LeO.none _)
      | (with_reducible refine LeO.ite ?_ ?_)
      | (with_reducible refine LeO.bind ?_ (fun _ => ?_))
      | exact ih0 _ _ _ _ _ _ _ _ _ _ _ _ _
      | exact ih1 _ _ _ _ _ _ _ _ _ _ _ _ _ _ _
      | exact ih2 _ _ _ _ _ _ _ _ _ _ _ _ _ _ _ _ _ _
      | exact ropewayref08_Crash.mono _ _ _ _ _ _ _
      | exact ropewayref08_Cut.mono _ _ _ _ _ _ _
      | exact LeO.none _
      | refine LeO.ite ?_ ?_
      | refine LeO.bind ?_ (fun _ => ?_)
end Go.Proofs.Ythoeoooccmjjaaa.PDru
