/- What a disk's functions answer, in plain words. -/
import Derived.Test.YthoeoooccmjjaaaArgs
import Derived.Test.YthoeoooccmjjaaaPDskx1
namespace Go.Proofs.Ythoeoooccmjjaaa.Pure
open Go.RowKit Go.Proofs.Ythoeoooccmjjaaa.PDsk Go.Proofs.Ythoeoooccmjjaaa.Args Go.Proofs.YthoeoooccmjjaaaW.PrintWords Go.Proofs.YthoeoooccmjjaaaW.PrintLast Go.Proofs.YthoeoooccmjjaaaW.PrintMore
theorem w64 {x : Int} (h0 : -9223372036854775808 ≤ x) (h1 : x < 9223372036854775808) : wrap64 x = x := by unfold wrap64; omega
theorem alive : ropewaylaw08_diskAlive.f = some true := by decide +kernel
section
variable {d : ByteArray} {s r f : Int} {l : List Int}
theorem app_off (hG : Gd d s r f) (hb : inB l) : disk_Disk_Append.f d s r f true l = some (82, d, s, r, f, true) := by
  unfold disk_Disk_Append.f
  rw [if_pos ⟨hG, hb⟩, if_pos rfl]
theorem app_full (hG : Gd d s r f) (hb : inB l) (h : mx 0 (r - (d.size : Int)) < (l.length : Int)) : disk_Disk_Append.f d s r f false l = some (81, d, s, r, f, false) := by
  unfold disk_Disk_Append.f
  rw [if_pos ⟨hG, hb⟩, if_neg (by simp), if_pos h]
theorem app_free (hG : Gd d s r (-1)) (hb : inB l) (h : (l.length : Int) ≤ mx 0 (r - (d.size : Int))) : disk_Disk_Append.f d s r (-1) false l = some (0, d ++ strOfNums l, s, r, -1, false) := by
  unfold disk_Disk_Append.f
  rw [if_pos ⟨hG, hb⟩, if_neg (by simp), if_neg (by omega), if_pos rfl]
theorem app_less (hG : Gd d s r f) (hb : inB l) (h : (l.length : Int) ≤ mx 0 (r - (d.size : Int))) (hf : f ≠ -1) (h2 : (l.length : Int) ≤ f) : disk_Disk_Append.f d s r f false l = some (0, d ++ strOfNums l, s, r, f - l.length, false) := by
  unfold disk_Disk_Append.f
  rw [if_pos ⟨hG, hb⟩, if_neg (by simp), if_neg (by omega), if_neg hf, if_pos h2]
theorem app_blow (hG : Gd d s r f) (hb : inB l) (h : (l.length : Int) ≤ mx 0 (r - (d.size : Int))) (hf : f ≠ -1) (h2 : f < (l.length : Int)) : disk_Disk_Append.f d s r f false l = some (82, d ++ strOfNums (l.take f.toNat), s, r, f, true) := by
  unfold disk_Disk_Append.f
  rw [if_pos ⟨hG, hb⟩, if_neg (by simp), if_neg (by omega), if_neg hf, if_neg (by omega)]
end
theorem size_app (d : ByteArray) (l : List Int) : (d ++ strOfNums l).size = d.size + l.length := by rw [ByteArray.size_append, strOfNums_size]
theorem rd_mem {ls : List (List Int)} {i : Int} (h0 : 0 ≤ i) (h1 : i < ls.length) : rd_L2 ls i ∈ ls := by
  unfold rd_L2
  have : i.toNat < ls.length := by omega
  rw [List.getD_eq_getElem?_getD, List.getElem?_eq_getElem this]
  simp
theorem rdT_mem {ls : List S34} {i : Int} (h0 : 0 ≤ i) (h1 : i < ls.length) : rd_T34 ls i ∈ ls := by
  unfold rd_T34
  have : i.toNat < ls.length := by omega
  rw [List.getD_eq_getElem?_getD, List.getElem?_eq_getElem this]
  simp
theorem fuse_eq (d : ByteArray) (s r f : Int) (o : Bool) (n : Int) : disk_Disk_Fuse.f d s r f o n = some (d, s, r, mx (-1) n, o) := rfl
theorem new_eq (n : Int) : disk_New.f n = some ((⟨#[]⟩ : ByteArray), 0, mx 0 (mn n 60000), -1, false) := rfl
theorem bytes_eq {d : ByteArray} (s r f : Int) (o : Bool) (h : d.size ≤ 60000) : disk_Disk_Bytes.f d s r f o = some (nb d, d, s, r, f, o) := by unfold disk_Disk_Bytes.f; rw [if_pos h]
theorem safe_eq (d : ByteArray) (s r f : Int) (o : Bool) : disk_Disk_Safe.f d s r f o = some (s, d, s, r, f, o) := rfl
theorem off_eq (d : ByteArray) (s r f : Int) (o : Bool) : disk_Disk_Off.f d s r f o = some (o, d, s, r, f, o) := rfl
end Go.Proofs.Ythoeoooccmjjaaa.Pure
