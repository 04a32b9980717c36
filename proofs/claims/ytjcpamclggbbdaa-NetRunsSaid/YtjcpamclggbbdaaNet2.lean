/- slices.Delete at the net's items (after the library's own walk at []int): what stands behind goes left, the last places are cleared. -/
import Derived.Test.YtjcpamclggbbdaaNet1
import Derived.Deep.RegionLaw
import Derived.Deep.LoopGhost
import Derived.Lib.SliceRun
import Derived.Lib.Walk
import Derived.Shelf.RegionOpenPlain
namespace Go.Proofs.Ytjcpamclggbbdaa.PNgt
open Go.RowKit Go.Lib Go.Proofs.YtjcpamclggbbdaaW.PrintWords Go.Proofs.YtjcpamclggbbdaaW.PrintLast Go.Proofs.YtjcpamclggbbdaaW.PrintMore
set_option linter.unusedVariables false
set_option linter.unusedSimpArgs false
def zItem : Array Value := #[.slice none 0 0, .bool false]
theorem zero72 : ∀ w : World, (zeroValue 72).run Try.prog w = .ok (.agg zItem) w := by
  intro w
  obtain ⟨i, hi, hz⟩ : ∃ i, Try.prog.info? 72 = some i ∧ i.zero = some (.agg zItem) := ⟨_, rfl, rfl⟩
  simp [zeroValue, typeInfo, hi, hz]
theorem info72 : ∃ i, Try.prog.info? 72 = some i ∧ i.size = 2 := ⟨_, rfl, rfl⟩
def zs (n : Nat) : List Value := (Builtin.zeroCells zItem n).toList
theorem zs_length (n : Nat) : (zs n).length = n * 2 := by
  simp [zs, Builtin.zeroCells, zItem]
theorem zs_one (n : Nat) : ∀ u ∈ zs n, u.oneCell' = true := by
  intro u hu
  simp only [zs, Builtin.zeroCells] at hu
  simp at hu
  obtain ⟨k, hk, rfl⟩ := hu
  have : k % 2 = 0 ∨ k % 2 = 1 := by omega
  rcases this with h | h <;> simp [zItem, h] <;> rfl
theorem clear72 (w : World) (ty : TypeId) (b o n c : Nat) (hn : 0 < n) (hc : ∀ j, j < n * 2 → (w.cell? ⟨b, o + j, none⟩).isSome = true) (hf : ∀ j, j < n * 2 → w.frozen? ⟨b, o + j, none⟩ = false) :
    (Builtin.clear_ #[68] ty #[.slice (some ⟨b, o, none⟩) n c]).run Try.prog w = .ok (.tuple #[]) (w.setCells b o (zs n)) := by
  have hst := run_storeCells_cells (P := Try.prog) b o (zs n) 0 w (by rw [zs_length]; simpa using hc) (by rw [zs_length]; simpa using hf) (zs_one n)
  simp only [Nat.add_zero] at hst
  obtain ⟨m, rfl⟩ : ∃ m, n = m + 1 := ⟨n - 1, by omega⟩
  have hzc : (Builtin.zeroCells (Value.agg #[Value.slice none 0 0, Value.bool false]).cells (m + 1)).toList = zs (m + 1) := rfl
  simp [Builtin.clear_, run_underlying Try.underlying68, zero72, hzc, hst]
theorem cells_kept {w : World} {blk : Nat} {vs : List Value} {o : Nat} {cur : Array Value} (hb : w.heap[blk]? = some (.cells cur 72 (0, 0))) (h : o + vs.length ≤ cur.size) : ∃ cur', (w.setCells blk o vs).heap[blk]? = some (.cells cur' 72 (0, 0)) ∧ cur'.size = cur.size ∧ cur'.toList = cur.toList.take o ++ vs ++ cur.toList.drop (o + vs.length) := by
  obtain ⟨cur', h3, h4, h5⟩ := setCells_row vs o w cur hb h
  exact ⟨cur', h3, h4, h5⟩
set_option maxHeartbeats 8000000 in
set_option maxRecDepth 1000000 in
theorem netDelete (blk n cap i j : Nat) (cur : Array Value) (w : World) (hb : w.heap[blk]? = some (.cells cur 72 (0, 0))) (hij : i < j) (hj : j ≤ n) (hnc : n ≤ cap) (hm : cap ≤ 9223372036854775807) (hcs : cur.size = cap * 2) (hone : ∀ u ∈ cur.toList.take (n * 2), u.oneCell' = true) :
    Calls Try.prog 42 #[.slice (some ⟨blk, 0, none⟩) n cap, .int .i64 i, .int .i64 j] w fun e w' => e = .returned (.slice (some ⟨blk, 0, none⟩) (i + (n - j)) cap) ∧
      w' = (w.drew.setCells blk (0 + i * 2) ((cur.toList.take (n * 2)).drop (j * 2))).setCells blk ((i + (n - j)) * 2) (zs (n - (i + (n - j)))) := by
  have mixed : Try.prog.follows Departure.mixedOrders = true := by kernel_rfl
  obtain ⟨i0, hi0, hz1⟩ := info72
  have t68 := Try.underlying68
  obtain ⟨news, hnews⟩ : ∃ news, news = (cur.toList.take (n * 2)).drop (j * 2) := ⟨_, rfl⟩
  have hlen : news.length = (n - j) * 2 := by rw [hnews, List.length_drop, List.length_take, Array.length_toList, hcs]; omega
  have hget : ∀ t, t < (n - j) * 2 → news[t]? = cur[j * 2 + t]? := by
    intro t ht
    rw [hnews, List.getElem?_drop, List.getElem?_take, if_pos (by omega), Array.getElem?_toList]
  have hbd : w.drew.heap[blk]? = some (.cells cur 72 (0, 0)) := hb
  have hcell : ∀ k, w.drew.cell? ⟨blk, k, none⟩ = cur[k]? := fun k => cell_of_row _ _ k _ _ _ hbd
  obtain ⟨A, hA, hsrc⟩ : ∃ A : Addr, (if cap = j then some (⟨blk, 0, none⟩ : Addr) else some ⟨blk, j * 2, none⟩) = some A ∧ Hid (∀ t u, news[t]? = some u → w.drew.cell? (A.add t) = some u) := by
    by_cases h : cap = j
    · refine ⟨⟨blk, 0, none⟩, by simp [h], fun t u hu => ?_⟩
      have h0 : news.length = 0 := by rw [hlen]; omega
      rw [List.length_eq_zero_iff.1 h0] at hu
      simp at hu
    · refine ⟨⟨blk, j * 2, none⟩, by simp [h], fun t u hu => ?_⟩
      have ht : t < (n - j) * 2 := by
        have := (List.getElem?_eq_some_iff.1 hu).1
        rwa [hlen] at this
      rw [hget t ht] at hu
      rw [Addr.add_lit, hcell]
      exact hu
  have s1 : Hid (news.length = (n - j) * 2) := hlen
  have s2 : Hid (∀ u ∈ news, u.oneCell' = true) := by
    intro u hu
    rw [hnews] at hu
    exact hone u (List.mem_of_mem_drop hu)
  have s3 : Hid (∀ t, t < news.length → (w.drew.cell? ⟨blk, 0 + i * 2 + t, none⟩).isSome = true ∧ w.drew.frozen? ⟨blk, 0 + i * 2 + t, none⟩ = false) := by
    intro t ht
    rw [hlen] at ht
    refine ⟨?_, blk_frozen hbd _⟩
    rw [hcell, Array.getElem?_eq_getElem (by omega)]
    rfl
  obtain ⟨W1, hW1⟩ : ∃ W1, W1 = w.drew.setCells blk (0 + i * 2) news := ⟨_, rfl⟩
  obtain ⟨cur1, hb1, hs1, _⟩ := cells_kept (vs := news) (o := 0 + i * 2) hbd (by rw [hlen, hcs]; omega)
  rw [← hW1] at hb1
  have hcl : ∀ ty, (Builtin.clear_ #[68] ty #[.slice (some ⟨blk, (i + (n - j)) * 2, none⟩) (n - (i + (n - j))) (cap - (i + (n - j)))]).run Try.prog W1 = .ok (.tuple #[]) (W1.setCells blk ((i + (n - j)) * 2) (zs (n - (i + (n - j))))) :=
    fun ty => clear72 W1 ty blk ((i + (n - j)) * 2) _ _ (by omega) (fun t ht => by rw [cell_of_row _ _ _ _ _ _ hb1, Array.getElem?_eq_getElem (by omega)]; rfl) (fun t ht => blk_frozen hb1 _)
  have hW : Hid (W1 = w.drew.setCells blk (0 + i * 2) news) := hW1
  have hN : Hid (news = (cur.toList.take (n * 2)).drop (j * 2)) := hnews
  have hic : i ≤ cap := by omega
  have hjc : j ≤ cap := by omega
  have heq : i ≠ j := by omega
  rw [← hnews, ← hW1]
  clear hW1 hnews hget hlen hb1 hs1 hcell hbd hb hone hcs
  go_enter Try.func42, Try.ntmps42
  go_wp2_with fail
  go_region_law_o (refine step_append_room rfl (.tmp 22) (.tmp 25) 68 rfl 72 i0 2 t68 hi0 hz1 blk 0 i cap (by simp [Act.eval, Act.put]) A (n - j) (cap - j) news (by simp [Act.eval, Act.put]) s1.out hsrc.out s2.out (by omega) s3.out ?_; rw [← hW.out])
  go_wp2
  go_ret
  exact ⟨rfl, rfl⟩
end Go.Proofs.Ytjcpamclggbbdaa.PNgt
