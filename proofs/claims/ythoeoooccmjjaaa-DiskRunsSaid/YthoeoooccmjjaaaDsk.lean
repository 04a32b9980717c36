/- The disk as a state: its bytes, how many are safe, the room, the fuse, off; and what each of its functions does with it. -/
import Derived.Test.YthoeoooccmjjaaaPDskx0
import Derived.Test.YthoeoooccmjjaaaDisk3
import Derived.Lib.SlBytesConst
namespace Go.Proofs.Ythoeoooccmjjaaa.PDsk
open Go.RowKit Go.Proofs.YthoeoooccmjjaaaW.PrintWords Go.Proofs.YthoeoooccmjjaaaW.PrintLast Go.Proofs.YthoeoooccmjjaaaW.PrintMore
set_option linter.unusedVariables false
set_option linter.unusedSimpArgs false
/-- The numbers of a text's bytes. -/
def nb (b : ByteArray) : List Int := b.data.toList.map fun x => (x.toNat : Int)
theorem nb_length (b : ByteArray) : (nb b).length = b.size := by
  unfold nb
  rw [List.length_map, Array.length_toList]
  rfl
theorem str_nb (b : ByteArray) : strOfNums (nb b) = b := by
  apply ByteArray.ext
  apply Array.toList_inj.1
  rw [strOfNums_data]
  simp [nb, List.map_map, Function.comp_def]
def inB (l : List Int) : Prop := ∀ x ∈ l, 0 ≤ x ∧ x < 256
instance (l : List Int) : Decidable (inB l) := by unfold inB; infer_instance
theorem nb_in (b : ByteArray) : inB (nb b) := by
  intro x hx
  simp only [nb, List.mem_map] at hx
  obtain ⟨y, _, rfl⟩ := hx
  have := y.toNat_lt
  omega
theorem nb_str {l : List Int} (h : inB l) : nb (strOfNums l) = l := by
  unfold nb
  rw [strOfNums_data, List.map_map]
  conv => rhs; rw [← List.map_id l]
  refine List.map_congr_left fun x hx => ?_
  have := h x hx
  simp only [Function.comp, id, UInt8.toNat_ofNat']
  omega
theorem inB_take {l : List Int} (h : inB l) (n : Nat) : inB (l.take n) := fun x hx => h x (List.mem_of_mem_take hx)
theorem nb_app (b : ByteArray) (l : List Int) (h : inB l) : nb (b ++ strOfNums l) = nb b ++ l := by
  conv => rhs; rw [← nb_str h]
  simp [nb]
/-- What is known of every disk. -/
def Gd (d : ByteArray) (s r f : Int) : Prop := d.size ≤ 60000 ∧ 0 ≤ s ∧ s ≤ d.size ∧ 0 ≤ r ∧ r ≤ 60000 ∧ -1 ≤ f ∧ f ≤ 9223372036854775807
instance (d : ByteArray) (s r f : Int) : Decidable (Gd d s r f) := by unfold Gd; infer_instance
/-- A state of type 49 at block g of W, its bytes in a row of its own. -/
def IsN (N : Nat → Prop) (w0 W : World) (g : Nat) (f0 : ByteArray) (f1 : Int) (f2 : Int) (f3 : Int) (f4 : Bool) : Prop :=
  ∃ A c, Dk.At W g (.slice A (nb f0).length c) f1 f2 f3 f4 ∧ Kd.R (Kd.int .u8) 5 W w0.heap.size N (.slice A (nb f0).length c) (nb f0) ∧ w0.heap.size ≤ g
def IsS49 (w0 W : World) (g : Nat) (f0 : ByteArray) (f1 : Int) (f2 : Int) (f3 : Int) (f4 : Bool) : Prop := IsN (fun _ => True) w0 W g f0 f1 f2 f3 f4
section
variable {w0 W W1 : World} {g : Nat} {f0 : ByteArray} {f1 f2 f3 : Int} {f4 : Bool} {N : Nat → Prop}
theorem IsN.any (h : IsN N w0 W g f0 f1 f2 f3 f4) : IsS49 w0 W g f0 f1 f2 f3 f4 := by
  obtain ⟨A, c, h1, h2, h3⟩ := h
  exact ⟨A, c, h1, Kd.R_mono h2 (fun _ _ => trivial), h3⟩
theorem IsN.below (h : IsN N w0 W g f0 f1 f2 f3 f4) (hb : Below W.heap.size W W1) : IsN N w0 W1 g f0 f1 f2 f3 f4 := by
  obtain ⟨A, c, h1, h2, h3⟩ := h
  exact ⟨A, c, Dk.At.below h1 hb, Kd.R_below h2 hb, h3⟩
theorem IsS49.below (h : IsS49 w0 W g f0 f1 f2 f3 f4) (hb : Below W.heap.size W W1) : IsS49 w0 W1 g f0 f1 f2 f3 f4 := IsN.below h hb
theorem IsS49.alloc (h : IsS49 w0 W g f0 f1 f2 f3 f4) (o : Obj) : IsS49 w0 (W.alloc o) g f0 f1 f2 f3 f4 := h.below (below_alloc (Below.refl _ _) o)
theorem IsS49.drew (h : IsS49 w0 W g f0 f1 f2 f3 f4) : IsS49 w0 W.drew g f0 f1 f2 f3 f4 := by
  obtain ⟨A, c, h1, h2, h3⟩ := h
  exact ⟨A, c, h1, Kd.R_drew h2, h3⟩
theorem IsS49.drewN (h : IsS49 w0 W g f0 f1 f2 f3 f4) (m : Nat) : IsS49 w0 (W.drewN m) g f0 f1 f2 f3 f4 := by
  obtain ⟨A, c, h1, h2, h3⟩ := h
  exact ⟨A, c, h1, Kd.R_drewN h2 m, h3⟩
theorem IsS49.at_ {m : Nat} (hq : W.drewN m = W1) (h : IsS49 w0 W g f0 f1 f2 f3 f4) : IsS49 w0 W1 g f0 f1 f2 f3 f4 := by subst hq; exact IsS49.drewN h m
theorem IsS49.lt (h : IsS49 w0 W g f0 f1 f2 f3 f4) : g < W.heap.size := by
  obtain ⟨A, c, h1, h2, h3⟩ := h
  exact blk_lt h1
theorem IsS49.ge (h : IsS49 w0 W g f0 f1 f2 f3 f4) : w0.heap.size ≤ g := by
  obtain ⟨A, c, h1, h2, h3⟩ := h
  exact h3
theorem IsS49.apart {α : Type} {d : Kd α} {e base : Nat} {ok : Nat → Prop} {v : Value} {xs : List α} (h : IsS49 w0 W g f0 f1 f2 f3 f4) (ho : d.R e W base ok v xs) (ht : ∀ q, q ∈ e :: d.E → q ≠ 49) : d.R e W base (fun k => ok k ∧ k ≠ g) v xs := by
  obtain ⟨A, c, h1, h2, h3⟩ := h
  exact Kd.R_types ho h1 ht
theorem IsS49.own_ne {α : Type} {d : Kd α} {e base : Nat} {ok : Nat → Prop} {v : Value} {xs : List α} (h : IsS49 w0 W g f0 f1 f2 f3 f4) (ho : d.R e W base ok v xs) (ht : e ≠ 49) : some g ≠ v.ownBlock := by
  obtain ⟨A, c, h1, h2, h3⟩ := h
  exact Kd.R_ne ho h1 ht
theorem IsS49.ne_blk {a : Nat} {cs : Array Value} {t : TypeId} {fr : Nat × Nat} (h : IsS49 w0 W g f0 f1 f2 f3 f4) (hb2 : W.heap[a]? = some (.cells cs t fr)) (ht : t ≠ 49) : g ≠ a := by
  obtain ⟨A, c, hb, h2, h3⟩ := h
  rintro rfl
  unfold Dk.At at hb
  rw [hb] at hb2
  injection hb2 with hb2
  injection hb2 with _ ht2
  exact ht ht2.symm
/-- A row that was made since: the state's own row is another. -/
theorem IsS49.newer {u : Value} {ys : List Int} {ok : Nat → Prop} (h : IsS49 w0 W g f0 f1 f2 f3 f4) (ho : Kd.R (Kd.int .u8) 5 W1 W.heap.size ok u ys) (hb : Below W.heap.size W W1) : ∃ N : Nat, IsN (fun k => k < N) w0 W1 g f0 f1 f2 f3 f4 ∧ ∀ k, u.ownBlock = some k → N ≤ k := by
  obtain ⟨A, c, h1, h2, h3⟩ := h
  exact ⟨W.heap.size, IsN.below ⟨A, c, h1, Kd.R_mono (Kd.R_bound h2) (fun k hk => hk.2.2.1), h3⟩ hb, Kd.R_base ho⟩
theorem IsS49.grown2 {u : Value} (h : ∃ N : Nat, IsN (fun k => k < N) w0 W g f0 f1 f2 f3 f4 ∧ ∀ k, u.ownBlock = some k → N ≤ k) (hg : W.grownBy W1 u.ownBlock) (hne : some g ≠ u.ownBlock) : IsS49 w0 W1 g f0 f1 f2 f3 f4 := by
  obtain ⟨N, ⟨A, c, h1, h2, h3⟩, hN⟩ := h
  exact ⟨A, c, Dk.At.grown h1 hg hne, Kd.R_mono (Kd.R_grown h2 hg (fun k hk e => by have := hN k e.symm; omega)) (fun _ _ => trivial), h3⟩
theorem IsS49.set_1 (h : IsS49 w0 W g f0 f1 f2 f3 f4) (x : Int) : IsS49 w0 (W.setCell ⟨g, 1, none⟩ (.int .i64 x)) g f0 x f2 f3 f4 := by
  obtain ⟨A, c, h1, h2, h3⟩ := h
  exact ⟨A, c, Dk.At.set1 h1 x, Dk.R_setD h1 h2, h3⟩
theorem IsS49.set_2 (h : IsS49 w0 W g f0 f1 f2 f3 f4) (x : Int) : IsS49 w0 (W.setCell ⟨g, 2, none⟩ (.int .i64 x)) g f0 f1 x f3 f4 := by
  obtain ⟨A, c, h1, h2, h3⟩ := h
  exact ⟨A, c, Dk.At.set2 h1 x, Dk.R_setD h1 h2, h3⟩
theorem IsS49.set_3 (h : IsS49 w0 W g f0 f1 f2 f3 f4) (x : Int) : IsS49 w0 (W.setCell ⟨g, 3, none⟩ (.int .i64 x)) g f0 f1 f2 x f4 := by
  obtain ⟨A, c, h1, h2, h3⟩ := h
  exact ⟨A, c, Dk.At.set3 h1 x, Dk.R_setD h1 h2, h3⟩
theorem IsS49.set_4 (h : IsS49 w0 W g f0 f1 f2 f3 f4) (x : Bool) : IsS49 w0 (W.setCell ⟨g, 4, none⟩ (.bool x)) g f0 f1 f2 f3 x := by
  obtain ⟨A, c, h1, h2, h3⟩ := h
  exact ⟨A, c, Dk.At.set4 h1 x, Dk.R_setD h1 h2, h3⟩
end
/-- A store into a block of type 34. -/
theorem IsS49.far34 {w0 W : World} {g b j : Nat} {f0 : ByteArray} {f1 f2 f3 : Int} {f4 : Bool} (h : IsS49 w0 W g f0 f1 f2 f3 f4) (hb : ∃ cs, W.heap[b]? = some (.cells cs 34 (0, 0))) (hne : g ≠ b) (u : Value) : IsS49 w0 (W.setCell ⟨b, j, none⟩ u) g f0 f1 f2 f3 f4 ∧ ∃ cs, (W.setCell ⟨b, j, none⟩ u).heap[b]? = some (.cells cs 34 (0, 0)) := by
  obtain ⟨A, c, h1, h2, h3⟩ := h
  obtain ⟨cs, hb⟩ := hb
  refine ⟨⟨A, c, ?_, ?_, h3⟩, ⟨_, blk_set hb j u⟩⟩
  · exact blk_far (p := ⟨b, j, none⟩) h1 hne u
  · exact Kd.R_set h2 hb (by intro q hq; simp [Kd.int, Kd.scalar] at hq; omega) j u
theorem IsS49.far3 {w0 W : World} {g b : Nat} {f0 : ByteArray} {f1 f2 f3 : Int} {f4 : Bool} {x y z : Value} (h : IsS49 w0 W g f0 f1 f2 f3 f4) (hb : ∃ cs, W.heap[b]? = some (.cells cs 34 (0, 0))) (hne : g ≠ b) : IsS49 w0 (((W.setCell ⟨b, 0, none⟩ x).setCell ⟨b, 1, none⟩ y).setCell ⟨b, 2, none⟩ z) g f0 f1 f2 f3 f4 := by
  obtain ⟨h1, hb1⟩ := IsS49.far34 (j := 0) h hb hne x
  obtain ⟨h2, hb2⟩ := IsS49.far34 (j := 1) h1 hb1 hne y
  exact (IsS49.far34 (j := 2) h2 hb2 hne z).1
/-- What an Append keeps: every block that is not the state's nor one of bytes. -/
def KeepT (w w' : World) (g : Nat) : Prop := w.heap.size ≤ w'.heap.size ∧ ∀ (i : Nat) (cs : Array Value) (t : TypeId) (fr : Nat × Nat), i ≠ g → t ≠ 5 → w.heap[i]? = some (.cells cs t fr) → w'.heap[i]? = w.heap[i]?
theorem KeepT.refl (w : World) (g : Nat) : KeepT w w g := ⟨Nat.le_refl _, fun _ _ _ _ _ _ _ => rfl⟩
theorem KeepT.blk {w w1 : World} {g g' : Nat} {o : Obj} (h : KeepT w w1 g) (hb : w.heap[g']? = some o) (hg : g' ≠ g) (hr : some g' ≠ (none : Option Nat)) (ht : ∃ cs t fr, o = .cells cs t fr ∧ t ≠ 5 := by exact ⟨_, _, _, rfl, by decide⟩) : w1.heap[g']? = some o := by
  obtain ⟨cs, t, fr, rfl, ht⟩ := ht
  exact (h.2 g' cs t fr hg ht hb).trans hb
theorem KeepT.of_kept {w w' : World} {g base n c : Nat} {A : Option Addr} {xs : List Int} {ok : Nat → Prop} (hk : Kept w w' (fun k => k = g ∨ some k = (.slice A n c : Value).ownBlock)) (hR : Kd.R (Kd.int .u8) 5 w base ok (.slice A n c) xs) : KeepT w w' g := by
  refine ⟨hk.1, fun i cs t fr hi ht hb => hk.2 i (blk_lt hb) ?_⟩
  rintro (h | h)
  · exact hi h
  · obtain ⟨cells, hc⟩ := Kd.R_typed hR i h.symm
    rw [hc] at hb
    injection hb with hb
    injection hb with _ hb
    exact ht hb.symm
theorem C_of_block {w : World} {g : Nat} {xs : List Int} {e : TypeId} {fr : Nat × Nat} (h : w.heap[g]? = some (.cells (xs.map fun x => Value.int .u8 x).toArray e fr)) (hn : xs.length ≤ 9223372036854775807) :
    Kd.C (Kd.int .u8) w (some ⟨g, 0, none⟩) xs.length xs := by
  refine Kd.C_of_reads (d := (0 : Int)) (h1 := fun _ => rfl) ⟨rfl, hn, fun _ => ⟨_, rfl, fun j hj => ?_⟩⟩
  have e1 : (⟨g, 0, none⟩ : Addr).add j = ⟨g, j, none⟩ := by unfold Addr.add; split <;> simp_all
  rw [e1]
  simp [World.cell?, h, hj]
/-- A row of constants, where it was laid. -/
theorem C_of_new {w : World} {xs : List Int} {e : TypeId} {fr : Nat × Nat} (h : inB xs) (hn : xs.length ≤ 9223372036854775807 := by decide) :
    Kd.C (Kd.int .u8) (w.alloc (.cells (xs.map fun x => Value.int .u8 x).toArray e fr)) (some ⟨w.heap.size, 0, none⟩) xs.length xs := C_of_block (heap_alloc_new _ _) hn
theorem far_new {w : World} {g n : Nat} (h : g < w.heap.size) : ∀ ad, some (⟨w.heap.size, 0, none⟩ : Addr) = some ad → 0 < n → ad.block ≠ g := by
  rintro ad ⟨⟩ _
  exact Nat.ne_of_gt h
/-! ### Limit, New, Safe, Off, Fuse, Sync -/
def disk_Disk_Limit.f (s0_0 : ByteArray) (s0_1 : Int) (s0_2 : Int) (s0_3 : Int) (s0_4 : Bool) (a1 : Int) : Option (ByteArray × Int × Int × Int × Bool) := some (s0_0, s0_1, mx 0 (mn a1 60000), s0_3, s0_4)
theorem disk_Disk_Limit.calls (g : Nat) (s0_0 : ByteArray) (s0_1 : Int) (s0_2 : Int) (s0_3 : Int) (s0_4 : Bool) (a1 : Int) (r1 : ByteArray) (r2 : Int) (r3 : Int) (r4 : Int) (r5 : Bool) (w0 w : World) (hI : IsS49 w0 w g s0_0 s0_1 s0_2 s0_3 s0_4) (hB : Below w0.heap.size w0 w) (h : disk_Disk_Limit.f s0_0 s0_1 s0_2 s0_3 s0_4 a1 = some (r1, r2, r3, r4, r5)) :
    Calls Try.prog 23 #[.pointer (some ⟨g, 0, none⟩), .int .i64 a1] w fun e w' => e = .returned (.tuple #[]) ∧ IsS49 w0 w' g r1 r2 r3 r4 r5 ∧ Below w0.heap.size w0 w' ∧ KeepBut w w' g none := by
  simp only [disk_Disk_Limit.f, Option.some.injEq, Prod.mk.injEq] at h
  obtain ⟨rfl, rfl, rfl, rfl, rfl⟩ := h
  obtain ⟨A, c, h1, h2, h3⟩ := id hI
  refine (Dk.limit g _ _ _ _ a1 _ w h1).mono ?_
  rintro e w' ⟨rfl, rfl⟩
  exact ⟨rfl, IsS49.set_2 hI _, hB.setCell (p := ⟨g, 2, none⟩) h3 _, KeepBut.set_ (KeepBut.refl w g none) 2 _⟩
def disk_New.f (a0 : Int) : Option (ByteArray × Int × Int × Int × Bool) := some ((⟨#[]⟩ : ByteArray), 0, mx 0 (mn a0 60000), (-1), false)
theorem disk_New.calls (a0 : Int) (r1 : ByteArray) (r2 : Int) (r3 : Int) (r4 : Int) (r5 : Bool) (w0 w : World) (hB : Below w0.heap.size w0 w) (h : disk_New.f a0 = some (r1, r2, r3, r4, r5)) :
    Calls Try.prog 10 #[.int .i64 a0] w fun e w' => ∃ g_ : Nat, e = .returned (.pointer (some ⟨g_, 0, none⟩)) ∧ IsS49 w0 w' g_ r1 r2 r3 r4 r5 ∧ Below w0.heap.size w0 w' ∧ Below w.heap.size w w' := by
  simp only [disk_New.f, Option.some.injEq, Prod.mk.injEq] at h
  obtain ⟨rfl, rfl, rfl, rfl, rfl⟩ := h
  refine (Dk.new a0 w).mono ?_
  rintro e w' ⟨rfl, rfl⟩
  exact ⟨_, rfl, ⟨none, 0, blk_new w _, Kd.R_nil _ _ _ _ _, hB.size⟩, below_alloc hB _, below_alloc (Below.refl _ _) _⟩
def disk_Disk_Safe.f (s0_0 : ByteArray) (s0_1 : Int) (s0_2 : Int) (s0_3 : Int) (s0_4 : Bool) : Option (Int × ByteArray × Int × Int × Int × Bool) := some (s0_1, s0_0, s0_1, s0_2, s0_3, s0_4)
theorem disk_Disk_Safe.calls (g : Nat) (s0_0 : ByteArray) (s0_1 : Int) (s0_2 : Int) (s0_3 : Int) (s0_4 : Bool) (r1 : Int) (r2 : ByteArray) (r3 : Int) (r4 : Int) (r5 : Int) (r6 : Bool) (w0 w : World) (hI : IsS49 w0 w g s0_0 s0_1 s0_2 s0_3 s0_4) (hB : Below w0.heap.size w0 w) (h : disk_Disk_Safe.f s0_0 s0_1 s0_2 s0_3 s0_4 = some (r1, r2, r3, r4, r5, r6)) :
    Calls Try.prog 13 #[.pointer (some ⟨g, 0, none⟩)] w fun e w' => e = .returned (.int .i64 r1) ∧ IsS49 w0 w' g r2 r3 r4 r5 r6 ∧ Below w0.heap.size w0 w' ∧ KeepBut w w' g none := by
  simp only [disk_Disk_Safe.f, Option.some.injEq, Prod.mk.injEq] at h
  obtain ⟨rfl, rfl, rfl, rfl, rfl, rfl⟩ := h
  obtain ⟨A, c, h1, h2, h3⟩ := id hI
  refine (Dk.safe g _ _ _ _ _ w h1).mono ?_
  rintro e w' ⟨rfl, rfl⟩
  exact ⟨rfl, hI, hB, KeepBut.refl _ _ _⟩
def disk_Disk_Off.f (s0_0 : ByteArray) (s0_1 : Int) (s0_2 : Int) (s0_3 : Int) (s0_4 : Bool) : Option (Bool × ByteArray × Int × Int × Int × Bool) := some (s0_4, s0_0, s0_1, s0_2, s0_3, s0_4)
theorem disk_Disk_Off.calls (g : Nat) (s0_0 : ByteArray) (s0_1 : Int) (s0_2 : Int) (s0_3 : Int) (s0_4 : Bool) (r1 : Bool) (r2 : ByteArray) (r3 : Int) (r4 : Int) (r5 : Int) (r6 : Bool) (w0 w : World) (hI : IsS49 w0 w g s0_0 s0_1 s0_2 s0_3 s0_4) (hB : Below w0.heap.size w0 w) (h : disk_Disk_Off.f s0_0 s0_1 s0_2 s0_3 s0_4 = some (r1, r2, r3, r4, r5, r6)) :
    Calls Try.prog 14 #[.pointer (some ⟨g, 0, none⟩)] w fun e w' => e = .returned (.bool r1) ∧ IsS49 w0 w' g r2 r3 r4 r5 r6 ∧ Below w0.heap.size w0 w' ∧ KeepBut w w' g none := by
  simp only [disk_Disk_Off.f, Option.some.injEq, Prod.mk.injEq] at h
  obtain ⟨rfl, rfl, rfl, rfl, rfl, rfl⟩ := h
  obtain ⟨A, c, h1, h2, h3⟩ := id hI
  refine (Dk.off g _ _ _ _ _ w h1).mono ?_
  rintro e w' ⟨rfl, rfl⟩
  exact ⟨rfl, hI, hB, KeepBut.refl _ _ _⟩
def disk_Disk_Fuse.f (s0_0 : ByteArray) (s0_1 : Int) (s0_2 : Int) (s0_3 : Int) (s0_4 : Bool) (a1 : Int) : Option (ByteArray × Int × Int × Int × Bool) := some (s0_0, s0_1, s0_2, mx (-1) a1, s0_4)
theorem disk_Disk_Fuse.calls (g : Nat) (s0_0 : ByteArray) (s0_1 : Int) (s0_2 : Int) (s0_3 : Int) (s0_4 : Bool) (a1 : Int) (r1 : ByteArray) (r2 : Int) (r3 : Int) (r4 : Int) (r5 : Bool) (w0 w : World) (hI : IsS49 w0 w g s0_0 s0_1 s0_2 s0_3 s0_4) (hB : Below w0.heap.size w0 w) (h : disk_Disk_Fuse.f s0_0 s0_1 s0_2 s0_3 s0_4 a1 = some (r1, r2, r3, r4, r5)) :
    Calls Try.prog 15 #[.pointer (some ⟨g, 0, none⟩), .int .i64 a1] w fun e w' => e = .returned (.tuple #[]) ∧ IsS49 w0 w' g r1 r2 r3 r4 r5 ∧ Below w0.heap.size w0 w' ∧ KeepBut w w' g none := by
  simp only [disk_Disk_Fuse.f, Option.some.injEq, Prod.mk.injEq] at h
  obtain ⟨rfl, rfl, rfl, rfl, rfl⟩ := h
  obtain ⟨A, c, h1, h2, h3⟩ := id hI
  refine (Dk.fuse g _ _ _ _ a1 _ w h1).mono ?_
  rintro e w' ⟨rfl, rfl⟩
  exact ⟨rfl, IsS49.set_3 hI _, hB.setCell (p := ⟨g, 3, none⟩) h3 _, KeepBut.set_ (KeepBut.refl w g none) 3 _⟩
def disk_Disk_Sync.f (s0_0 : ByteArray) (s0_1 : Int) (s0_2 : Int) (s0_3 : Int) (s0_4 : Bool) : Option (ByteArray × Int × Int × Int × Bool) := if s0_4 = true then (some (s0_0, s0_1, s0_2, s0_3, s0_4)) else (some (s0_0, (s0_0.size : Int), s0_2, s0_3, s0_4))
theorem disk_Disk_Sync.calls (g : Nat) (s0_0 : ByteArray) (s0_1 : Int) (s0_2 : Int) (s0_3 : Int) (s0_4 : Bool) (r1 : ByteArray) (r2 : Int) (r3 : Int) (r4 : Int) (r5 : Bool) (w0 w : World) (hI : IsS49 w0 w g s0_0 s0_1 s0_2 s0_3 s0_4) (hB : Below w0.heap.size w0 w) (h : disk_Disk_Sync.f s0_0 s0_1 s0_2 s0_3 s0_4 = some (r1, r2, r3, r4, r5)) :
    Calls Try.prog 16 #[.pointer (some ⟨g, 0, none⟩)] w fun e w' => e = .returned (.tuple #[]) ∧ IsS49 w0 w' g r1 r2 r3 r4 r5 ∧ Below w0.heap.size w0 w' ∧ KeepBut w w' g none := by
  obtain ⟨A, c, h1, h2, h3⟩ := id hI
  refine (Dk.sync g _ _ _ _ _ _ _ w h1).mono ?_
  rintro e w' ⟨rfl, rfl⟩
  refine ⟨rfl, ?_⟩
  unfold disk_Disk_Sync.f at h
  cases s0_4
  · simp only [Bool.false_eq_true, if_false, Option.some.injEq, Prod.mk.injEq] at h ⊢
    obtain ⟨rfl, rfl, rfl, rfl, rfl⟩ := h
    rw [nb_length]
    exact ⟨IsS49.set_1 hI _, hB.setCell (p := ⟨g, 1, none⟩) h3 _, KeepBut.set_ (KeepBut.refl w g none) 1 _⟩
  · simp only [if_true, Option.some.injEq, Prod.mk.injEq] at h ⊢
    obtain ⟨rfl, rfl, rfl, rfl, rfl⟩ := h
    exact ⟨hI, hB, KeepBut.refl _ _ _⟩
/-! ### Bytes, Append, Crash, Cut -/
def disk_Disk_Bytes.f (s0_0 : ByteArray) (s0_1 : Int) (s0_2 : Int) (s0_3 : Int) (s0_4 : Bool) : Option (List Int × ByteArray × Int × Int × Int × Bool) := if s0_0.size ≤ 60000 then some (nb s0_0, s0_0, s0_1, s0_2, s0_3, s0_4) else none
theorem disk_Disk_Bytes.calls (g : Nat) (s0_0 : ByteArray) (s0_1 : Int) (s0_2 : Int) (s0_3 : Int) (s0_4 : Bool) (r1 : List Int) (r2 : ByteArray) (r3 : Int) (r4 : Int) (r5 : Int) (r6 : Bool) (w0 w : World) (hI : IsS49 w0 w g s0_0 s0_1 s0_2 s0_3 s0_4) (hB : Below w0.heap.size w0 w) (h : disk_Disk_Bytes.f s0_0 s0_1 s0_2 s0_3 s0_4 = some (r1, r2, r3, r4, r5, r6)) :
    Calls Try.prog 12 #[.pointer (some ⟨g, 0, none⟩)] w fun e w' => ∃ v0_ : Value, e = .returned (v0_) ∧ Kd.R (Kd.int .u8) 5 w' w.heap.size (fun _ => True) v0_ r1 ∧ IsS49 w0 w' g r2 r3 r4 r5 r6 ∧ Below w0.heap.size w0 w' ∧ KeepBut w w' g none := by
  unfold disk_Disk_Bytes.f at h
  split at h
  · simp only [Option.some.injEq, Prod.mk.injEq] at h
    obtain ⟨rfl, rfl, rfl, rfl, rfl, rfl⟩ := h
    obtain ⟨A, c, h1, h2, h3⟩ := id hI
    refine (Dk.bytes g _ _ _ _ _ _ _ w h1 (Kd.R_reads' h2).2.2 (by rw [nb_length]; assumption)).mono ?_
    rintro e w' ⟨u, rfl, hu, hb⟩
    exact ⟨u, rfl, hu, IsS49.below hI hb, hB.trans (hb.mono hB.size), KeepBut.of_below hb _ _⟩
  · cases h
def disk_Disk_Append.f (s0_0 : ByteArray) (s0_1 : Int) (s0_2 : Int) (s0_3 : Int) (s0_4 : Bool) (l1 : List Int) : Option (Int × ByteArray × Int × Int × Int × Bool) :=
  if Gd s0_0 s0_1 s0_2 s0_3 ∧ inB l1 then
    (if s0_4 = true then some (82, s0_0, s0_1, s0_2, s0_3, true)
     else if mx 0 (s0_2 - (s0_0.size : Int)) < (l1.length : Int) then some (81, s0_0, s0_1, s0_2, s0_3, false)
     else if s0_3 = -1 then some (0, s0_0 ++ strOfNums l1, s0_1, s0_2, s0_3, false)
     else if (l1.length : Int) ≤ s0_3 then some (0, s0_0 ++ strOfNums l1, s0_1, s0_2, s0_3 - l1.length, false)
     else some (82, s0_0 ++ strOfNums (l1.take s0_3.toNat), s0_1, s0_2, s0_3, true))
  else none
theorem left_state {w w0 w' : World} {g n c : Nat} {A : Option Addr} {d : ByteArray} {bs xs : List Int} {s r f : Int} {o : Bool} {ok : Nat → Prop} (hb : inB bs) (hR : Kd.R (Kd.int .u8) 5 w w0.heap.size ok (.slice A n c) xs) (hg : w0.heap.size ≤ g) (h : Dk.Left w w0 w' w0.heap.size g A n c (nb d ++ bs) s r f o) :
    IsS49 w0 w' g (d ++ strOfNums bs) s r f o ∧ Below w0.heap.size w0 w' ∧ KeepT w w' g := by
  obtain ⟨A', c', h1, h2, h3, h4, h5⟩ := h
  rw [← nb_app d bs hb] at h1 h2
  exact ⟨⟨A', c', h1, h2, hg⟩, h3, KeepT.of_kept h4 hR⟩
theorem KeepT.drew {w w' : World} {g : Nat} (h : KeepT w w' g) : KeepT w w'.drew g := h
theorem disk_Disk_Append.calls (g : Nat) (s0_0 : ByteArray) (s0_1 : Int) (s0_2 : Int) (s0_3 : Int) (s0_4 : Bool) (A1 : Option Addr) (c1 : Nat) (l1 : List Int) (r1 : Int) (r2 : ByteArray) (r3 : Int) (r4 : Int) (r5 : Int) (r6 : Bool) (w0 w : World) (hI : IsS49 w0 w g s0_0 s0_1 s0_2 s0_3 s0_4) (hB : Below w0.heap.size w0 w) (hr1 : Kd.C (Kd.int .u8) w A1 l1.length l1) (hc1 : l1.length ≤ c1) (hf1 : ∀ ad, A1 = some ad → 0 < l1.length → ad.block ≠ g) (h : disk_Disk_Append.f s0_0 s0_1 s0_2 s0_3 s0_4 l1 = some (r1, r2, r3, r4, r5, r6)) :
    Calls Try.prog 11 #[.pointer (some ⟨g, 0, none⟩), .slice A1 l1.length c1] w fun e w' => e = .returned (.int .i64 r1) ∧ IsS49 w0 w' g r2 r3 r4 r5 r6 ∧ Below w0.heap.size w0 w' ∧ KeepT w w' g := by
  obtain ⟨A, c, h1, h2, h3⟩ := id hI
  unfold disk_Disk_Append.f at h
  split at h
  case isFalse => cases h
  case isTrue hG =>
  obtain ⟨⟨g1, g2, g3, g4, g5, g6, g7⟩, hin⟩ := hG
  have hl := nb_length s0_0
  split at h
  · simp only [Option.some.injEq, Prod.mk.injEq] at h
    obtain ⟨rfl, rfl, rfl, rfl, rfl, rfl⟩ := h
    rename_i ho
    subst ho
    refine (Dk.append_off g _ _ _ _ _ w h1).mono ?_
    rintro e w' ⟨rfl, rfl⟩
    exact ⟨rfl, hI, hB, KeepT.refl _ _⟩
  rename_i ho
  obtain rfl : s0_4 = false := by simpa using ho
  split at h
  · rename_i hm
    simp only [Option.some.injEq, Prod.mk.injEq] at h
    obtain ⟨rfl, rfl, rfl, rfl, rfl, rfl⟩ := h
    refine (Dk.append_full g A A1 _ c _ c1 _ _ _ w h1 (by omega) g4 g5 (by rw [hl]; exact hm)).mono ?_
    rintro e w' ⟨rfl, rfl⟩
    exact ⟨rfl, IsS49.drew hI, hB.drew, KeepT.drew (KeepT.refl _ _)⟩
  rename_i hm
  have hm' : (l1.length : Int) ≤ mx 0 (s0_2 - ((nb s0_0).length : Int)) := by rw [hl]; omega
  split at h
  · rename_i hf
    simp only [Option.some.injEq, Prod.mk.injEq] at h
    obtain ⟨rfl, rfl, rfl, rfl, rfl, rfl⟩ := h
    subst hf
    refine (Dk.append_fits g A A1 c c1 _ l1 _ _ w w0 _ h1 h2 hr1 hB h3 (by omega) g4 g5 hm').mono ?_
    rintro e w' ⟨rfl, hL⟩
    exact ⟨rfl, left_state hin h2 h3 hL⟩
  rename_i hf
  split at h
  · rename_i hf2
    simp only [Option.some.injEq, Prod.mk.injEq] at h
    obtain ⟨rfl, rfl, rfl, rfl, rfl, rfl⟩ := h
    refine (Dk.append_less g A A1 c c1 _ l1 _ _ _ w w0 _ h1 h2 hr1 hf1 hB h3 (by omega) g4 g5 hm' hf2 g7).mono ?_
    rintro e w' ⟨rfl, hL⟩
    exact ⟨rfl, left_state hin h2 h3 hL⟩
  · rename_i hf2
    simp only [Option.some.injEq, Prod.mk.injEq] at h
    obtain ⟨rfl, rfl, rfl, rfl, rfl, rfl⟩ := h
    refine (Dk.append_blow g A A1 c c1 _ l1 _ _ _ w w0 _ h1 h2 hr1 hf1 hB h3 (by omega) g4 g5 hm' hc1 (by omega) (by omega)).mono ?_
    rintro e w' ⟨rfl, hL⟩
    exact ⟨rfl, left_state (inB_take hin _) h2 h3 hL⟩
theorem nb_take (d : ByteArray) (m : Nat) : nb (strOfNums ((nb d).take m)) = (nb d).take m := nb_str (inB_take (nb_in d) m)
theorem cut_state {w w0 w' : World} {g c m : Nat} {A : Option Addr} {d : ByteArray} {s r f s' f' : Int} {o' : Bool} (h2 : Kd.R (Kd.int .u8) 5 w w0.heap.size (fun _ => True) (.slice A (nb d).length c) (nb d)) (hg : w0.heap.size ≤ g) (hm : m ≤ (nb d).length) (h1 : Dk.At w' g (.slice A m c) s' r f' o') (hne : some g ≠ (.slice A (nb d).length c : Value).ownBlock) (hk : KeepBut w w' g none) :
    IsS49 w0 w' g (strOfNums ((nb d).take m)) s' r f' o' := by
  have hlen : ((nb d).take m).length = m := by rw [List.length_take]; omega
  refine ⟨A, c, by rw [nb_take, hlen]; exact h1, ?_, hg⟩
  rw [nb_take, hlen]
  have hh : Kd.R (Kd.int .u8) 5 w' w0.heap.size (fun _ => True) (.slice A (nb d).length c) (nb d) := Kd.R_mono (Kd.R_keep (Kd.R_tight rfl h2) hk (fun k hk e => hne (by rw [← e]; exact hk))) (fun _ _ => trivial)
  exact Kd.R_take hh hm
def disk_Disk_Crash.f (s0_0 : ByteArray) (s0_1 : Int) (s0_2 : Int) (s0_3 : Int) (s0_4 : Bool) (a1 : Int) : Option (ByteArray × Int × Int × Int × Bool) :=
  if Gd s0_0 s0_1 s0_2 s0_3 then some (strOfNums ((nb s0_0).take (s0_1 + mx 0 (mn a1 ((s0_0.size : Int) - s0_1))).toNat), s0_1 + mx 0 (mn a1 ((s0_0.size : Int) - s0_1)), s0_2, -1, false) else none
theorem disk_Disk_Crash.calls (g : Nat) (s0_0 : ByteArray) (s0_1 : Int) (s0_2 : Int) (s0_3 : Int) (s0_4 : Bool) (a1 : Int) (r1 : ByteArray) (r2 : Int) (r3 : Int) (r4 : Int) (r5 : Bool) (w0 w : World) (hI : IsS49 w0 w g s0_0 s0_1 s0_2 s0_3 s0_4) (hB : Below w0.heap.size w0 w) (h : disk_Disk_Crash.f s0_0 s0_1 s0_2 s0_3 s0_4 a1 = some (r1, r2, r3, r4, r5)) :
    Calls Try.prog 17 #[.pointer (some ⟨g, 0, none⟩), .int .i64 a1] w fun e w' => e = .returned (.tuple #[]) ∧ IsS49 w0 w' g r1 r2 r3 r4 r5 ∧ Below w0.heap.size w0 w' ∧ KeepBut w w' g none := by
  obtain ⟨A, c, h1, h2, h3⟩ := id hI
  unfold disk_Disk_Crash.f at h
  split at h
  case isFalse => cases h
  case isTrue hG =>
  obtain ⟨g1, g2, g3, g4, g5, g6, g7⟩ := hG
  have hl := nb_length s0_0
  simp only [Option.some.injEq, Prod.mk.injEq] at h
  obtain ⟨rfl, rfl, rfl, rfl, rfl⟩ := h
  have hn := Dk.R_none h2
  refine (Dk.crash g A _ c _ _ _ _ a1 w h1 g2 (by omega) (by omega) hn.1 hn.2).mono ?_
  rintro e w' ⟨rfl, m, hm, hle, hat, hb, hk⟩
  rw [hl] at hm
  rw [← hm]
  exact ⟨rfl, cut_state (s := s0_1) (f := s0_3) h2 h3 hle hat (Kd.R_ne h2 h1 (by decide)) hk, hB.trans (hb.mono h3), hk⟩
def disk_Disk_Cut.f (s0_0 : ByteArray) (s0_1 : Int) (s0_2 : Int) (s0_3 : Int) (s0_4 : Bool) (a1 : Int) : Option (ByteArray × Int × Int × Int × Bool) :=
  if Gd s0_0 s0_1 s0_2 s0_3 then (if s0_4 = true then some (s0_0, s0_1, s0_2, s0_3, s0_4) else some (strOfNums ((nb s0_0).take (mx 0 (mn a1 (s0_0.size : Int))).toNat), mn s0_1 (mx 0 (mn a1 (s0_0.size : Int))), s0_2, s0_3, false)) else none
theorem disk_Disk_Cut.calls (g : Nat) (s0_0 : ByteArray) (s0_1 : Int) (s0_2 : Int) (s0_3 : Int) (s0_4 : Bool) (a1 : Int) (r1 : ByteArray) (r2 : Int) (r3 : Int) (r4 : Int) (r5 : Bool) (w0 w : World) (hI : IsS49 w0 w g s0_0 s0_1 s0_2 s0_3 s0_4) (hB : Below w0.heap.size w0 w) (h : disk_Disk_Cut.f s0_0 s0_1 s0_2 s0_3 s0_4 a1 = some (r1, r2, r3, r4, r5)) :
    Calls Try.prog 18 #[.pointer (some ⟨g, 0, none⟩), .int .i64 a1] w fun e w' => e = .returned (.tuple #[]) ∧ IsS49 w0 w' g r1 r2 r3 r4 r5 ∧ Below w0.heap.size w0 w' ∧ KeepBut w w' g none := by
  obtain ⟨A, c, h1, h2, h3⟩ := id hI
  unfold disk_Disk_Cut.f at h
  split at h
  case isFalse => cases h
  case isTrue hG =>
  obtain ⟨g1, g2, g3, g4, g5, g6, g7⟩ := hG
  have hl := nb_length s0_0
  split at h
  · rename_i ho
    subst ho
    simp only [Option.some.injEq, Prod.mk.injEq] at h
    obtain ⟨rfl, rfl, rfl, rfl, rfl⟩ := h
    refine (Dk.cut_off g _ _ _ _ a1 w h1).mono ?_
    rintro e w' ⟨rfl, rfl⟩
    exact ⟨rfl, hI, hB, KeepBut.refl _ _ _⟩
  · rename_i ho
    obtain rfl : s0_4 = false := by simpa using ho
    simp only [Option.some.injEq, Prod.mk.injEq] at h
    obtain ⟨rfl, rfl, rfl, rfl, rfl⟩ := h
    have hn := Dk.R_none h2
    refine (Dk.cut_on g A _ c _ _ _ a1 w h1 (by omega) hn.1 hn.2).mono ?_
    rintro e w' ⟨rfl, m, hm, hle, hat, hb, hk⟩
    rw [hl] at hm
    rw [← hm]
    exact ⟨rfl, cut_state (s := s0_1) (f := s0_3) h2 h3 hle hat (Kd.R_ne h2 h1 (by decide)) hk, hB.trans (hb.mono h3), hk⟩
end Go.Proofs.Ythoeoooccmjjaaa.PDsk
